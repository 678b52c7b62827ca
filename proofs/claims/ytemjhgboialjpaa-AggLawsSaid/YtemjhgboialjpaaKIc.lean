/-
corollarylaw16.AggLaws:the walk. Conditions:none.
-/
import Derived.Test.YtemjhgboialjpaaKd
import Derived.Test.YtemjhgboialjpaaKn
open Nat renaming reduceAdd→jA,reduceSub→jB,reduceLT→jC,reduceLeDiff→jD,reduceEqDiff→jE
open Int renaming reduceToNat→jF,toNat_natCast→jG,natCast_add→jH,natCast_one→jI,natCast_zero→jJ
open List renaming length_map→jK,length_cons→jL,length_nil→jM,replicate_succ→jN,replicate_zero→jO,cons_append→jP,nil_append→jQ
set_option linter.unusedSimpArgs false
set_option linter.unusedVariables false
set_option linter.unusedSectionVars false
namespace Go.Proofs.Ytemjhgboialjpaa
open Go.RowKit Go.Sort
attribute [local irreducible] IntKind.wrap
theorem vN(g:Int)(c K:Nat):∀n out l,(∀t∈l,t.length≤K)→(∀t∈out,t.length≤K)→(∀t∈(gF g c n out l).1,t.length≤K)∧(gF g c n out l).1.length≤out.length+l.length
 |0,out,l,_,ho=>⟨fun t ht=>ho t (((bD c3T out).2 t).1 ht),by have:=iV (c:=cF) out;simp only[gF];omega⟩
 |n+1,out,[],_,ho=>⟨fun t ht=>ho t (((bD c3T out).2 t).1 ht),by have:=iV (c:=cF) out;simp only[gF,jM];omega⟩
 |n+1,out,t::l,hl,ho=>by
  rw[gF]
  split
  ·exact⟨by simp,by simp⟩
  have hm:=kR c t l
  have:=vN g c K n (out++[t.set c (fF g (fX c (bQ c t) (t::l))).1]) (oK c (bQ c t) (t::l)) (fun s hs=>hl s (List.mem_filter.1 hs).1) (fun s hs=>by
   rcases List.mem_append.1 hs with k|k
   ·exact ho s k
   rw[List.mem_singleton.1 k,List.length_set];exact hl t (by simp))
  refine⟨this.1,?_⟩
  have h2:=this.2
  simp only[List.length_append,jL,jM] at h2⊢
  omega
theorem yL(g col:Int)(K:Nat)(rows:List (List Vl))(h:∀t∈rows,t.length≤K):(∀t∈(bC g col rows).1,t.length≤K)∧(bC g col rows).1.length≤rows.length:=by
 have hs:∀t∈cD cF rows,t.length≤K:=fun t ht=>h t (((bD c3T rows).2 t).1 ht)
 have hn:=iV (c:=cF) rows
 unfold bC
 repeat' split
 ·exact⟨by simp,by simp⟩
 ·exact⟨by simp,by simp⟩
 ·exact⟨hs,hn⟩
 have:=vN g col.toNat K (cD cF rows).length [] (cD cF rows) hs (by simp)
 exact⟨this.1,by have:=this.2;simp only[iZ,jM] at this⊢;omega⟩
def kJ(l:List TR)(k:Nat):List TR:=(l.reverse.take k).flatMap fun p=>[p,p]
theorem zF(l:List TR)(k:Nat)(h:k<l.length):kJ l (k+1)=kJ l k++[l[l.length-1-k],l[l.length-1-k]]:=by
 unfold kJ
 rw[List.take_succ_eq_append_getElem (by simpa using h),List.flatMap_append]
 simp
theorem tL(l:List TR)(k:Nat):(kJ l k).length≤2*l.length:=by
 have:∀q:List TR,(q.flatMap fun p=>[p,p]).length=2*q.length:=fun q=>by
  induction q with
  |nil=>rfl
  |cons a q ih=>simp only[List.flatMap_cons,List.length_append,jL,jM,ih];omega
 unfold kJ
 rw[this,List.length_take,List.length_reverse];omega
theorem aBf(l:List TR)(p:TR):p∈kJ l l.length↔p∈l:=by
 unfold kJ
 rw[List.take_of_length_le (by simp)]
 simp
set_option maxRecDepth 100000 in
set_option maxHeartbeats 4000000 in
theorem xB(g col:Int)(o:Own)(l:List TR)(hok:∀p∈l,p.ok):bL Try.prog 4 [.int .i64 g, .int .i64 col,tps o l] Hp.none (.bool true):=by
 refine aR (fun L=>trivial) fun h' nx hh=>aD L.corollarylaw16_AggLaws_low fun hd=>?_
 simp only[jL,jM,jA,jB,jN,jO,jP,jQ,V.undef]
 have C1:=fun h=>uY h
 have C2:=fun h=>wE o l h
 cases hL:uK (aJ l) with
 |true=>
  rw[hL] at C2
  refine au ?_
  exact aC h' (leo hd) ⟨rfl,rfl⟩
 |false=>
 rw[hL] at C2
 have hrl:(aJ l).length=l.length:=jK ..
 simp only[uK,hrl,Bool.or_eq_false_iff,decide_eq_false_iff_not] at hL
 have hl:l.length≤60:=by omega
 have h50:∀p∈l,p.2.length≤50:=fun p hp=>sX _ _ hL.2 p.2 (List.mem_map.2 ⟨p,hp,rfl⟩)
 have hw0:IntKind.i64.wrap ((l.length:Int)-1)=(l.length:Int)-1:=wrp
 refine aue (e2 (@jK TR V) hw0) ?_
 refine bH (fun q:Nat×Own=>aI 101 0 [(0, .int .i64 g),(1, .int .i64 col),(2,tps o l),(7,tps q.2 (kJ l q.1)),(8, .int .i64 ((l.length:Int)-1-q.1))])
  (fun q hp nx1=>q.1≤l.length∧nx+1≤nx1∧aW hp nx1∧Hp.same nx h' hp∧vC hp nx q.2) (fun q=>l.length-q.1) (0, .tok nx) ⟨Nat.zero_le _,by first|omega|(dsimp only;omega),dmo hd,kep Hp.same.rfl',vC.new (Nat.le_refl _)⟩ (by simp only[WkL,aI,jH,jI,jJ,tps,kJ,List.take_zero,List.flatMap_nil,List.map_nil,Int.sub_zero,go_sem,reduceIte,jA,jB,jC,jD,reduceCtorEq,jE,jF]) ?_
 rintro⟨k,ob⟩ hp nx1 ⟨hk,hnx,hdm,hsm,hacc⟩
 generalize hQ:bZ _ _ _ _ _=Q0
 dsimp only at hk hacc
 simp only[aI,go_sem,reduceIte,jA,jB,jC,jD,reduceCtorEq,jE,jF]
 rcases Nat.lt_or_ge k l.length with hlt|hge
 ·obtain⟨j,hj⟩:∃j:Nat,l.length-1-k=j:=⟨_,rfl⟩
  have hji:(l.length:Int)-1-k=(j:Int):=by omega
  have hjl:j<l.length:=by omega
  have hc:decide (0≤(j:Int))=true:=dct
  have hw:IntKind.i64.wrap ((j:Int)-1)=(l.length:Int)-1-((k+1:Nat):Int):=wrp
  have hg:(l.map TR.v).getD j (.tup [])=vls l[j].1 l[j].2:=aQ TR.v l j hjl
  have hn:=zF l k hlt
  have hbl:=tL l k
  have hcap:(kJ l k).length≤1000:=by omega
  have hfl:∀p:TR,V.fits .leaf (vls p.1 p.2)=true:=fun p=>rfl
  obtain⟨id,hid,rfl,htip⟩:=hacc
  have hidn:id<nx1:=hdm _ _ htip
  have hco:∀deps adds,kI hp nx1 deps adds [none,none,none,none,none,none,none,none,none,none] id .tip:=fun _ _=>aBa hidn htip (by simp[cL])
  refine aue (e9 hji hc hjl hg (@jK TR V) jG hfl hco hw) ?_
  rw[←hQ]
  have hdl:(((hp.set (nx1+9) .tip).set (nx1+10) .tip).del id) (nx1+10)=some .tip:=by
   simp only[Hp.set_app,Hp.del_app];rw[if_neg (by omega)];simp
  refine aL (k+1, .tok (nx1+10)) (by dsimp only;omega) ⟨hlt,by omega,dmo hdm,iW (fC (fC hsm (by omega) _) (by omega) _) hid,nx1+10,by omega,rfl,hdl⟩ ?_
  simp only[WkL,aI,jH,jI,jJ,tps,hw,hn,List.map_append,List.map_cons,List.map_nil,go_sem,reduceIte,jA,jB,jC,jD,reduceCtorEq,jE,jF]
  subst hj
  rfl
 have hc:decide (0≤(l.length:Int)-1-(k:Int))=false:=dcf
 have hke:k=l.length:=by omega
 subst hke
 obtain⟨B,hB⟩:∃B,kJ l l.length=B:=⟨_,rfl⟩
 have hBm:∀p,p∈B↔p∈l:=fun p=>by rw[←hB];exact aBf l p
 have hBl:B.length≤2*l.length:=by rw[←hB];exact tL l _
 rw[hB]
 have hle:=hsm.le hd (Hp.le_refl _)
 have hRB:bC g col (aJ B)=bC g col (aJ l):=yM fun z=>by
  simp only[aJ,List.mem_map]
  exact⟨fun⟨p,h1,h2⟩=>⟨p,(hBm p).1 h1,h2⟩,fun⟨p,h1,h2⟩=>⟨p,(hBm p).2 h1,h2⟩⟩
 refine aue hc ?_
 rw[←hQ]
 clear hQ Q0 C1 C2
 refine au ?_
 refine aV ((kB g col o l (by omega) (fun p hp=>⟨by have:=h50 p hp;omega,hok p hp⟩) _ _).dom.mono ?_)
 rintro v h2 nx2 hnx2 ⟨⟨za,rfl,hza,hoa,rfl⟩,hd2,_⟩
 dsimp only at hnx2 hd2
 unfold cT
 simp only[go_sem,reduceIte,jA,jB,jC,jD,reduceCtorEq,jE,jF]
 obtain⟨oa,hoa2⟩:=pW .leaf (za.map TR.v)
 rw[hoa2]
 refine au ?_
 refine aV ((kB g col ob B (by omega) (fun p hp=>⟨by have:=h50 p ((hBm p).1 hp);omega,hok p ((hBm p).1 hp)⟩) _ _).dom.mono ?_)
 rintro v h3 nx3 hnx3 ⟨⟨zb,rfl,hzb,hob,rfl⟩,hd3,_⟩
 dsimp only at hnx3 hd3
 unfold cT
 simp only[go_sem,reduceIte,jA,jB,jC,jD,reduceCtorEq,jE,jF]
 obtain⟨ob2,hob2⟩:=pW .leaf (zb.map TR.v)
 rw[hob2]
 rw[hRB] at hzb⊢
 have hgl:=yL g col 50 (aJ l) (fun t ht=>by
  obtain⟨p,hp,rfl⟩:=List.mem_map.1 ht
  exact h50 p hp)
 have hgs:=yJ g col (aJ l)
 have hge2:=yN (g:=g) (col:=col) (rows:=aJ l)
 have hgm:3≤g→(bC g col (aJ l)).2=0→∀t∈(bC g col (aJ l)).1,t∈aJ l:=fun h1 h2=>yK h1 h2
 rw[←hza] at hgl hgs hge2 hgm
 have hzab:aJ za=aJ zb:=by rw[hza,hzb]
 generalize (bC g col (aJ l)).2=n at hge2 hgm⊢
 have hzl:za.length≤l.length:=by have:=hgl.2;simpa using this
 have hz50:∀p∈za,p.2.length≤50:=fun p hp=>hgl.1 p.2 (List.mem_map.2 ⟨p,hp,rfl⟩)
 have C1:=fun h=>aAy n h
 have C2:=fun h=>jR oa ob2 za zb (by omega) (fun p hp=>by have:=hz50 p hp;omega) h
 rw[decide_eq_true hzab] at C2
 have C3:=fun h=>zG oa za (by omega) (fun p hp=>by have:=hz50 p hp;omega) hgs h
 have hnn:(n != n)=false:=by simp
 refine aue (e2 hnn zK) ?_
 cases he:decide (n=0) with
 |false=>
  have hza0:za=[]:=by
   have:=hge2 (of_decide_eq_false he)
   simpa using this
  have hz0:((za.length:Int)==0)=true:=by rw[hza0];rfl
  refine pC ?_
  refine aue (e2 hz0 (@jK TR V)) ?_
  exact aC h' (lef hd hle) ⟨rfl,rfl⟩
 |true=>
 refine uV ?_
 have hgm:=fun h=>hgm h (of_decide_eq_true he)
 clear C1 C2 C3 hge2 he
 by_cases hg3:g<3
 ·have c3:decide (g<3)=true:=dct
  refine aue c3 ?_
  exact aC h' (lef hd hle) ⟨rfl,rfl⟩
 have c3:decide (g<3)=false:=dcf
 have hin:∀p∈za,p.2∈aJ l:=fun p hp=>hgm (by omega) _ (List.mem_map.2 ⟨p,hp,rfl⟩)
 refine aue (e2 c3 (@jK TR V)) ?_
 refine bH (fun i:Nat=>aI 101 0 [(2,tps o l),(78,tps oa za),(79, .int .i64 za.length),(80, .int .i64 i)]) (fun i hp nx1=>i≤za.length∧nx3≤nx1∧aW hp nx1∧Hp.same nx h' hp) (fun i=>za.length-i) 0 ⟨Nat.zero_le _,Nat.le_refl _,hd3,hsm⟩ (by simp only[WkL,aI,jH,jI,jJ,tps,go_sem,reduceIte,jA,jB,jC,jD,reduceCtorEq,jE,jF]) ?_
 rintro i hp2 nx4 ⟨hi,hnx4,hdm4,hsm4⟩
 generalize hQ:bZ _ _ _ _ _=Q0
 simp only[aI,go_sem,reduceIte,jA,jB,jC,jD,reduceCtorEq,jE,jF]
 have hle4:=hsm4.le hd (Hp.le_refl _)
 rcases Nat.lt_or_ge i za.length with hlt|hge
 ·have hc:decide ((i:Int)<(za.length:Int))=true:=dct
  have hw:IntKind.i64.wrap ((i:Int)+1)=((i+1:Nat):Int):=wrp
  obtain⟨x,hx⟩:∃x,za[i]=x:=⟨_,rfl⟩
  have hxm:x∈za:=hx▸List.getElem_mem _
  have hg:(za.map TR.v).getD i (.tup [])=vls x.1 x.2:=by rw[aQ TR.v za i hlt,hx];rfl
  refine aue (e5 hc hg hlt (@jK TR V) jG) ?_
  refine bH (fun j:Nat=>aI 101 0 [(2,tps o l),(14,vls x.1 x.2),(15, .bool (decide (x.2∈aJ (l.take j)))),(78,tps oa za),(79, .int .i64 za.length),(80, .int .i64 i),(84,tps o l),(85, .int .i64 l.length),(86, .int .i64 j)]) (fun j hp nx1=>j≤l.length∧nx3≤nx1∧aW hp nx1∧Hp.same nx h' hp) (fun j=>l.length-j) 0 ⟨Nat.zero_le _,by first|omega|(dsimp only;omega),dmo hdm4,hsm4⟩ (by simp only[WkL,aI,jH,jI,jJ,tps,List.take_zero,aJ,List.map_nil,List.not_mem_nil,decide_false,go_sem,reduceIte,jA,jB,jC,jD,reduceCtorEq,jE,jF]) ?_
  rintro j hp5 nx5 ⟨hj,hnx5,hdm5,hsm5⟩
  generalize hQ2:bZ _ _ _ _ _=Q2
  simp only[aI,go_sem,reduceIte,jA,jB,jC,jD,reduceCtorEq,jE,jF]
  have hle5:=hsm5.le hd (Hp.le_refl _)
  rcases Nat.lt_or_ge j l.length with hlj|hgj
  ·have hcj:decide ((j:Int)<(l.length:Int))=true:=dct
   have hwj:IntKind.i64.wrap ((j:Int)+1)=((j+1:Nat):Int):=wrp
   have hgj:(l.map TR.v).getD j (.tup [])=vls l[j].1 l[j].2:=aQ TR.v l j hlj
   have C1:=fun h=>kN x.1 x.2 l[j].2 (by have:=hz50 x hxm;omega) (vls l[j].1 l[j].2) h (.inl ⟨_,rfl⟩)
   have hnext:decide (x.2∈aJ (l.take (j+1)))=(decide (x.2∈aJ (l.take j))||(cF x.2 l[j].2==0)):=by
    rw[List.take_succ_eq_append_getElem hlj,Bool.eq_iff_iff]
    simp only[aJ,List.map_append,List.map_cons,List.map_nil,List.mem_append,List.mem_singleton,decide_eq_true_eq,Bool.or_eq_true,beq_iff_eq,c3T.eq]
   have E:=e6 hcj hwj hgj hlj (@jK TR V) jG
   cases hm:decide (x.2∈aJ (l.take j)) with
   |true=>
    rw[hm,Bool.true_or] at hnext
    refine aue (e3 E Bool.true_or hm) ?_
    rw[←hQ2]
    exact aL (j+1) (by omega) ⟨hlj,by omega,dmo hdm5,kep hsm5⟩ (by simp only[WkL,aI,jH,jI,jJ,hwj,hnext,go_sem,reduceIte,jA,jB,jC,jD,reduceCtorEq,jE,jF])
   |false=>
    rw[hm,Bool.false_or] at hnext
    refine aue (e3 E Bool.false_or hm) ?_
    rw[←hQ2]
    exact aL (j+1) (by omega) ⟨hlj,by omega,dmo hdm5,kep hsm5⟩ (by simp only[WkL,aI,jH,jI,jJ,hwj,hnext,go_sem,reduceIte,jA,jB,jC,jD,reduceCtorEq,jE,jF])
  have hcj:decide ((j:Int)<(l.length:Int))=false:=dcf
  have hin2:decide (x.2∈aJ (l.take j))=true:=by
   rw[List.take_of_length_le hgj];exact decide_eq_true (hin x hxm)
  refine aue (e4 hcj hin2 Bool.not_true Bool.not_false) ?_
  rw[←hQ2]
  clear hQ2 Q2
  refine aue (e4 hw hin2 Bool.not_true Bool.not_false) ?_
  rw[←hQ]
  exact aL (i+1) (by omega) ⟨hlt,hnx5,hdm5,hsm5⟩ (by simp only[WkL,aI,jH,jI,jJ,hw,tps,go_sem,reduceIte,jA,jB,jC,jD,reduceCtorEq,jE,jF])
 have hc:decide ((i:Int)<(za.length:Int))=false:=dcf
 refine aue hc ?_
 rw[←hQ]
 refine au ?_
 exact aC h' (lef hd hle4) ⟨rfl,rfl⟩
end Go.Proofs.Ytemjhgboialjpaa
