/-
Texts of this proof,one behind the other. No conditions.
-/
import Derived.Test.YtgbiopfghdilnaaGreatDoorKd
import Derived.Test.YtgbiopfghdilnaaGreatDoorKt
import Derived.Test.YtgbiopfghdilnaaGreatDoorKlb
import Derived.Test.YtgbiopfghdilnaaGreatDoorKl
open List renaming range→Ka,getD_eq_getElem?_getD→Kb,getElem?_eq_getElem→Kc,getElem_mem→Kd,map_append→Ke,length_range→Kg,length_filter_le→Kh,take_of_length_le→Kj,mem_range→Kk,replicate→Km,mem_of_mem_take→Ko,filter_eq_self→Kp,length_append→Kq,append_nil→Ku,nodup_cons→Kv,mem_filter→Kw,take_zero→Kx,map_nil→Ky
open Nat renaming mul_le_mul_right→Kf,lt_or_ge→Ki,le_trans→Ks,zero_le→Kt,le_refl→Kz
open Nat renaming reduceAdd→jA,reduceSub→jB,reduceLT→jC,reduceLeDiff→jD,reduceEqDiff→jE
open Int renaming reduceToNat→jF,toNat_natCast→jG,natCast_add→jH,natCast_one→jI,natCast_zero→jJ
open List renaming length_map→jK,length_cons→jL,length_nil→jM,replicate_succ→jN,replicate_zero→jO,cons_append→jP,nil_append→jQ
set_option linter.unusedSimpArgs false
set_option linter.unusedVariables false
set_option linter.unusedSectionVars false
set_option maxHeartbeats 8000000
namespace Go.Proofs.YtgbiopfghdilnaaGreatDoor
open Go.RowKit Go.Sort
attribute [local irreducible] IntKind.wrap
set_option maxHeartbeats 4000000
section
variable{P:Program}{r:List aA}{Qs:St→Prop}{s:St}{dst:Option Nat}
theorem fV{k:Sh}{bs n0:Nat}{x y:aJ}{o:Own}{es ys:List V}(hx:x.ev s.sl= .sl k o es)(ha:Acc s.h n0 o es)(hn:n0≤s.nx)(hd:aQ s.h s.nx)(hy:dF s.h (y.ev s.sl)=some (k,ys))(hb:(es.length+ys.length)*bs≤140737488355328)
 (hq:∀o' h',Acc h' n0 o' (es++ys)→aQ h' (s.nx+1)→(∀m,o'= .tok m→m=s.nx)→(∀m,m<n0→h' m=s.h m)→(∀m,m<s.nx→o≠ .tok m→h' m=s.h m)→aW P r Qs ⟨bG s.sl dst (.sl k o' (es++ys)),h',s.nx+1⟩):aW P (⟨dst,none, .append k bs x y⟩::r) Qs s:=by
 rcases ha with⟨rfl,rfl⟩|⟨hne,id,hid,rfl,ht⟩
 ·by_cases hys:ys=[]
  ·subst hys;have:=hq .nil s.h (.inl ⟨rfl,rfl⟩) (hd.up or) (fun _ e=>by cases e) (fun _ _=>rfl) (fun _ _ _=>rfl);unfold aW;simp only[LOp.run,LOp.sem,hy,hx,true_and];exact⟨hb, .inl ⟨trivial,this⟩⟩
  refine gn hx trivial hy hys hb ?_;exact hq (.tok s.nx) _ (.inr ⟨by simpa using hys,s.nx,hn,rfl,by simp[Hp.set]⟩) (dmo hd) (fun m e=>by injection e with e;exact e.symm) (fun m hm=>by simp only[Hp.set,Hp.aA7];rw[if_neg or]) (fun m hm _=>by simp only[Hp.set,Hp.aA7];rw[if_neg or])
 refine uX hx ht hy hb ?_;exact hq (.tok s.nx) _ (.inr ⟨by simp[hne],s.nx,hn,rfl,by simp[Hp.set]⟩) (dmo hd) (fun m e=>by injection e with e;exact e.symm) (fun m hm=>by simp only[Hp.set,Hp.del];rw[if_neg or,if_neg or]) (fun m hm ho=>by simp only[Hp.set,Hp.del];rw[if_neg or,if_neg (fun e=>ho (by rw[e]))])
end
theorem Bm{h:Hp}{n0 n nx:Nat}{o:Own}{es:List V}{b:Blk}(a:Acc h n0 o es)(hb:h n=some b)(hn:n<n0)(hx:n<nx){c d:Blk}:(((h.set nx c).aA7 o).set (nx+1) d) n=some b:=by
 simp only[Hp.set,iN (fun id e=>by have:=a.ge id e;omega:∀id,o= .tok id→n≠id)];rw[if_neg or,if_neg or];exact hb
theorem ql(r:Ru)(hr:bM r=true)(h:Hp):aI Tryz.prog 143 [r.v] h (lst .leaf ((mN r).map V.str)):=by
 refine cP (fun L=>bO (fun L=>aS (f:=V.str) (fun _=>trivial) _) L) fun h' nx hh=>aC L.aVE fun hd=>?_;have hd:aQ h' nx:=hd;obtain⟨b1,b2,b3⟩:=cF hr;simp only[jL,jM,jA,jB,jN,jO,jP,jQ,V.undef];have aAp:∀i,(iR (r.b.take i)).length≤8*2097158:=fun i=>by
  have h1:=sJ (b:=r.b.take i) fun l hl=>b3 l (Ko hl);have h2:(r.b.take i).length*2097158≤8*2097158:=Kf _ (by rw[List.length_take];omega);exact Ks h1 h2
 refine aue (e3 Ru.v.eq_1 trs.eq_1 (@jK Li V)) ?_
 refine aO (fun q:Nat×Own=>aD 58 0 [(1, .ptr nx (.agg 6) 0 0),(2, .sl .leaf .nil []),(3, .sl .leaf q.2 ((iR (r.b.take q.1)).map V.str)),(4, .int .i64 q.1)])
  (fun q hp nx1=>q.1≤r.b.length∧nx+1≤nx1∧aQ hp nx1∧Hp.same nx h' hp∧hp nx=some (.arr (.agg 6) [.agg [.str r.h.r, .sl (.agg 4) r.h.o (r.h.l.map Tr.v), .int .i64 r.g, .int .i64 r.c, .sl (.agg 17) r.o (r.b.map Li.v), .int .i64 r.at_]])∧Acc hp (nx+1) q.2 ((iR (r.b.take q.1)).map V.str))
  (fun q=>r.b.length-q.1) (0, .nil) ⟨Kt _,Zw,by exact dmo hd,by exact kep Hp.same.aA0,by simp only[go_sem,reduceIte,jA,jB,jC,jD,reduceCtorEq,jE,jF], .inl ⟨rfl,rfl⟩⟩ (by simp only[WkL,aD,jH,jI,jJ,iR,Kx,List.flatMap_nil,go_sem,reduceIte,jA,jB,jC,jD,reduceCtorEq,jE,jF]) ?_
 rintro⟨i,o⟩ hp nx1 ⟨hi,hnx,hdm,hsm,hbx,hac⟩;generalize hQ:aX _ _ _ _ _=Q0;dsimp only at hi hac;simp only[aD,go_sem,reduceIte,jA,jB,jC,jD,reduceCtorEq,jE,jF];have n1:nx<nx1:=or;have hpi:=aAp i;rcases Ki i r.b.length with hlt|hge
 ·have hc:decide ((i:Int)<(r.b.length:Int))=true:=dct;have hg:=aM Li.v r.b i hlt;have hw:IntKind.i64.wrap ((i:Int)+1)=((i+1:Nat):Int):=wrp;have htk:=fh r.b i hlt;have hrl:=b3 r.b[i] (Kd _);generalize r.b[i]=l at hg htk hrl;have hvl:=gM hrl;have hf:=Li.aAF l;obtain⟨o1,ho1⟩:=bR .leaf (l.vars.map V.str);have C1:∀h:Hp,aI Tryz.prog 48 [l.v] h (.sl .leaf o1 (l.vars.map V.str)):=fun h=>ho1▸pE l hrl h;obtain⟨T,hT,hk⟩:∃T,l.v= .agg T∧T.getD 0 (.tup [])= .int .i64 l.k:=⟨_,rfl,rfl⟩;rw[hT] at hg hf C1;by_cases k1:l.k=1
  ·have g1:(l.k==1)=true:=bqt;rw[if_pos k1] at htk;generalize hW:iR (r.b.take i)=W at*;refine aun (e10 hc hg hlt hf hk g1 hbx n1 (@jK Li V) jG) ?_;refine fV rfl hac Zw hdm rfl (by simp only[jK];omega) ?_;intro o2 h2 aOU hd2 ho2 hs2 hs3;dsimp only at hd2 ho2 hs3;refine aue hw ?_;rw[←hQ];refine aE (i+1,o2) Zw ⟨hlt,or,by exact dmo hd2,fun m hm=>(hs2 m or).trans (hsm m hm),(hs2 nx or).trans hbx,?_⟩ (by simp only[WkL,aD,jH,jI,jJ,htk,Ke,go_sem,reduceIte,jA,jB,jC,jD,reduceCtorEq,jE,jF]);dsimp only;rw[htk,Ke];exact aOU
  have g1:(l.k==1)=false:=bqf;rw[if_neg k1,Ku] at htk;refine aue (e11 hc hg hlt hf hk g1 hbx n1 (@jK Li V) jG hw) ?_;rw[←hQ];exact aE (i+1,o) Zw ⟨hlt,or,dmo hdm,kep hsm,hbx,by dsimp only;rw[htk];exact hac⟩ (by simp only[WkL,aD,jH,jI,jJ,htk,go_sem,reduceIte,jA,jB,jC,jD,reduceCtorEq,jE,jF])
 have hc:decide ((i:Int)<(r.b.length:Int))=false:=dcf;refine aue (e4 hc hbx n1 (@jK Li V)) ?_;rw[←hQ];refine au ?_;rw[Kj or] at*;have hm8:aAd r.b (iR r.b)*2097158≤8*2097158:=Kf _ (Ks (Kh ..) b2)
 refine aO (fun q:List ByteArray×Own=>aD 58 0 [(1, .ptr nx (.agg 6) 0 0),(2, .sl .leaf .nil []),(3, .sl .leaf q.2 (q.1.map V.str))])
  (fun q hp nx1=>nx+1≤nx1∧aQ hp nx1∧Hp.same nx h' hp∧hp nx=some (.arr (.agg 6) [.agg [.str r.h.r, .sl (.agg 4) r.h.o (r.h.l.map Tr.v), .int .i64 r.g, .int .i64 r.c, .sl (.agg 17) r.o (r.b.map Li.v), .int .i64 r.at_]])∧Acc hp (nx+1) q.2 (q.1.map V.str)∧mN r=fJ r.b (aAd r.b q.1+1) q.1∧q.1.length+aAd r.b q.1*2097158≤16*2097158)
  (fun q=>aAd r.b q.1) (iR r.b,o) ⟨hnx,hdm,hsm,hbx,hac,rfl,Zw⟩ (by simp only[WkL,aD,jH,jI,jJ,go_sem,reduceIte,jA,jB,jC,jD,reduceCtorEq,jE,jF]) ?_
 rintro⟨s,o⟩ hp nx1 ⟨hnx,hdm,hsm,hbx,hac,aAm,hsl⟩;generalize hQ:aX _ _ _ _ _=Q0;dsimp only at hac aAm hsl;simp only[aD,go_sem,reduceIte,jA,jB,jC,jD,reduceCtorEq,jE,jF];have n1:nx<nx1:=or;refine aue (e3 hbx n1 (@jK ByteArray V)) ?_;have hgl:∀i,(dN (r.b.take i) s).length+aAd r.b (dN (r.b.take i) s)*2097158≤s.length+aAd r.b s*2097158:=fun i=>(iY r.b (r.b.take i) s fun l hl=>Ko hl).len b3
 refine aO (fun q:Nat×Own=>aD 58 0 [(1, .ptr nx (.agg 6) 0 0),(2, .sl .leaf .nil []),(3, .sl .leaf q.2 ((dN (r.b.take q.1) s).map V.str)),(5, .int .i64 s.length),(6, .int .i64 q.1)])
  (fun q hp nx1=>q.1≤r.b.length∧nx+1≤nx1∧aQ hp nx1∧Hp.same nx h' hp∧hp nx=some (.arr (.agg 6) [.agg [.str r.h.r, .sl (.agg 4) r.h.o (r.h.l.map Tr.v), .int .i64 r.g, .int .i64 r.c, .sl (.agg 17) r.o (r.b.map Li.v), .int .i64 r.at_]])∧Acc hp (nx+1) q.2 ((dN (r.b.take q.1) s).map V.str))
  (fun q=>r.b.length-q.1) (0,o) ⟨Kt _,hnx,hdm,hsm,hbx,hac⟩ (by simp only[WkL,aD,jH,jI,jJ,dN,Kx,List.foldl_nil,go_sem,reduceIte,jA,jB,jC,jD,reduceCtorEq,jE,jF]) ?_
 rintro⟨i,o⟩ hp nx1 ⟨hi,hnx,hdm,hsm,hbx,hac⟩;generalize hQ2:aX _ _ _ _ _=Q2;dsimp only at hi hac;simp only[aD,go_sem,reduceIte,jA,jB,jC,jD,reduceCtorEq,jE,jF];have n1:nx<nx1:=or;rcases Ki i r.b.length with hlt|hge
 ·have hc:decide ((i:Int)<(r.b.length:Int))=true:=dct;have hg:=aM Li.v r.b i hlt;have hw:IntKind.i64.wrap ((i:Int)+1)=((i+1:Nat):Int):=wrp;have htk:=r9 r.b s i hlt;have hrl:=b3 r.b[i] (Kd _);have hgi:=hgl i;generalize r.b[i]=l at hg htk hrl;have hvl:=gM hrl;have hf:=Li.aAF l;obtain⟨o1,ho1⟩:=bR .leaf (l.vars.map V.str);have C1:∀h:Hp,aI Tryz.prog 48 [l.v] h (.sl .leaf o1 (l.vars.map V.str)):=fun h=>ho1▸pE l hrl h;generalize hW:dN (r.b.take i) s=W at*;have hWl:W.length≤16*2097158:=or;have C2:=fun h=>yI o W or l hrl h;obtain⟨T,hT⟩:∃T,l.v=T:=⟨_,rfl⟩;rw[hT] at hg hf C1 C2;cases hss:cE W l with
  |true=>
   rw[hss] at C2;rw[hss,if_pos rfl] at htk;refine aun (e8 hc hg hlt hf hbx n1 (@jK Li V) jG) ?_;refine fV rfl hac Zw hdm rfl (by simp only[jK];omega) ?_;intro o2 h2 aOU hd2 ho2 hs2 hs3;dsimp only at hd2 ho2 hs3;refine aue hw ?_;rw[←hQ2];refine aE (i+1,o2) Zw ⟨hlt,or,by exact dmo hd2,fun m hm=>(hs2 m or).trans (hsm m hm),(hs2 nx or).trans hbx,?_⟩ (by simp only[WkL,aD,jH,jI,jJ,htk,Ke,go_sem,reduceIte,jA,jB,jC,jD,reduceCtorEq,jE,jF]);dsimp only;rw[htk,Ke];exact aOU
  |false=>
   rw[hss] at C2;rw[hss,if_neg Zm] at htk;refine aue (e9 hc hg hlt hf hbx n1 (@jK Li V) jG hw) ?_;rw[←hQ2];exact aE (i+1,o) Zw ⟨hlt,or,dmo hdm,kep hsm,hbx,by dsimp only;rw[htk];exact hac⟩ (by simp only[WkL,aD,jH,jI,jJ,htk,go_sem,reduceIte,jA,jB,jC,jD,reduceCtorEq,jE,jF])
 have hc:decide ((i:Int)<(r.b.length:Int))=false:=dcf;refine aue (e4 hc hbx n1 (@jK Li V)) ?_;rw[←hQ2];rw[Kj or] at*;by_cases hst:(dN r.b s).length=s.length
 ·have g:(((dN r.b s).length:Int)==(s.length:Int))=true:=bqt;refine aue (e2 g (@jK ByteArray V)) ?_;rw[←hQ];refine au ?_;refine aB h' (hsm.le hd (Hp.le_refl _)) ⟨?_,Hp.le_refl _⟩;have aUB:=(nE r.b s hst).1;rw[aUB] at hac⊢;rw[aAm,j7 _ hst];exact kA hac
 have g:(((dN r.b s).length:Int)==(s.length:Int))=false:=bqf;refine aue (e2 g (@jK ByteArray V)) ?_;rw[←hQ];have hgr:=(iY r.b r.b s fun l hl=>hl).len b3;exact aE (dN r.b s,o) (pY hst) ⟨hnx,hdm,hsm,hbx,hac,by dsimp only;rw[aAm];exact j6 hst,Zw⟩ (by simp only[WkL,aD,jH,jI,jJ,go_sem,reduceIte,jA,jB,jC,jD,reduceCtorEq,jE,jF])
theorem uh{r:Ru}(hr:bM r=true):(mN r).length≤1000000000:=by
 obtain⟨b1,b2,b3⟩:=cF hr;have h1:(mN r).length+aAd r.b (mN r)*2097158≤_:=((nN r.b _ _ (Nat.lt_succ_self (aAd r.b (iR r.b)))).1).len b3;have h2:=sJ b3;have h3:r.b.length*2097158≤8*2097158:=Kf _ b2;have h4:aAd r.b (iR r.b)*2097158≤8*2097158:=Kf _ (Ks (Kh ..) b2);omega
theorem qv(r:Ru)(hr:bM r=true)(b:Bool)(h:Hp):aI Tryz.prog 91 [r.v, .bool b] h (lst .leaf ((bY r (dJ r) b).map V.str)):=by
 refine aH (fun L=>bO (fun L=>aS (f:=V.str) (fun _=>trivial) _) L) fun h' nx hh=>aC L.aWA fun hd=>?_;obtain⟨o,ho⟩:=bR .leaf ((mN r).map V.str);have D1:∀h:Hp,aI Tryz.prog 143 [r.v] h (.sl .leaf o ((mN r).map V.str)):=fun h=>ho▸ql r hr h;have D2:∀h:Hp,aI Tryz.prog 142 [r.v, .sl .leaf o ((mN r).map V.str), .bool b] h (lst .leaf ((bY r (dJ r) b).map V.str)):=fun h=>by
  rw[←wz hr];exact mt r hr o _ (uh hr) b h
 have hf:r.v.fits (.agg 6)=true:=rfl;obtain⟨X,hX⟩:∃X,r.v=X:=⟨_,rfl⟩;rw[hX] at D1 D2 hf⊢;simp only[jL,jM,jA,jB,jN,jO,jP,jQ,V.undef];refine aue hf ?_;exact aB h' (leo hd) ⟨rfl,rfl⟩
def jn(r:Ru):Int:=if bM r=false then 2 else if bY r (dJ r) false≠ [] then 8 else 0
theorem yg(r:Ru)(hs:r.sm)(h:Hp):aI Tryz.prog 46 [r.v] h (.int .i64 (jn r)):=by
 refine aH (fun L=>trivial) fun h' nx hh=>aC L.aWV fun hd=>?_;have C1:=fun h=>m7 r hs h;have E1:=fun hr h=>qv r hr false h;have hf:r.v.fits (.agg 6)=true:=rfl;obtain⟨X,hX⟩:∃X,r.v=X:=⟨_,rfl⟩;rw[hX] at C1 E1 hf⊢;simp only[jL,jM,jA,jB,jN,jO,jP,jQ,V.undef];unfold jn;cases hr:bM r with
 |false=>
  rw[hr] at C1;refine aue hf ?_;exact aB h' (leo hd) ⟨rfl,rfl⟩
 |true=>
  rw[hr] at C1;have C2:=fun h=>E1 hr h;rw[if_neg Zm];cases hsv:bY r (dJ r) false with
  |nil=>
   simp only[hsv,Ky,xJ] at C2;have hz:decide ((0:Int)<((0:Nat):Int))=false:=rfl;refine aue (e2 hf hz) ?_;exact aB h' (leo hd) ⟨rfl,rfl⟩
  |cons a b=>
   rw[hsv] at C2;have g1:decide ((0:Int)<(((a::b).map V.str).length:Int))=true:=dct Zm;have hl:lst .leaf ((a::b).map V.str)= .sl .leaf .free ((a::b).map V.str):=rfl;rw[hl] at C2;generalize (a::b).map V.str=q at C2 g1;refine aue (e2 hf g1) ?_;exact aB h' (leo hd) ⟨rfl,rfl⟩
end Go.Proofs.YtgbiopfghdilnaaGreatDoor
namespace Go.Proofs.YtgbiopfghdilnaaGreatDoor
open Go.RowKit Go.Sort
def jS(q:Nat→Bool)(l:List Nat):Int:=match l.find? q with
 |some k=>k
 |none=>-1
theorem yc(q:Nat→Bool)(k:Nat)(l:List Nat):jS q (k::l)=if q k=true then (k:Int) else jS q l:=by
 unfold jS;cases h:q k
 ·rw[List.find?_cons_of_neg (by simp[h])];simp
 rw[List.find?_cons_of_pos h];simp
theorem jr(p:Nat→Bool)(l:List Nat):(bA p l=-1∧l.find? p=none)∨∃(i:Nat) (h:i<l.length),bA p l=i∧l.find? p=some l[i]:=by
 unfold bA;cases h:l.findIdx? p with
 |none=>
  rw[List.findIdx?_eq_none_iff] at h;exact .inl ⟨rfl,List.find?_eq_none.2 fun x hx=>by simp[h x hx]⟩
 |some i=>
  rw[List.findIdx?_eq_some_iff_getElem] at h;obtain⟨h1,h2,h3⟩:=h;exact .inr ⟨i,h1,rfl,List.find?_eq_some_iff_getElem.2 ⟨h2,i,h1,rfl,fun j hj=>by simpa using h3 j hj⟩⟩
def dH(tk:List Bool)(n:Nat):List Nat:=(Ka n).filter fun k=> !tk.getD k true
theorem s4(tk:List Bool)(n:Nat)(p:Nat→Bool):(dH tk n).find? p=(Ka n).find? fun k=> !tk.getD k true&&p k:=by
 unfold dH;rw[List.find?_filter];congr 1;funext k;simp
def nX(r:Ru)(s:List ByteArray)(tk:List Bool):Int:=
 if jS (fun k=> !tk.getD k true&&eQ s (r.b.getD k default)) (Ka r.b.length)<0 then jS (fun k=> !tk.getD k true&&decide ((r.b.getD k default).k=1)) (Ka r.b.length) else jS (fun k=> !tk.getD k true&&eQ s (r.b.getD k default)) (Ka r.b.length)
theorem bm(r:Ru)(s:List ByteArray)(tk:List Bool):(nX r s tk=-1∧gX r s (dH tk r.b.length)<0)∨∃(i:Nat) (h:i<(dH tk r.b.length).length),gX r s (dH tk r.b.length)=i∧nX r s tk=(dH tk r.b.length)[i]:=by
 have key:∀p:Nat→Bool,(bA p (dH tk r.b.length)=-1∧jS (fun k=> !tk.getD k true&&p k) (Ka r.b.length)=-1)∨∃(i:Nat) (h:i<(dH tk r.b.length).length),bA p (dH tk r.b.length)=i∧jS (fun k=> !tk.getD k true&&p k) (Ka r.b.length)=(dH tk r.b.length)[i]:=fun p=>by
  unfold jS;rw[←s4];rcases jr p (dH tk r.b.length) with⟨h1,h2⟩|⟨i,h,h1,h2⟩
  ·exact .inl ⟨h1,by rw[h2]⟩
  exact .inr ⟨i,h,h1,by rw[h2]⟩
 unfold nX gX;rcases key (fun k=>eQ s (r.b.getD k default)) with⟨h1,h2⟩|⟨i,h,h1,h2⟩
 ·rw[h1,h2,if_pos or,if_neg or];rcases key (fun k=>decide ((r.b.getD k default).k=1)) with⟨h1,h2⟩|⟨i,h,h1,h2⟩
  ·exact .inl ⟨h2,or⟩
  exact .inr ⟨i,h,h1,h2⟩
 rw[h1,h2,if_neg or,if_pos or];exact .inr ⟨i,h,rfl,rfl⟩
theorem wK:∀(l:List Nat) (i:Nat) (h:i<l.length),l.Nodup→l.eraseIdx i=l.filter fun x=>decide (x≠l[i])
 |a::l,0,_,nd=>by
  have h:=Kv.1 nd;simp only[List.eraseIdx_cons_zero,List.getElem_cons_zero];rw[List.filter_cons_of_neg Zm];refine(Kp.2 fun x hx=>?_).symm;have hne:x≠a:=fun e=>h.1 (by rw[←e];exact hx);simpa using hne
 |a::l,i+1,hi,nd=>by
  have h:=Kv.1 nd;have hi:i<l.length:=by simpa using hi
  simp only[List.eraseIdx_cons_succ,List.getElem_cons_succ];have hne:a≠l[i]:=fun e=>h.1 (by rw[e];exact Kd _);rw[List.filter_cons_of_pos (by simpa using hne),wK l i hi h.2]
theorem yr(tk:List Bool)(n i:Nat)(h:i<(dH tk n).length)(hn:tk.length=n):dH (tk.set (dH tk n)[i] true) n=(dH tk n).eraseIdx i:=by
 rw[wK _ i h (List.nodup_range.filter _)];have hk:(dH tk n)[i]<n:=by
  have:=Kd h;exact Kk.1 (Kw.1 this).1
 generalize (dH tk n)[i]=k at*;unfold dH;rw[List.filter_filter];refine List.filter_congr fun x hx=>?_;simp only[Kb,List.getElem?_set];by_cases e:k=x
 ·subst e;rw[if_pos rfl,if_pos or];simp
 rw[if_neg e];simp[Ne.symm e]
theorem rL(n:Nat):dH (Km n false) n=Ka n:=by
 unfold dH;refine Kp.2 fun k hk=>?_;have:=Kk.1 hk;simp[Kb,this]
theorem yu(tk:List Bool)(n:Nat):(dH tk n).length≤n:=by
 have:=Kh (fun k=> !tk.getD k true) (Ka n);rwa [Kg] at this
theorem yv{tk:List Bool}{n i:Nat}(h:i<(dH tk n).length):(dH tk n)[i]<n∧tk.getD (dH tk n)[i] true=false:=by
 have:=Kd h;have h2:=Kw.1 this;exact⟨Kk.1 h2.1,by simpa using h2.2⟩
theorem r6{n i:Nat}(h:i<n):(Ka n).drop i=i::(Ka n).drop (i+1):=by
 rw[List.drop_eq_getElem_cons (by simpa using h)];simp
end Go.Proofs.YtgbiopfghdilnaaGreatDoor
namespace Go.Proofs.YtgbiopfghdilnaaGreatDoor
open Go.RowKit Go.Sort
attribute [local irreducible] IntKind.wrap
set_option maxHeartbeats 4000000
theorem Acc.aA2{h h2:Hp}{n0 nx:Nat}{o:Own}{es:List V}(a:Acc h n0 o es)(hd:aQ h nx)(hk:∀m,m<nx→o= .tok m→h2 m=h m):Acc h2 n0 o es:=
 a.imp id fun⟨a,id,b,c,d⟩=>⟨a,id,b,c,by rw[hk id (hd _ _ d) c];exact d⟩
theorem zH(q:Nat→Bool)(n:Nat):jS q (Ka (n+1))=if jS q (Ka n)<0 then (if q n=true then (n:Int) else-1) else jS q (Ka n):=by
 unfold jS;rw[List.range_succ,List.find?_append];cases h:(Ka n).find? q with
 |some k=>
  simp only[Option.some_or];rw[if_neg or]
 |none=>
  simp only[Option.none_or];cases hq:q n<;>simp[hq]
theorem yb(q:Nat→Bool){i n:Nat}(hi:i≤n)(h:¬jS q (Ka i)<0):jS q (Ka n)=jS q (Ka i):=by
 induction hi with
 |refl=>rfl
 |step _ ih=>rw[zH,ih,if_neg h]
theorem jm(q:Nat→Bool)(l:List Nat):-1≤jS q l:=by
 unfold jS;split<;>omega
def q9(r:Ru)(s:List ByteArray)(tk:List Bool)(k:Nat):Bool:= !tk.getD k true&&eQ s (r.b.getD k default)
def p9(r:Ru)(tk:List Bool)(k:Nat):Bool:= !tk.getD k true&&decide ((r.b.getD k default).k=1)
def cY(r:Ru)(s:List ByteArray)(tk:List Bool)(i:Nat):Int:=if jS (q9 r s tk) (Ka r.b.length)<0 then jS (p9 r tk) (Ka i) else jS (q9 r s tk) (Ka r.b.length)
theorem Bc(r:Ru)(s:List ByteArray)(tk:List Bool):cY r s tk r.b.length=nX r s tk:=rfl
theorem ui{r:Ru}{s:List ByteArray}{tk:List Bool}{i:Nat}(h:cY r s tk i<0):cY r s tk (i+1)=if p9 r tk i=true then (i:Int) else-1:=by
 unfold cY at h⊢;split at h
 ·rename_i h1;rw[if_pos h1,zH,if_pos h]
 omega
theorem zt{r:Ru}{s:List ByteArray}{tk:List Bool}{i:Nat}(h:cY r s tk i<0):cY r s tk i=-1:=by
 have h1:=jm (p9 r tk) (Ka i);have h2:=jm (q9 r s tk) (Ka r.b.length);unfold cY at h⊢;split at h
 ·rename_i h1;rw[if_pos h1];omega
 omega
theorem zu{r:Ru}{s:List ByteArray}{tk:List Bool}{i:Nat}(hi:i≤r.b.length)(h:¬(i<r.b.length∧cY r s tk i<0)):cY r s tk i=nX r s tk:=by
 rw[←Bc];rcases Ki i r.b.length with hl|hg
 ·have h:=fun e=>h ⟨hl,e⟩;unfold cY at h⊢;split at h
  ·rename_i h1;rw[if_pos h1,if_pos h1,yb _ hi h]
  rename_i h1;rw[if_neg h1,if_neg h1]
 rw[show i=r.b.length by omega]
def oG(r:Ru)(s:List ByteArray)(tk:List Bool):List Nat:=(fM r (dH tk r.b.length).length s (dH tk r.b.length)).map Prod.fst
theorem mn{r:Ru}{s:List ByteArray}{tk:List Bool}(h:nX r s tk<0):oG r s tk=[]:=by
 unfold oG;rcases bm r s tk with⟨_,h1⟩|⟨i,hi,_,h1⟩
 ·rw[vU h1];rfl
 omega
theorem ml{r:Ru}{s:List ByteArray}{tk:List Bool}{k:Nat}(h:nX r s tk=k)(ht:tk.length=r.b.length):oG r s tk=k::oG r (s++(r.b.getD k default).vars) (tk.set k true)∧k<r.b.length∧(dH (tk.set k true) r.b.length).length+1=(dH tk r.b.length).length:=by
 unfold oG;rcases bm r s tk with⟨h1,_⟩|⟨i,hi,h2,h1⟩
 ·omega
 have hk:(dH tk r.b.length)[i]=k:=or;have hs:=yr tk r.b.length i hi ht;have hg:=yv hi;rw[hk] at hs hg;rw[vT h2 hi,hs];have:(dH tk r.b.length).getD i 0=k:=by rw[Kb,Kc hi];exact hk
 rw[this];exact⟨rfl,hg.1,by rw[List.length_eraseIdx_of_lt hi];omega⟩
theorem rl(r:Ru):cK r=oG r [] (Km r.b.length false):=by
 unfold oG;rw[rL,Kg];rfl
set_option maxHeartbeats 8000000 in
theorem nr(r:Ru)(hr:bM r=true)(h:Hp):aI Tryz.prog 47 [r.v] h (lst .leaf ((cK r).map kV)):=by
 refine cP (fun L=>bO (fun L=>aS (f:=kV) (fun _=>trivial) _) L) fun h' nx hh=>aC L.aWU fun hd=>?_;have hd:aQ h' nx:=hd;obtain⟨b1,b2,b3⟩:=cF hr;obtain⟨RB,hRB⟩:∃RB,V.agg [.str r.h.r, .sl (.agg 4) r.h.o (r.h.l.map Tr.v), .int .i64 r.g, .int .i64 r.c, .sl (.agg 17) r.o (r.b.map Li.v), .int .i64 r.at_]=RB:=⟨_,rfl⟩;simp only[jL,jM,jA,jB,jN,jO,jP,jQ,V.undef];refine aue (e4 Ru.v.eq_1 trs.eq_1 (@jK Li V) jG) ?_
 refine aO (fun q:List Nat×Own×List ByteArray×Own×List Bool=>aD 93 0 [(1, .ptr nx (.agg 6) 0 0),(2, .sl .leaf .nil []),(3, .sl .leaf q.2.1 (q.1.map kV)),(4, .sl .leaf q.2.2.2.1 (q.2.2.1.map V.str)),(5, .rs (nx+1) .leaf 0 r.b.length)])
  (fun q hp nx1=>nx+2≤nx1∧aQ hp nx1∧Hp.same nx h' hp∧hp nx=some (.arr (.agg 6) [.agg [.str r.h.r, .sl (.agg 4) r.h.o (r.h.l.map Tr.v), .int .i64 r.g, .int .i64 r.c, .sl (.agg 17) r.o (r.b.map Li.v), .int .i64 r.at_]])∧hp (nx+1)=some (.arr .leaf (q.2.2.2.2.map V.bool))∧Acc hp (nx+2) q.2.1 (q.1.map kV)∧Acc hp (nx+2) q.2.2.2.1 (q.2.2.1.map V.str)∧(∀m,q.2.1= .tok m→q.2.2.2.1≠ .tok m)∧q.2.2.2.2.length=r.b.length∧cK r=q.1++oG r q.2.2.1 q.2.2.2.2∧q.1.length+(dH q.2.2.2.2 r.b.length).length≤8∧q.2.2.1.length+(dH q.2.2.2.2 r.b.length).length*2097158≤8*2097158)
  (fun q=>(dH q.2.2.2.2 r.b.length).length) ([], .nil,[], .nil,Km r.b.length false) ⟨Zw,by exact dmo hd,by exact kep Hp.same.aA0,by simp only[go_sem,reduceIte,jA,jB,jC,jD,reduceCtorEq,jE,jF],by simp only[List.map_replicate,go_sem,reduceIte,jA,jB,jC,jD,reduceCtorEq,jE,jF], .inl ⟨rfl,rfl⟩, .inl ⟨rfl,rfl⟩,fun m e=>(by cases e),List.length_replicate,rl r,by dsimp only;rw[rL,Kg];simpa using b2,by dsimp only;rw[rL,Kg,jM];omega⟩ (by simp only[WkL,aD,jH,jI,jJ,go_sem,reduceIte,jA,jB,jC,jD,reduceCtorEq,jE,jF]) ?_
 rintro⟨out,oo,s,os,tk⟩ hp nx1 ⟨hnx,hdm,hsm,hbx,hbt,hao,has,hne,htl,aAm,hol,hsl⟩;generalize hQ:aX _ _ _ _ _=Q0;dsimp only at hbt hao has hne htl aAm hol hsl;simp only[aD,go_sem,reduceIte,jA,jB,jC,jD,reduceCtorEq,jE,jF];have n1:nx<nx1:=or;have n2:nx+1<nx1:=or;have aUL:=yu tk r.b.length;have aTJ:s.length≤8*2097158:=or;have hw0:IntKind.i64.wrap ((r.b.length:Int)-1)=(r.b.length:Int)-1:=wrp;have hq1:∀j,j<r.b.length→(tk.map V.bool).getD j (.tup [])= .bool (tk.getD j true):=fun j hj=>by
  rw[aM V.bool tk j or,Kb,Kc or];rfl
 have aDt:(tk.map V.bool).length=r.b.length:=by rw[jK];exact htl
 refine aue (e4 hbx n1 hw0 (@jK Li V)) ?_;generalize hS:lJ (lwp Tryz.prog _) _=SQ
 --which may be early
 refine aO (fun i:Nat=>aD 93 0 [(1, .ptr nx (.agg 6) 0 0),(2, .sl .leaf .nil []),(3, .sl .leaf oo (out.map kV)),(4, .sl .leaf os (s.map V.str)),(5, .rs (nx+1) .leaf 0 r.b.length),(6, .int .i64 (jS (q9 r s tk) ((Ka r.b.length).drop i))),(7, .int .i64 ((i:Int)-1))])
  (fun i hp2 nx2=>i≤r.b.length∧nx1≤nx2∧aQ hp2 nx2∧Hp.same nx1 hp hp2)
  (fun i=>i) r.b.length ⟨Kz _,Zw,hdm,Hp.same.aA0⟩ (by rw[List.drop_of_length_le Zm];simp only[WkL,aD,jH,jI,jJ,jS,List.find?_nil,go_sem,reduceIte,jA,jB,jC,jD,reduceCtorEq,jE,jF]) ?_
 rintro i hp2 nx2 ⟨hi,aGh,aBC,aBI⟩;generalize hQ2:aX _ _ _ _ _=Q2;simp only[aD,go_sem,reduceIte,jA,jB,jC,jD,reduceCtorEq,jE,jF];have aCT:=(aBI nx n1).trans hbx;have aDG:=(aBI (nx+1) n2).trans hbt;have m1:nx<nx2:=or;have m2:nx+1<nx2:=or;cases i with
 |succ j=>
  have hw:((j+1:Nat):Int)-1=(j:Int):=or;rw[hw];have hc:decide ((j:Int)≥0)=true:=dct;have hc':decide (0≤(j:Int))=true:=dct;have hw2:IntKind.i64.wrap ((j:Int)-1)=(j:Int)-1:=wrp;have hg:=aM Li.v r.b j hi;have hD:r.b.getD j default=r.b[j]:=by rw[Kb,Kc hi];rfl
  have hdr:jS (q9 r s tk) ((Ka r.b.length).drop j)=if (!tk.getD j true&&eQ s r.b[j])=true then (j:Int) else jS (q9 r s tk) ((Ka r.b.length).drop (j+1)):=by
   rw[r6 hi,yc,q9,hD]
  have hgt:=hq1 j hi;have hrl:=b3 r.b[j] (Kd _);generalize r.b[j]=l at hg hrl hdr;generalize jS (q9 r s tk) ((Ka r.b.length).drop (j+1))=B at*;have hvl:=gM hrl;have hf:=Li.aAF l;obtain⟨o1,ho1⟩:=bR .leaf (l.vars.map V.str);have C1:∀h:Hp,aI Tryz.prog 48 [l.v] h (.sl .leaf o1 (l.vars.map V.str)):=fun h=>ho1▸pE l hrl h;have C2:=fun h=>vP os o1 s l.vars or or h;have C3:=fun h=>yI os s or l hrl h;obtain⟨T,hT,hk⟩:∃T,l.v= .agg T∧T.getD 0 (.tup [])= .int .i64 l.k:=⟨_,rfl,rfl⟩;rw[hT] at hg hf C1 C3;have fin:∀(b:Bool) (sl:List V) (hp3:Hp) (nx3:Nat),(!tk.getD j true&&eQ s l)=b→nx1≤nx3→aQ hp3 nx3→Hp.same nx1 hp hp3→WkL sl (aD 93 0 [(1, .ptr nx (.agg 6) 0 0),(2, .sl .leaf .nil []),(3, .sl .leaf oo (out.map kV)),(4, .sl .leaf os (s.map V.str)),(5, .rs (nx+1) .leaf 0 r.b.length),(6, .int .i64 (if b=true then (j:Int) else B)),(7, .int .i64 ((j:Int)-1))])→Q2 .normal ⟨sl,hp3,nx3⟩:=by
   intro b sl hp3 nx3 hb h1 h2 h3 h4;rw[←hQ2];refine aE j or ⟨or,h1,h2,h3⟩ ?_;rw[hdr,hb];exact h4
  cases htj:tk.getD j true with
  |true=>
   rw[htj] at hgt fin;refine aue (e13 hc hc' hg hi hf hk aCT aDG m1 m2 hgt aDt (e4 (@jK Li V) jG hw2 trivial)) ?_;refine fin false _ _ _ rfl or (dmo aBC) (kep aBI) (by simp only[WkL,aD,jH,jI,jJ,go_sem,reduceIte,jA,jB,jC,jD,reduceCtorEq,jE,jF])
  |false=>
   rw[htj] at hgt fin;unfold eQ at fin;by_cases k1:l.k=1
   ·have g1:(l.k != 1)=false:=bnf;rw[decide_eq_false (by simpa using k1)] at fin;cases hs3:cE s l with
    |true=>
     rw[hs3] at C3 fin;refine aue (e14 hc hc' hg hi hf hk aCT aDG m1 m2 hgt aDt g1 (e4 (@jK Li V) jG hw2 trivial)) ?_;refine fin true _ _ _ rfl or (dmo aBC) (kep aBI) (by simp only[WkL,aD,jH,jI,jJ,go_sem,reduceIte,jA,jB,jC,jD,reduceCtorEq,jE,jF])
    |false=>
     rw[hs3] at C3 fin;refine aue (e14 hc hc' hg hi hf hk aCT aDG m1 m2 hgt aDt g1 (e4 (@jK Li V) jG hw2 trivial)) ?_;refine fin false _ _ _ rfl or (dmo aBC) (kep aBI) (by simp only[WkL,aD,jH,jI,jJ,go_sem,reduceIte,jA,jB,jC,jD,reduceCtorEq,jE,jF])
   have g1:(l.k != 1)=true:=bnt;rw[decide_eq_true (by simpa using k1)] at fin;cases ha:gU s l.vars with
   |true=>
    rw[ha] at C2 fin;refine aue (e14 hc hc' hg hi hf hk aCT aDG m1 m2 hgt aDt g1 (e4 (@jK Li V) jG hw2 trivial)) ?_;refine fin true _ _ _ rfl or (dmo aBC) (kep aBI) (by simp only[WkL,aD,jH,jI,jJ,go_sem,reduceIte,jA,jB,jC,jD,reduceCtorEq,jE,jF])
   |false=>
    rw[ha] at C2 fin;cases hs3:cE s l with
    |true=>
     rw[hs3] at C3 fin;refine aue (e14 hc hc' hg hi hf hk aCT aDG m1 m2 hgt aDt g1 (e4 (@jK Li V) jG hw2 trivial)) ?_;refine fin true _ _ _ rfl or (dmo aBC) (kep aBI) (by simp only[WkL,aD,jH,jI,jJ,go_sem,reduceIte,jA,jB,jC,jD,reduceCtorEq,jE,jF])
    |false=>
     rw[hs3] at C3 fin;refine aue (e14 hc hc' hg hi hf hk aCT aDG m1 m2 hgt aDt g1 (e4 (@jK Li V) jG hw2 trivial)) ?_;refine fin false _ _ _ rfl or (dmo aBC) (kep aBI) (by simp only[WkL,aD,jH,jI,jJ,go_sem,reduceIte,jA,jB,jC,jD,reduceCtorEq,jE,jF])
 |zero=>
  have hc:decide (((0:Nat):Int)-1≥0)=false:=rfl;have hc':decide (0≤((0:Nat):Int)-1)=false:=rfl;refine aue (e2 hc hc') ?_;rw[←hQ2];refine au ?_;rw[←hS];refine aue (e3 aCT m1 (@jK Li V)) ?_;generalize hS3:lJ (lwp Tryz.prog _) _=S3;have hb0:jS (q9 r s tk) (Ka r.b.length)=cY r s tk 0:=by
   unfold cY;split
   ·rename_i aBl;have:=jm (q9 r s tk) (Ka r.b.length);show _=(-1:Int);omega
   rfl
  rw[hb0]
  refine aO (fun i:Nat=>aD 93 0 [(1, .ptr nx (.agg 6) 0 0),(2, .sl .leaf .nil []),(3, .sl .leaf oo (out.map kV)),(4, .sl .leaf os (s.map V.str)),(5, .rs (nx+1) .leaf 0 r.b.length),(6, .int .i64 (cY r s tk i)),(9, .int .i64 i)])
   (fun i hp2 nx2=>i≤r.b.length∧nx1≤nx2∧aQ hp2 nx2∧Hp.same nx1 hp hp2)
   (fun i=>r.b.length-i) 0 ⟨Kt _,aGh,aBC,aBI⟩ (by simp only[WkL,aD,jH,jI,jJ,go_sem,reduceIte,jA,jB,jC,jD,reduceCtorEq,jE,jF]) ?_
  clear aCT aDG m1 m2 aBC aBI aGh;rintro i hp2 nx2 ⟨hi,aGh,aBC,aBI⟩;generalize hQ3:aX _ _ _ _ _=Q3;simp only[aD,go_sem,reduceIte,jA,jB,jC,jD,reduceCtorEq,jE,jF];have aCT:=(aBI nx n1).trans hbx;have aDG:=(aBI (nx+1) n2).trans hbt;have m1:nx<nx2:=or;have m2:nx+1<nx2:=or;by_cases hcc:i<r.b.length∧cY r s tk i<0
  ·obtain⟨hlt,hng⟩:=hcc;have hst:=ui hng;have hn1:=zt hng;have hc:decide ((i:Int)<(r.b.length:Int))=true:=dct;have hw2:IntKind.i64.wrap ((i:Int)+1)=((i+1:Nat):Int):=wrp;have hg:=aM Li.v r.b i hlt;have hD:r.b.getD i default=r.b[i]:=by rw[Kb,Kc hlt];rfl
   have hgt:=hq1 i hlt;unfold p9 at hst;rw[hD] at hst;generalize r.b[i]=l at hg hst;obtain⟨T,hT,hk⟩:∃T,l.v= .agg T∧T.getD 0 (.tup [])= .int .i64 l.k:=⟨_,rfl,rfl⟩;rw[hT] at hg;have aGi:decide (cY r s tk i<0)=true:=dct;cases htj:tk.getD i true with
   |true=>
    rw[htj] at hgt hst;have hst:cY r s tk (i+1)=cY r s tk i:=by rw[hst,hn1];rfl
    refine aue (e13 hc aGi hg hlt hk aCT aDG m1 m2 hgt aDt hw2 (e2 (@jK Li V) jG)) ?_;rw[←hQ3];exact aE (i+1) or ⟨hlt,or,dmo aBC,kep aBI⟩ (by simp only[WkL,aD,jH,jI,jJ,hst,go_sem,reduceIte,jA,jB,jC,jD,reduceCtorEq,jE,jF])
   |false=>
    rw[htj] at hgt hst;by_cases k1:l.k=1
    ·have g1:(l.k==1)=true:=bqt;have hst:cY r s tk (i+1)=i:=by rw[hst];simp[k1]
     refine aue (e14 hc aGi hg hlt hk aCT aDG m1 m2 hgt aDt hw2 g1 (e2 (@jK Li V) jG)) ?_;rw[←hQ3];exact aE (i+1) or ⟨hlt,or,dmo aBC,kep aBI⟩ (by simp only[WkL,aD,jH,jI,jJ,hst,go_sem,reduceIte,jA,jB,jC,jD,reduceCtorEq,jE,jF])
    have g1:(l.k==1)=false:=bqf;have hst:cY r s tk (i+1)=cY r s tk i:=by rw[hst,hn1];simp[k1]
    refine aue (e14 hc aGi hg hlt hk aCT aDG m1 m2 hgt aDt hw2 g1 (e2 (@jK Li V) jG)) ?_;rw[←hQ3];exact aE (i+1) or ⟨hlt,or,dmo aBC,kep aBI⟩ (by simp only[WkL,aD,jH,jI,jJ,hst,go_sem,reduceIte,jA,jB,jC,jD,reduceCtorEq,jE,jF])
  have hbf:=zu hi hcc;have key:∀(sl:List V) (hp3:Hp) (nx3:Nat),nx1≤nx3→aQ hp3 nx3→Hp.same nx1 hp hp3→WkL sl (aD 93 0 [(1, .ptr nx (.agg 6) 0 0),(2, .sl .leaf .nil []),(3, .sl .leaf oo (out.map kV)),(4, .sl .leaf os (s.map V.str)),(5, .rs (nx+1) .leaf 0 r.b.length),(6, .int .i64 (nX r s tk))])→S3 .normal ⟨sl,hp3,nx3⟩:=by
   intro sl hp3 nx3 h1 h2 h3 h4;rw[←hS3];refine Bx ⟨_,hp3,nx3⟩ ⟨h4,Hp.le_refl _,Kz _⟩ ?_;clear h4;have aUZ:=(h3 nx n1).trans hbx;have aUc:=(h3 (nx+1) n2).trans hbt;have m1:nx<nx3:=or;have m2:nx+1<nx3:=or;have aTa:=hao.aA2 hdm fun m hm _=>h3 m hm;have aTY:=has.aA2 hdm fun m hm _=>h3 m hm;simp only[aD,go_sem,reduceIte,jA,jB,jC,jD,reduceCtorEq,jE,jF];by_cases hb:nX r s tk<0
   ·have g:decide (nX r s tk<0)=true:=dct;refine aue g ?_;rw[←hQ];refine au ?_;refine aB h' (Hp.same.le (fun m hm=>(h3 m or).trans (hsm m hm)) hd (Hp.le_refl _)) ⟨?_,Hp.le_refl _⟩;rw[aAm,mn hb,Ku];exact kA hao
   obtain⟨k,hk⟩:∃k:Nat,nX r s tk=k:=⟨(nX r s tk).toNat,or⟩;rw[hk];have g:decide ((k:Int)<0)=false:=dcf;obtain⟨q1,q2,q3⟩:=ml hk htl;have hg:=aM Li.v r.b k q2;have hD:r.b.getD k default=r.b[k]:=by rw[Kb,Kc q2];rfl
   have hrl:=b3 r.b[k] (Kd _);rw[hD] at q1;generalize r.b[k]=l at hg hrl q1;have hvl:=gM hrl;have hf:=Li.aAF l;obtain⟨o1,ho1⟩:=bR .leaf (l.vars.map V.str);have C1:∀h:Hp,aI Tryz.prog 48 [l.v] h (.sl .leaf o1 (l.vars.map V.str)):=fun h=>ho1▸pE l hrl h;obtain⟨X,hX⟩:∃X,l.v=X:=⟨_,rfl⟩;rw[hX] at hg hf C1;have hoo:∀m,oo= .tok m→nx+2≤m∧m<nx3:=fun m e=>by
    rcases aTa with⟨_,e2⟩|⟨_,id,e1,e2,e3⟩
    ·rw[e2] at e;cases e
    rw[e2] at e;injection e with e;subst e;exact⟨e1,h2 _ _ e3⟩
   have aTO:∀m,os= .tok m→nx+2≤m∧m<nx3:=fun m e=>by
    rcases aTY with⟨_,e2⟩|⟨_,id,e1,e2,e3⟩
    ·rw[e2] at e;cases e
    rw[e2] at e;injection e with e;subst e;exact⟨e1,h2 _ _ e3⟩
   have hgt:=hq1 k q2;have hst:∀b,bN .leaf 0 (.bool b) (.bool true)= .bool true:=fun _=>rfl;refine aun (e10 g aUc m1 m2 aDt q2 hgt hst (@jK Li V) jG) ?_;rw[←List.map_set];obtain⟨H,hH⟩:∃H,(hp3.set (nx+1) (.arr .leaf ((tk.set k true).map V.bool))).set (nx3+1) .tip=H:=⟨_,rfl⟩;rw[hH];have hd4:aQ H (nx3+2):=hH▸dmo h2;have hk4:∀m,m<nx3→m≠nx+1→H m=hp3 m:=fun m hm hn=>by rw[←hH];simp only[Hp.set];rw[if_neg or,if_neg hn]
   have aUn:Acc H (nx+2) oo (out.map kV):=aTa.aA2 h2 fun m hm e=>hk4 m hm (by have:=hoo m e;omega);have aUl:Acc H (nx+2) os (s.map V.str):=aTY.aA2 h2 fun m hm e=>hk4 m hm (by have:=aTO m e;omega);have aUY:=(hk4 nx m1 or).trans aUZ;have aUb:H (nx+1)=some (.arr .leaf ((tk.set k true).map V.bool)):=by rw[←hH];simp only[Hp.set];rw[if_neg or,if_pos trivial]
   refine fV (n0:=nx+2) rfl aUn Zw hd4 rfl (by simp only[jK,jL,jM];omega) ?_;intro o2 h5 aUm hd5 ho5 hs5 aTL;dsimp only at hd5 ho5 hs5 aTL;have aTV:=(hs5 nx or).trans aUY;have aUa:=(hs5 (nx+1) or).trans aUb;have aUk:=aUl.aA2 hd4 fun m hm e=>aTL m hm fun e2=>hne m e2 e;have m5:nx<nx3+2+1:=or;refine aun (e7 aTV hf hg q2 m5 (@jK Li V) jG) ?_;refine fV (n0:=nx+2) rfl aUk Zw (hd5.up Zw) rfl (by simp only[jK];omega) ?_;intro o3 h6 aUj hd6 ho6 hs6 aCC;dsimp only at hd6 ho6 hs6 aCC;refine au ?_;rw[←hQ];refine aE (out++[k],o2,s++l.vars,o3,tk.set k true) Zw ⟨or,by exact dmo hd6,fun m hm=>?_,(hs6 nx or).trans aTV,(hs6 (nx+1) or).trans aUa,?_,by dsimp only;rw[Ke];exact aUj,fun m e1 e2=>?_,by dsimp only;rw[List.length_set];exact htl,by dsimp only;rw[aAm,q1,List.append_assoc];rfl,by dsimp only;rw[Kq,jL,jM];omega,by dsimp only;rw[Kq];omega⟩ (by simp only[WkL,aD,jH,jI,jJ,Ke,List.map_cons,Ky,kV,go_sem,reduceIte,jA,jB,jC,jD,reduceCtorEq,jE,jF])
   ·rw[hs6 m or,hs5 m or,hk4 m or or,h3 m or,hsm m hm]
   ·dsimp only;rw[Ke];exact aUm.aA2 hd5 fun m hm e=>aCC m or fun e2=>by have h7:=ho5 m e;have h8:=aTO m e2;omega
   have h7:=ho5 m e1;have h8:=ho6 m e2;omega
  have aGi:i<r.b.length→decide (cY r s tk i<0)=false:=fun h=>dcf (fun e=>hcc ⟨h,e⟩);rw[hbf] at aGi⊢;rcases Ki i r.b.length with hlt|hge
  ·have hc:decide ((i:Int)<(r.b.length:Int))=true:=dct;have hng:=aGi hlt;refine aue (e5 hc hng aCT m1 (@jK Li V)) ?_;rw[←hQ3];refine au ?_;exact key _ _ _ aGh aBC aBI (by simp only[WkL,aD,jH,jI,jJ,go_sem,reduceIte,jA,jB,jC,jD,reduceCtorEq,jE,jF])
  have hc:decide ((i:Int)<(r.b.length:Int))=false:=dcf;refine aue (e4 hc aCT m1 (@jK Li V)) ?_;rw[←hQ3];refine au ?_;exact key _ _ _ aGh aBC aBI (by simp only[WkL,aD,jH,jI,jJ,go_sem,reduceIte,jA,jB,jC,jD,reduceCtorEq,jE,jF])
end Go.Proofs.YtgbiopfghdilnaaGreatDoor
