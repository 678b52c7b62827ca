/-
Texts of this proof,one behind the other. No conditions.
-/
import Derived.Test.YtecepaehmojpgaaGreatNd
import Derived.Test.YtecepaehmojpgaaGreatNt
import Derived.Test.YtecepaehmojpgaaGreatNo
import Derived.Test.YtecepaehmojpgaaGreatNh
import Derived.Test.YtecepaehmojpgaaGreatNj
import Derived.Test.YtecepaehmojpgaaGreatNq
open List renaming replicate→Ka,take_succ_eq_append_getElem→Kb,take_of_length_le→Kc,map_append→Kf,take_zero→Kg,map_nil→Kj
open Nat renaming lt_or_ge→Kd,zero_le→Ke
open Bool renaming false_and→Kh,not_false→Ki
open Nat renaming reduceAdd→jA,reduceSub→jB,reduceLT→jC,reduceLeDiff→jD,reduceEqDiff→jE
open Int renaming reduceToNat→jF,toNat_natCast→jG,natCast_add→jH,natCast_one→jI,natCast_zero→jJ
open List renaming length_map→jK,length_cons→jL,length_nil→jM,replicate_succ→jN,replicate_zero→jO,cons_append→jP,nil_append→jQ
set_option linter.unusedSimpArgs false
set_option linter.unusedVariables false
set_option linter.unusedSectionVars false
set_option maxHeartbeats 8000000
namespace Go.Proofs.YtecepaehmojpgaaGreat
open Go.RowKit Go.Sort
structure DN where
 f:Int
 t:Int
 n:Nt
def Nt.ds(n:Nt):List Cg:=⟨n.aAz,-1⟩::n.made.map fun s=>(⟨s,1⟩:Cg)
def DN.v(x:DN):V:= .agg [.int .i64 x.f, .int .i64 x.t, .sl (.agg 4) .free (x.n.ds.map Cg.v)]
theorem DN.aAM(x:DN)(L:Nat→Prop):x.v.names L:=by
 have:=bE (L:=L) (Cg.aAM L) x.n.ds;simp[DN.v,V.names,bP,this]
def vwV(C:List Cg):V:=lst (.agg 4) (C.map Cg.v)
def cO{α:Type}(l:List α):Own:=if l.isEmpty=true then .nil else .free
theorem wg{α:Type}(k:Sh)(f:α→V)(l:List α):lst k (l.map f)= .sl k (cO l) (l.map f):=by cases l<;>rfl
structure DW where
 P:Int
 ws:List Wy
 T:List Cg
 Vs:List (List Cg)
 Ns:List DN
def DW.vo(om oT oV oN:Own)(x:DW):V:= .agg [.int .i64 x.P,wys om x.ws,cgs oT x.T, .sl .leaf oV (x.Vs.map vwV), .sl (.agg 3) oN (x.Ns.map DN.v)]
def DW.v(om oN:Own)(x:DW):V:=x.vo om (cO x.T) (cO x.Vs) oN
def dw0:V:= .agg [.int .i64 0, .sl (.agg 4) .nil [], .sl (.agg 4) .nil [], .sl .leaf .nil [], .sl (.agg 3) .nil []]
theorem A2(C:List Cg)(L:Nat→Prop):(vwV C).names L:=cP (fun L=>bE (Cg.aAM L) _) L
theorem DW.names(om oN:Own)(hm:∀n,om≠ .tok n)(hN:∀n,oN≠ .tok n)(x:DW)(L:Nat→Prop):(x.v om oN).names L:=by
 have h1:=bE (L:=L) (Cg.aAM L) x.T;have h2:=bE (L:=L) (fun C=>A2 C L) x.Vs;have h3:=bE (L:=L) (fun C=>DN.aAM C L) x.Ns;have h4:=bE (L:=L) (fun w=>Wy.aAM L w) x.ws;have hc:∀{α:Type} (l:List α) (n:Nat),cO l≠ .tok n:=fun l n=>by unfold cO;split<;>simp
 simp[DW.v,DW.vo,cgs,V.names,bP,h1,h2,h3,h4,hm,hN,hc]
attribute [local irreducible] IntKind.wrap
end Go.Proofs.YtecepaehmojpgaaGreat
namespace Go.Proofs.YtecepaehmojpgaaGreat
open Go.RowKit Go.Sort
attribute [local irreducible] IntKind.wrap
set_option maxRecDepth 100000 in
set_option maxHeartbeats 4000000 in
theorem po(o:Own)(l:List Sp)(hl:l.length≤100000)(h:Hp):aX Tryz.prog 16 [.sl (.agg 3) o (l.map Sp.v)] h (lst (.agg 3) (l.map Sp.v)):=by
 refine dI (fun L=>cP (fun L=>bE (fun s=>Sp.aAM s L) _) L) fun h' nx hh=>aD L.g8z fun hd=>?_;simp only[jL,jM,jA,jB,jN,jO,jP,jQ,V.undef];have hd:aK h' nx:=hd;refine aue (@jK Sp V) ?_
 refine aT (fun q:Nat×Own=>aB 19 0 [(3, .sl (.agg 3) q.2 ((l.take q.1).map Sp.v)),(6, .sl (.agg 3) o (l.map Sp.v)),(7, .int .i64 l.length),(8, .int .i64 q.1)])
  (fun q hp nx1=>q.1≤l.length∧nx≤nx1∧aK hp nx1∧Hp.same nx h' hp∧Acc hp nx q.2 ((l.take q.1).map Sp.v))
  (fun q=>l.length-q.1) (0, .nil) ⟨Ke _,Nat.le_refl _,hd,Hp.same.aBI,Acc.nil⟩ (by simp only[WkL,aB,jH,jI,jJ,Kg,Kj,go_sem,reduceIte,jA,jB,jC,jD,reduceCtorEq,jE,jF]) ?_
 rintro⟨i,oo⟩ hp nx1 ⟨hi,hnx,hdm,hsm,aAl⟩;generalize hQ:bO _ _ _ _ _=Q0;dsimp only at hi aAl;simp only[aB,go_sem,reduceIte,jA,jB,jC,jD,reduceCtorEq,jE,jF];rcases Kd i l.length with hlt|hge
 ·have hc1:decide ((i:Int)<(l.length:Int))=true:=dct;have hw1:IntKind.i64.wrap ((i:Int)+1)=((i+1:Nat):Int):=wrp;have hg:(l.map Sp.v).getD i (.tup [])=l[i].v:=dQ Sp.v _ l i hlt;have htk:(l.take (i+1)).map Sp.v=(l.take i).map Sp.v++[l[i].v]:=by
   rw[Kb hlt,Kf];rfl
  have hlen:((l.take i).map Sp.v).length=i:=by simp;omega
  have hf:=Sp.aAC l[i];have C1:=fun h=>rA l[i] h;refine aue (e9 hc1 hw1 hg hlt hlen (@jK Sp V) jG htk hf) ?_;rw[←hQ];refine aF (i+1, .tok (nx1+3)) Zw ⟨hlt,ZN,dmo hdm,BD hsm aAl,?_⟩ (by simp only[WkL,aB,jH,jI,jJ,htk,go_sem,reduceIte,jA,jB,jC,jD,reduceCtorEq,jE,jF]);dsimp only;rw[htk];exact Acc.new _ Zm or
 have hc1:decide ((i:Int)<(l.length:Int))=false:=dcf;refine aue hc1 ?_;rw[←hQ];refine au ?_;have htl:l.take i=l:=Kc or;rw[htl] at aAl;refine aG h' (hsm.le hd (Hp.le_refl _)) ⟨?_,Hp.le_refl _⟩;simp only[htl,go_sem,reduceIte,jA,jB,jC,jD,reduceCtorEq,jE,jF];rw[aAl.loose];rfl
theorem za{h:Hp}{n0 nx n:Nat}{o:Own}{es:List V}(ha:Acc h n0 o es)(hd:aK h nx)(hn:nx≤n∨h n≠some .tip)(H:Hp):H.aAb o n=H n:=by
 rcases ha with⟨_,rfl⟩|⟨_,id,_,rfl,hid⟩
 ·rfl
 have:=hd _ _ hid;show H.del id n=H n;unfold Hp.del;rw[if_neg];rintro rfl;rcases hn with h|h
 ·omega
 exact h hid
theorem xS{t u n:Nat}{k:Sh}{x:V}{R:V→Hp→Nat→Prop}{s:St}(hx:s.sl.getD t V.undef= .ptr n k 0 0)(hn:s.h n=some (.arr k [x]))(hf:x.fits k=true)(h':Hp)(hle:h'.le s.h)(hR:R (.tup [x,s.sl.getD u V.undef]) h' s.nx):iU [.cell t k, .slot u] R .ret s:=by
 simp only[iU,pD,rS.sem,bL.sem,aO.ev,hx,hn];refine⟨trivial,Zm,gY k,h',hle,?_⟩;rw[List.getD_cons_zero,gQ hf];exact hR
def oF(P:Int)(ws:List Wy)(N:Nat)(bg:List Sp):DW:=⟨P,ws,(dD P [] (cJ bg 1)).1,Ka N (dD P [] (cJ bg 1)).1,[]⟩
noncomputable def sX(om:Own)(P:Int)(ws:List Wy)(N:Nat)(bg:List Sp):V:=if eK P ws=true∧(dD P [] (cJ bg 1)).2=0 then (oF P ws N bg).v om .nil else dw0
noncomputable def bp(P:Int)(ws:List Wy)(bg:List Sp):Int:=if eK P ws=true then (dD P [] (cJ bg 1)).2 else 2
theorem j4(L:Nat→Prop):dw0.names L:=by simp[dw0,V.names,bP]
set_option maxRecDepth 100000 in
set_option maxHeartbeats 8000000 in
theorem qd(om ob:Own)(hom:om= .nil∨om= .free)(P:Int)(ws:List Wy)(hl:ws.length≤1000)(N:Nat)(hN:1≤N∧N≤17)(bg:List Sp)(hb:bg.length≤1000)(h:Hp):
 aX Tryz.prog 15 [mps om P ws, .int .i64 N, .sl (.agg 3) ob (bg.map Sp.v)] h (.tup [sX om P ws N bg, .int .i64 (bp P ws bg)]):=by
 have hmf:(mps om P ws).fits (.agg 2)=true:=by simp[mps,V.fits,V.aAD,wys]
 have hmn:∀n,om≠ .tok n:=fun n e=>by rcases hom with h|h<;>(rw[h] at e;cases e)
 refine mK (fun L=>?_) fun h' nx hh=>aD L.g7z fun hd=>?_
 ·simp only[V.names,bP,and_true];unfold sX;split
  ·exact DW.names om .nil hmn (fun n e=>by cases e) _ L
  exact j4 L
 simp only[jL,jM,jA,jB,jN,jO,jP,jQ,V.undef];have hd:aK h' nx:=hd;have C1:=fun h=>eL om P ws hl h;cases hR:eK P ws with
 |false=>
  rw[hR] at C1;refine aue hmf ?_;refine xS (n:=nx+1) (x:=dw0) rfl (by simp only[go_sem,reduceIte,jA,jB,jC,jD,reduceCtorEq,jE,jF];rfl) rfl h' (leo hd) ⟨?_,Hp.le_refl _⟩;unfold sX bp;rw[hR];rfl
 |true=>
 rw[hR] at C1;have g1:decide ((N:Int)<1)=false:=dcf;have g2:decide ((N:Int)>17)=false:=dcf;have hmz:(mps om P ws).cells=[.int .i64 P,wys om ws]:=rfl;refine aue (e4 hmf g1 g2 hmz) ?_;generalize hH:Hp.set _ _ _=A;have hz:V.agg [.int .i64 0, .sl (.agg 4) .nil [], .sl (.agg 4) .nil [], .sl .leaf .nil [], .sl (.agg 3) .nil []]=dw0:=rfl;have a0:A nx=some (.arr (.agg 2) [mps om P ws]):=by rw[←hH];simp only[go_sem,reduceIte,jA,jB,jC,jD,reduceCtorEq,jE,jF]
 have a1:A (nx+1)=some (.arr (.agg 5) [dw0]):=by rw[←hH];simp only[go_sem,reduceIte,jA,jB,jC,jD,reduceCtorEq,jE,jF];rfl
 have a2:A (nx+2)=some (.arr (.agg 5) [.agg [.int .i64 P,wys om ws, .sl (.agg 4) .nil [], .sl .leaf .nil [], .sl (.agg 3) .nil []]]):=by rw[←hH];simp only[go_sem,reduceIte,jA,jB,jC,jD,reduceCtorEq,jE,jF]
 have hkA:Hp.same nx h' A:=by rw[←hH];exact kep Hp.same.aBI
 have hdA:∀n,nx+3≤n→aK A n:=fun n hn=>by rw[←hH];exact dmo hd
 clear hH
 refine aT (fun q:Nat×Own=>aB 65 0 [(1, .int .i64 N),(2, .sl (.agg 3) ob (bg.map Sp.v)),(3, .ptr nx (.agg 2) 0 0),(6, .ptr (nx+1) (.agg 5) 0 0),(7, .int .i64 0),(8, .ptr (nx+2) (.agg 5) 0 0),(9,cgs q.2 ((cJ bg 1).take q.1)),(10, .int .i64 q.1)])
  (fun q hp nx1=>q.1≤bg.length∧nx+3≤nx1∧aK hp nx1∧Hp.same (nx+3) A hp∧Acc hp (nx+3) q.2 (((cJ bg 1).take q.1).map Cg.v))
  (fun q=>bg.length-q.1) (0, .nil) ⟨Ke _,ZN,hdA _ ZN,Hp.same.aBI,Acc.nil⟩ (by simp only[WkL,aB,jH,jI,jJ,cgs,Kg,Kj,go_sem,reduceIte,jA,jB,jC,jD,reduceCtorEq,jE,jF]) ?_
 rintro⟨i,oo⟩ hp nx1 ⟨hi,hnx,hdm,hsm,aAl⟩;generalize hQ:bO _ _ _ _ _=Q0;dsimp only at hi aAl;simp only[aB,cgs,go_sem,reduceIte,jA,jB,jC,jD,reduceCtorEq,jE,jF];have hnl:(cJ bg 1).length=bg.length:=by simp[cJ]
 rcases Kd i bg.length with hlt|hge;case inl=>
  have hc1:decide ((i:Int)<(bg.length:Int))=true:=dct;have hw1:IntKind.i64.wrap ((i:Int)+1)=((i+1:Nat):Int):=wrp;have hg:(bg.map Sp.v).getD i (.tup [])= .agg [.int .i64 bg[i].p, .int .i64 bg[i].t.e, .int .i64 bg[i].t.r]:=dQ Sp.v _ bg i hlt;have htk:((cJ bg 1).take (i+1)).map Cg.v=((cJ bg 1).take i).map Cg.v++[.agg [.int .i64 bg[i].p, .int .i64 bg[i].t.e, .int .i64 bg[i].t.r, .int .i64 1]]:=by
   rw[Kb or,Kf];simp[cJ,Cg.v]
  have hlen:(((cJ bg 1).take i).map Cg.v).length=i:=by simp[hnl];omega
  refine aue (e8 hc1 hw1 hg hlt hlen (@jK Sp V) jG htk) ?_;rw[←hQ];refine aF (i+1, .tok (nx1+1)) Zw ⟨hlt,ZN,dmo hdm,BD hsm aAl,?_⟩ (by simp only[WkL,aB,jH,jI,jJ,cgs,htk,go_sem,reduceIte,jA,jB,jC,jD,reduceCtorEq,jE,jF]);dsimp only;rw[htk];exact Acc.new _ Zm or
 have hc1:decide ((i:Int)<(bg.length:Int))=false:=dcf;have htl:(cJ bg 1).take i=cJ bg 1:=Kc or;have C2:∀h,aX Tryz.prog 50 [mps om P ws, .sl (.agg 4) .nil [],cgs oo (cJ bg 1)] h (.tup [lst (.agg 4) ((dD P [] (cJ bg 1)).1.map Cg.v), .int .i64 (dD P [] (cJ bg 1)).2]):=fun h=>qh om .nil oo P ws [] (cJ bg 1) Zm or rfl h;have b0:hp nx=some (.arr (.agg 2) [mps om P ws]):=(hsm _ or).trans a0;have b1:hp (nx+1)=some (.arr (.agg 5) [dw0]):=(hsm _ or).trans a1;have b2:hp (nx+2)=some (.arr (.agg 5) [.agg [.int .i64 P,wys om ws, .sl (.agg 4) .nil [], .sl .leaf .nil [], .sl (.agg 3) .nil []]]):=(hsm _ or).trans a2;have hle:h'.le hp:=fun x b hx=>by rw[hsm x (by have:=hd x b hx;omega),hkA x (hd x b hx)];exact hx
 have n0:nx<nx1:=or;have n1:nx+1<nx1:=or;have n2:nx+2<nx1:=or;have hdf:dw0.fits (.agg 5)=true:=rfl;simp only[htl];by_cases h0:(dD P [] (cJ bg 1)).2=0;case neg=>
  have g3:((dD P [] (cJ bg 1)).2 != 0)=true:=bnt;refine aue (e8 hc1 b0 b1 n0 n1 hmf g3 hdf) ?_;rw[←hQ];refine aue (e8 hc1 b0 b1 n0 n1 hmf g3 hdf) ?_;refine xS (n:=nx+1) (x:=dw0) rfl (by simp only[go_sem,reduceIte,jA,jB,jC,jD,reduceCtorEq,jE,jF];rfl) rfl h' (lef hd hle) ⟨?_,?_⟩
  ·unfold sX bp;rw[hR,if_neg (fun e=>h0 e.2)];rfl
  exact Hp.le_refl _
 have g3:((0:Int) != 0)=false:=rfl;obtain⟨T,hT⟩:∃T,T=(dD P [] (cJ bg 1)).1:=⟨_,rfl⟩;rw[h0,←hT] at C2;rw[wg] at C2;refine aue (e9 hc1 b0 b1 b2 n0 n1 n2 hmf g3) ?_;rw[←hQ];refine aue (e9 hc1 b0 b1 b2 n0 n1 n2 hmf g3) ?_;obtain⟨tv,htv⟩:∃tv,tv=V.sl (.agg 4) (cO T) (T.map Cg.v):=⟨_,rfl⟩;have aTl:tv.aAD=true:=by rw[htv];rfl
 rw[←htv];clear hQ Q0 C1 C2;obtain⟨W,hW⟩:∃W:Nat→Own→V,∀k o,W k o= .agg [.int .i64 P,wys om ws,tv, .sl .leaf o (Ka k tv), .sl (.agg 3) .nil []]:=⟨_,fun _ _=>rfl⟩
 refine aT (fun q:Nat×Own=>aB 65 0 [(1, .int .i64 N),(6, .ptr (nx+1) (.agg 5) 0 0),(7, .int .i64 0),(8, .ptr (nx+2) (.agg 5) 0 0),(11,tv),(13, .int .i64 q.1)])
  (fun q hp2 nx2=>q.1≤N∧nx1≤nx2∧aK hp2 nx2∧Hp.same nx h' hp2∧hp2 (nx+1)=some (.arr (.agg 5) [dw0])∧hp2 (nx+2)=some (.arr (.agg 5) [W q.1 q.2])∧Acc hp2 nx1 q.2 (Ka q.1 tv))
  (fun q=>N-q.1) (0, .nil) ⟨Ke _,ZN,dmo hdm,?_,?_,?_,Acc.nil⟩ (by simp only[WkL,aB,jH,jI,jJ,go_sem,reduceIte,jA,jB,jC,jD,reduceCtorEq,jE,jF]) ?_
 ·exact kep (show Hp.same nx h' hp from fun x hx=>by rw[hsm x or];exact hkA x hx)
 ·simp only[go_sem,reduceIte,jA,jB,jC,jD,reduceCtorEq,jE,jF];exact b1
 ·simp only[go_sem,reduceIte,jA,jB,jC,jD,reduceCtorEq,jE,jF];rw[hW];rfl
 clear aAl hsm hdm;rintro⟨k,ov⟩ hp2 nx2 ⟨hk,aBZ,hdm,hsm,w1,w2,aAl⟩;generalize hQ:bO _ _ _ _ _=Q0;dsimp only at hk aAl w2;rw[hW] at w2;simp only[aB,go_sem,reduceIte,jA,jB,jC,jD,reduceCtorEq,jE,jF];have m1:nx+1<nx2:=or;have m2:nx+2<nx2:=or;rcases Kd k N with hlt|aDf;case inr=>
  have hc2:decide ((k:Int)<(N:Int))=false:=dcf;refine aue (e6 hc2 w1 w2 m1 m2 hdf) ?_;rw[←hQ];refine aue (e6 hc2 w1 w2 m1 m2 hdf) ?_;have hkN:k=N:=or;subst hkN;obtain⟨id,rfl⟩:∃id,ov= .tok id:=by
   rcases aAl with⟨he,_⟩|⟨_,id,_,e,_⟩
   ·have:=congrArg List.length he;simp at this;omega
   exact⟨id,e⟩
  refine xS (n:=nx+1) (x:= .agg [.int .i64 P,wys om ws,tv, .sl .leaf (.tok id) (Ka k tv), .sl (.agg 3) .nil []]) rfl ?_ ?_ h' (lef hd (hsm.le hd (Hp.le_refl _))) ⟨?_,Hp.le_refl _⟩
  ·refine Zn ?_;rw[cG hdf (by rw[htv];rfl)]
  ·rw[htv];rfl
  have hv:sX om P ws k bg= .agg [.int .i64 P,wys om ws,tv, .sl .leaf .free (Ka k tv), .sl (.agg 3) .nil []]:=by
   unfold sX;rw[if_pos ⟨hR,h0⟩];unfold oF DW.v DW.vo;rw[←hT];have e1:(Ka k T).map vwV=Ka k tv:=by rw[List.map_replicate,htv,←wg];rfl
   have e2:cO (Ka k T)= .free:=by
    cases k with
    |zero=>omega
    |succ k=>rfl
   dsimp only;rw[e1,e2,htv];rfl
  have he:bp P ws bg=0:=by unfold bp;rw[hR,if_pos rfl,h0]
  rw[hv,he];have l1:tv.loose=tv:=by rw[htv];unfold cO;split<;>rfl
  rw[htv];unfold cO;rcases hom with rfl|rfl<;>(split<;>rfl)
 have hc2:decide ((k:Int)<(N:Int))=true:=dct;have hw2:IntKind.i64.wrap ((k:Int)+1)=((k+1:Nat):Int):=wrp;have hdo:=za aAl hdm (n:=nx+2) (.inr (by rw[w2];exact fun e=>by cases e));have hrl:(Ka k tv).length=k:=List.length_replicate;have hrn:Ka (k+1) tv=Ka k tv++[tv]:=List.replicate_succ';refine aue (e8 hc2 hw2 w2 m2 hdo hrl aTl hrn) ?_;rw[←hQ];have aUH:=za aAl hdm (n:=nx+1) (.inr (by rw[w1];exact fun e=>by cases e));refine aF (k+1, .tok (nx2+1)) Zw ⟨hlt,ZN,dmo hdm,BD hsm aAl,?_,?_,?_⟩ (by simp only[WkL,aB,jH,jI,jJ,go_sem,reduceIte,jA,jB,jC,jD,reduceCtorEq,jE,jF])
 ·simp only[Hp.set];rw[if_neg or,if_neg or,aUH];simp only[Hp.set];rw[if_neg or];exact w1
 ·dsimp only;rw[hW,hrn];simp only[Hp.set,if_true]
 dsimp only;rw[hrn];refine Acc.set (Acc.new _ Zm or) ?_ _;simp only[Hp.set];rw[if_neg or,hdo];simp only[Hp.set];rw[if_neg or,w2];exact fun e=>by cases e
end Go.Proofs.YtecepaehmojpgaaGreat
namespace Go.Proofs.YtecepaehmojpgaaGreat
open Go.RowKit Go.Sort
attribute [local irreducible] IntKind.wrap
noncomputable def rmk(P:Int)(ws:List Wy)(s u:Sp):Bool:= !decide (s=u)&&u.t.ok&&(ofT (fH s.t (dL P ws s.p u.p))).any fun x=>x.le u.t
theorem qe(om:Own)(P:Int)(ws:List Wy)(hl:ws.length≤1000)(s u:Sp)(h:Hp):aX Tryz.prog 23 [mps om P ws,s.v,u.v] h (.bool (rmk P ws s u)):=by
 have hmf:(mps om P ws).fits (.agg 2)=true:=by simp[mps,V.fits,V.aAD,wys]
 refine aP (fun L=>trivial) fun h' nx hh=>aD L.aWH fun hd=>?_;simp only[List.length_cons,List.length_nil,Nat.reduceAdd,Nat.reduceSub,List.replicate_succ,List.replicate_zero,List.cons_append,List.nil_append,V.undef];have hsv:s.v= .agg [.int .i64 s.p, .int .i64 s.t.e, .int .i64 s.t.r]:=rfl;have huv:u.v= .agg [.int .i64 u.p, .int .i64 u.t.e, .int .i64 u.t.r]:=rfl;have hsf:=Sp.aAC s;have huf:=Sp.aAC u;have hv:veq (.plain (.agg 3) [.int, .int, .int]) (.agg [.int .i64 s.p, .int .i64 s.t.e, .int .i64 s.t.r]) (.agg [.int .i64 u.p, .int .i64 u.t.e, .int .i64 u.t.r])=some (decide (s=u)):=lz s u;have C1:∀h,aX Tryz.prog 53 [.agg [.int .i64 u.t.e, .int .i64 u.t.r]] h (.bool u.t.ok):=fun h=>lF u.t h;rw[hsv] at hsf;rw[huv] at huf;rw[hsv,huv];unfold rmk;cases hz:decide (s=u) with
 |true=>
  rw[hz] at hv;refine aue (e6 hmf hsf huf hv Bool.not_true Kh) ?_;exact aG h' (leo hd) ⟨rfl,rfl⟩
 |false=>
  rw[hz] at hv;cases hr:u.t.ok with
  |false=>
   rw[hr] at C1;refine aue (e6 hmf hsf huf hv Ki Kh) ?_;exact aG h' (leo hd) ⟨rfl,rfl⟩
  |true=>
   rw[hr] at C1;obtain⟨oc,hoc⟩:=mQ (.agg 2) ((ofT (fH s.t (dL P ws s.p u.p))).map Tm.v);have D1:∀h,aX Tryz.prog 55 [mps om P ws, .int .i64 s.p, .agg [.int .i64 s.t.e, .int .i64 s.t.r], .int .i64 u.p] h (tms oc (ofT (fH s.t (dL P ws s.p u.p)))):=fun h=>by
    have:=qg om P ws hl s.p u.p s.t h;rw[hoc] at this;exact this
   have hcl:(ofT (fH s.t (dL P ws s.p u.p))).length≤1000000:=by
    have h1:=CC (fH s.t (dL P ws s.p u.p));have h2:=fh s.t (dL P ws s.p u.p);have h3:=tY P ws s.p u.p;omega
   have D2:∀h,aX Tryz.prog 54 [tms oc (ofT (fH s.t (dL P ws s.p u.p))), .agg [.int .i64 u.t.e, .int .i64 u.t.r]] h (.bool ((ofT (fH s.t (dL P ws s.p u.p))).any fun x=>x.le u.t)):=fun h=>gq oc _ u.t h hcl;refine aue (e5 hmf hsf huf hv Ki) ?_;exact aG h' (leo hd) ⟨rfl,rfl⟩
end Go.Proofs.YtecepaehmojpgaaGreat
