/-
Texts of this proof,one behind the other. No conditions.
-/
import Derived.Test.YtlhedpgobaellaaGreatDoorKu
import Derived.Test.YtlhedpgobaellaaGreatDoorKnq
import Derived.Test.YtlhedpgobaellaaGreatDoorKw
open Go.Proofs.YtlhedpgobaellaaGreatDoor.V renaming undef→Ka
open List renaming getD_eq_getElem?_getD→Kb,getElem?_eq_getElem→Kc,getElem_mem→Ke,mem_map→Kf,mem_cons_of_mem→Kh,mem_singleton→Ki,mem_cons_self→Kj,length_append→Kk,mem_append→Kp,map_append→Kq,replicate→Ks
open Nat renaming le_refl→Kd,zero_le→Kg,lt_or_ge→Km,le_trans→Ko
open Nat renaming reduceAdd→jA,reduceSub→jB,reduceLT→jC,reduceLeDiff→jD,reduceEqDiff→jE
open Int renaming reduceToNat→jF,toNat_natCast→jG,natCast_add→jH,natCast_one→jI,natCast_zero→jJ
open List renaming length_map→jK,length_cons→jL,length_nil→jM,nil_append→jQ
set_option linter.all false
set_option maxHeartbeats 8000000
namespace Go.Proofs.YtlhedpgobaellaaGreatDoor
open Go.RowKit Go.Sort
attribute [local irreducible] IntKind.wrap
set_option maxRecDepth 100000
theorem frG(a2 a4 a6 a8 a10 a12 a77 a78 a79:V):aD 218 0 [(2,a2),(4,a4),(6,a6),(8,a8),(10,a10),(12,a12),(77,a77),(78,a78),(79,a79)]=[.top, .top,a2, .top,a4, .top,a6, .top,a8, .top,a10, .top,a12, .top, .top, .top, .top, .top, .top, .top, .top, .top, .top, .top, .top, .top, .top, .top, .top, .top, .top, .top, .top, .top, .top, .top, .top, .top, .top, .top, .top, .top, .top, .top, .top, .top, .top, .top, .top, .top, .top, .top, .top, .top, .top, .top, .top, .top, .top, .top, .top, .top, .top, .top, .top, .top, .top, .top, .top, .top, .top, .top, .top, .top, .top, .top, .top,a77,a78,a79, .top, .top, .top, .top, .top, .top, .top, .top, .top, .top, .top, .top, .top, .top, .top, .top, .top, .top, .top, .top, .top, .top, .top, .top, .top, .top, .top, .top, .top, .top, .top, .top, .top, .top, .top, .top, .top, .top, .top, .top, .top, .top, .top, .top, .top, .top, .top, .top, .top, .top, .top, .top, .top, .top, .top, .top, .top, .top, .top, .top, .top, .top, .top, .top, .top, .top, .top, .top, .top, .top, .top, .top, .top, .top, .top, .top, .top, .top, .top, .top, .top, .top, .top, .top, .top, .top, .top, .top, .top, .top, .top, .top, .top, .top, .top, .top, .top, .top, .top, .top, .top, .top, .top, .top, .top, .top, .top, .top, .top, .top, .top, .top, .top, .top, .top, .top, .top, .top, .top, .top, .top, .top, .top, .top, .top, .top, .top, .top, .top, .top, .top, .top, .top, .top, .top, .top, .top, .top]:=rfl
theorem frH(a4 a8 a10 a29 aYn aYm aYl:V):aD 218 0 [(4,a4),(8,a8),(10,a10),(29,a29),(177,aYn),(178,aYm),(179,aYl)]=[.top, .top, .top, .top,a4, .top, .top, .top,a8, .top,a10, .top, .top, .top, .top, .top, .top, .top, .top, .top, .top, .top, .top, .top, .top, .top, .top, .top, .top,a29, .top, .top, .top, .top, .top, .top, .top, .top, .top, .top, .top, .top, .top, .top, .top, .top, .top, .top, .top, .top, .top, .top, .top, .top, .top, .top, .top, .top, .top, .top, .top, .top, .top, .top, .top, .top, .top, .top, .top, .top, .top, .top, .top, .top, .top, .top, .top, .top, .top, .top, .top, .top, .top, .top, .top, .top, .top, .top, .top, .top, .top, .top, .top, .top, .top, .top, .top, .top, .top, .top, .top, .top, .top, .top, .top, .top, .top, .top, .top, .top, .top, .top, .top, .top, .top, .top, .top, .top, .top, .top, .top, .top, .top, .top, .top, .top, .top, .top, .top, .top, .top, .top, .top, .top, .top, .top, .top, .top, .top, .top, .top, .top, .top, .top, .top, .top, .top, .top, .top, .top, .top, .top, .top, .top, .top, .top, .top, .top, .top, .top, .top, .top, .top, .top, .top, .top, .top, .top, .top, .top, .top, .top, .top, .top, .top, .top, .top,aYn,aYm,aYl, .top, .top, .top, .top, .top, .top, .top, .top, .top, .top, .top, .top, .top, .top, .top, .top, .top, .top, .top, .top, .top, .top, .top, .top, .top, .top, .top, .top, .top, .top, .top, .top, .top, .top, .top, .top, .top, .top]:=rfl
theorem frE(a4 a8 a29 a201 aYk a203:V):aD 218 0 [(4,a4),(8,a8),(29,a29),(201,a201),(202,aYk),(203,a203)]=[.top, .top, .top, .top,a4, .top, .top, .top,a8, .top, .top, .top, .top, .top, .top, .top, .top, .top, .top, .top, .top, .top, .top, .top, .top, .top, .top, .top, .top,a29, .top, .top, .top, .top, .top, .top, .top, .top, .top, .top, .top, .top, .top, .top, .top, .top, .top, .top, .top, .top, .top, .top, .top, .top, .top, .top, .top, .top, .top, .top, .top, .top, .top, .top, .top, .top, .top, .top, .top, .top, .top, .top, .top, .top, .top, .top, .top, .top, .top, .top, .top, .top, .top, .top, .top, .top, .top, .top, .top, .top, .top, .top, .top, .top, .top, .top, .top, .top, .top, .top, .top, .top, .top, .top, .top, .top, .top, .top, .top, .top, .top, .top, .top, .top, .top, .top, .top, .top, .top, .top, .top, .top, .top, .top, .top, .top, .top, .top, .top, .top, .top, .top, .top, .top, .top, .top, .top, .top, .top, .top, .top, .top, .top, .top, .top, .top, .top, .top, .top, .top, .top, .top, .top, .top, .top, .top, .top, .top, .top, .top, .top, .top, .top, .top, .top, .top, .top, .top, .top, .top, .top, .top, .top, .top, .top, .top, .top, .top, .top, .top, .top, .top, .top, .top, .top, .top, .top, .top, .top, .top, .top, .top, .top, .top, .top, .top, .top, .top, .top, .top, .top,a201,aYk,a203, .top, .top, .top, .top, .top, .top, .top, .top, .top, .top, .top, .top, .top, .top]:=rfl
theorem frF(a4 a8 a10 a12:V):aD 218 0 [(4,a4),(8,a8),(10,a10),(12,a12)]=[.top, .top, .top, .top,a4, .top, .top, .top,a8, .top,a10, .top,a12, .top, .top, .top, .top, .top, .top, .top, .top, .top, .top, .top, .top, .top, .top, .top, .top, .top, .top, .top, .top, .top, .top, .top, .top, .top, .top, .top, .top, .top, .top, .top, .top, .top, .top, .top, .top, .top, .top, .top, .top, .top, .top, .top, .top, .top, .top, .top, .top, .top, .top, .top, .top, .top, .top, .top, .top, .top, .top, .top, .top, .top, .top, .top, .top, .top, .top, .top, .top, .top, .top, .top, .top, .top, .top, .top, .top, .top, .top, .top, .top, .top, .top, .top, .top, .top, .top, .top, .top, .top, .top, .top, .top, .top, .top, .top, .top, .top, .top, .top, .top, .top, .top, .top, .top, .top, .top, .top, .top, .top, .top, .top, .top, .top, .top, .top, .top, .top, .top, .top, .top, .top, .top, .top, .top, .top, .top, .top, .top, .top, .top, .top, .top, .top, .top, .top, .top, .top, .top, .top, .top, .top, .top, .top, .top, .top, .top, .top, .top, .top, .top, .top, .top, .top, .top, .top, .top, .top, .top, .top, .top, .top, .top, .top, .top, .top, .top, .top, .top, .top, .top, .top, .top, .top, .top, .top, .top, .top, .top, .top, .top, .top, .top, .top, .top, .top, .top, .top, .top, .top, .top, .top, .top, .top, .top, .top, .top, .top, .top, .top, .top, .top, .top, .top, .top, .top]:=rfl
theorem s7:∀(l:List Fc) (i n:Nat) (S S':List Sr),(∀f∈l,f.ok)→(∀s∈S,fR s.ar s.zs)→c8 i n S l=some S'→∀s∈S',fR s.ar s.zs
 | [],i,n,S,S',_,hS,h=>by
  injection h with h;exact h▸hS
 |f::r,i,n,S,S',hl,hS,h=>by
  rw[xU] at h;split at h
  ·cases h
  refine s7 r _ _ _ _ (fun g hg=>hl g (Kh _ hg)) (fun s hs=>?_) h;rcases Kp.1 hs with q|q
  ·exact hS s q
  rw[Ki.1 q];exact A3 fun p hp=>((hl f Kj).2 p hp).1
theorem DT{S:List Sr}(hS:∀s∈S,fR s.ar s.zs)(x:ByteArray):(cD S x).length≤2000∧∀t∈cD S x,t.length≤6:=by
 have key:∀{l:List Sr} {s:Sr},lkS x l=some s→s∈l:=by
  intro l s h;induction l with
  |nil=>cases h
  |cons a l ih=>
   unfold lkS at h;split at h
   ·injection h with h;rw[←h];exact Kj
   exact Kh _ (ih h)
 unfold cD;cases k:lkS x S with
 |none=>simp
 |some s=>
  have r:=hS s (key k);refine⟨by unfold aQ;rw[jK];exact r.len,fun t ht=>?_⟩;obtain⟨z,hz,rfl⟩:=Kf.1 ht;have:=(r.row z hz).1;unfold qV at this;simp only[Bool.and_eq_true,decide_eq_true_eq] at this;exact this.1
theorem jk.len{G:ByteArray→List (List Vl)}{r:Ru}{i:Nat}{M:List (List Vl)}(h:jk G r i M):M.length≤20000:=by
 obtain⟨_,⟨es,rfl,_,_,h⟩,_⟩:=h;rw[jK];exact h
theorem HT(r:Ru)(hrr:dF r=true)(S:List Sr)(hS:∀s∈S,fR s.ar s.zs)(hSl:S.length≤1000000)(h0:(jY (cD S) r.b (bA r) [[]]).2=0)(PV:List V)(hPV:dH r.lo (bG r)= .agg PV)(oP:Own)(BV:List V)(ro:Own)(hbv:BV.getD 4 (.tup [])= .sl (.agg 17) ro (r.b.map Li.v))(hBl:r.b.length≤140737488355328)
 (n2 n10:Nat) (oS o0:Own) (wV:V) {Q:bJ→St→Prop} (hp0:Hp) (nx0:Nat) (hd0:aS hp0 nx0) (hb2:hp0 n2=some (.arr (.agg 6) [.agg BV])) (aEi:hp0 n10=some (.arr (.agg 7) [.agg PV])) (sl:List V)
 (hw:WkL sl (aD 218 0 [(2, .ptr n2 (.agg 6) 0 0),(4, .bool false),(6, .sl (.agg 3) oS (S.map nmD)),(8,wV),(10, .ptr n10 (.agg 7) 0 0),(12, .sl .leaf o0 ([((.nil,[]):TR)].map TR.v)),(77, .sl (.agg 5) oP ((bG r).map PS.v)),(78, .int .i64 (bG r).length),(79, .int .i64 0)]))
 (fin:∀sl' hp nx o' Lz,WkL sl' (aD 218 0 [(4, .bool false),(8,wV),(10, .ptr n10 (.agg 7) 0 0),(12, .sl .leaf o' (Lz.map TR.v))])→nx0≤nx→aS hp nx→Hp.same nx0 hp0 hp→jk (cD S) r (bA r).length (aQ Lz)→Q (.exit 0) ⟨sl',hp,nx⟩):
 lwp Tryz.prog (.loop L.aOr) Q ⟨sl,hp0,nx0⟩:=by
 obtain⟨hPl,hPT⟩:=qd hrr;have hlen:(bG r).length=(bA r).length:=pA r _ _;have hn2:=hd0 _ _ hb2;have aFM:=hd0 _ _ aEi;have bCS:=hPl.1
 refine aP (fun q:Nat×List TR×Own=>aD 218 0 [(2, .ptr n2 (.agg 6) 0 0),(4, .bool false),(6, .sl (.agg 3) oS (S.map nmD)),(8,wV),(10, .ptr n10 (.agg 7) 0 0),(12, .sl .leaf q.2.2 (q.2.1.map TR.v)),(77, .sl (.agg 5) oP ((bG r).map PS.v)),(78, .int .i64 (bG r).length),(79, .int .i64 q.1)])
  (fun q hp nx1=>nx0≤nx1∧aS hp nx1∧Hp.same nx0 hp0 hp∧jk (cD S) r q.1 (aQ q.2.1))
  (fun q=>(bG r).length-q.1) (0,[(.nil,[])],o0) ⟨Kd _,hd0,Hp.same.aAr,B5 _ r⟩ hw ?_
 clear hw;rintro⟨i,Lz,oL⟩ hp nx1 ⟨hnx,hdm,hsm,hR⟩;generalize hQ:aZ _ _ _ _ _=Q0;dsimp only at hR;have hPm:((bG r).map PS.v).length=(bG r).length:=jK ..;have hc2:=(hsm n2 hn2).trans hb2;have aXz:=(hsm n10 aFM).trans aEi;have hm2:n2<nx1:=or;have aXo:n10<nx1:=or;rcases Km i (bG r).length with hlt|hge
 ·have hc:decide ((i:Int)<((bG r).length:Int))=true:=dct;have hg:=aL PS.v (bG r) i hlt;have hwi:IntKind.i64.wrap ((i:Int)+1)=((i+1:Nat):Int):=wrp;obtain⟨hF,hR2⟩:=hR.step (sj hS) hrr h0 or;have hRl:=hR.len;have aZX:=hR2.len;rw[←B6] at hR2 aZX;have hXl:(fL (cD S) r.lo (bG r) i Lz).length≤20000:=by
   have:(aQ (fL (cD S) r.lo (bG r) i Lz)).length=(fL (cD S) r.lo (bG r) i Lz).length:=jK ..;omega
  have hLl:Lz.length≤20000:=by
   have:(aQ Lz).length=Lz.length:=jK ..;omega
  have hst:dW (bG r) (i:Int)=(bG r)[i]:=by
   unfold dW;rw[jG,Kb,Kc hlt];rfl
  have hpS:=hPl.2 _ (Ke hlt);have hli:=hpS.li;have hkd:=hpS.kd;have hrl:=hpS.rl;rw[←hst] at hg hli hkd hrl;obtain⟨x,hx⟩:∃x,nJ r.lo (bG r) (i:Int)=x:=⟨_,rfl⟩;have hli:(dW (bG r) (i:Int)).i<r.b.length:=hli;have hgx:(r.b.map Li.v).getD (dW (bG r) (i:Int)).i (.tup [])=x.v:=by
   rw[aL Li.v r.b _ hli,←hx];unfold nJ;show _=(r.b.getD _ default).v;rw[Kb,Kc hli];rfl
  have hk3:(dW (bG r) (i:Int)).k=1∨(dW (bG r) (i:Int)).k=2∨(dW (bG r) (i:Int)).k=3:=by rw[hkd];exact lF hrl
  obtain⟨T,hT,hTr⟩:∃T,x.v= .agg T∧T.getD 1 (.tup [])= .str x.a.r:=⟨_,rfl,rfl⟩;rw[hT] at hgx;have hfx:=Li.aAC x;rw[hT] at hfx;obtain⟨hK2,hK6⟩:=DT hS x.a.r;have CG:=fun h=>B7 oS S hSl x.a.r h;obtain⟨ar,har⟩:=qn x.a.r S;rw[har] at CG;obtain⟨ow,how⟩:=bX .leaf (lsV (cD S x.a.r));have hrv:dG ar (cD S x.a.r)= .agg [.int .i64 ar, .sl .leaf ow (lsV (cD S x.a.r))]:=by rw[dG,how]
  have hrf:=fU ar (cD S x.a.r);rw[hrv] at hrf CG;obtain⟨kk,hkk⟩:∃kk,(dW (bG r) (i:Int)).k=kk:=⟨_,rfl⟩;rw[hkk] at hk3;obtain⟨li,aXp⟩:∃li,(dW (bG r) (i:Int)).i=li:=⟨_,rfl⟩;rw[aXp] at hgx hli;obtain⟨W1,W2,W3,hSV⟩:∃W1 W2 W3,(dW (bG r) (i:Int)).v= .agg [.int .i64 kk, .int .i64 li,W1,W2,W3]:=⟨_,_,_,by unfold PS.v;rw[hkk,aXp]⟩;have hsf:=PS.aAC (dW (bG r) (i:Int));rw[hSV] at hg hsf;have c1:decide ((li:Int)<0)=false:=dcf;have c2:decide ((r.b.length:Int)≤(li:Int))=false:=dcf;have hBm:(r.b.map Li.v).length=r.b.length:=jK ..;rw[frG];refine aue (e14 hc hg hlt hPm hsf c1 c2 hc2 hm2 hbv hBm hli hgx (e3 hTr hfx jG)) ?_;refine aH (CG _) rfl (aI _) ?_;have hLm:(Lz.map TR.v).length=Lz.length:=jK ..;refine aue (e2 hrf hLm) ?_;generalize hH:Hp.set _ (nx1+2) _=H;have hk:Hp.same nx0 hp0 H:=by rw[←hH];exact kep hsm
  have q10:H n10=some (.arr (.agg 7) [.agg PV]):=(hk n10 aFM).trans aEi;have q14:H nx1=some (.arr (.agg 5) [.agg [.int .i64 kk, .int .i64 li,W1,W2,W3]]):=by rw[←hH];simp only[(fls:(nx1=nx1+2)=False),go_sem,reduceIte,jA,jB,jC,jD,reduceCtorEq,jE,jF]
  have q16:H (nx1+2)=some (.arr (.agg 2) [.agg [.int .i64 ar, .sl .leaf ow (lsV (cD S x.a.r))]]):=by rw[←hH];simp only[go_sem,reduceIte,jA,jB,jC,jD,reduceCtorEq,jE,jF]
  refine HU r.lo (bG r) hPl PV hPV i (cD S) (cD S x.a.r) (by rw[hx]) hK2 hK6 kk hkk hk3 oL Lz hLl hXl hF n2 n10 nx1 (nx1+2) (bG r).length (.sl (.agg 3) oS (S.map nmD)) wV (.sl (.agg 5) oP ((bG r).map PS.v)) (.int .i64 li) W1 W2 W3 ar ow H _ (by rw[←hH];exact dmo hdm) q10 q14 q16 hrv _ ?_ ?_
  ·rw[frB];simp only[WkL,jH,jI,jJ,hLm,go_sem,reduceIte,jA,jB,jC,jD,reduceCtorEq,jE,jF]
  intro sl' hp' nx' o' hw' p1 p2 p3;refine dY ?_;refine wB ⟨aD 218 0 [(2, .ptr n2 (.agg 6) 0 0),(4, .bool false),(6, .sl (.agg 3) oS (S.map nmD)),(8,wV),(10, .ptr n10 (.agg 7) 0 0),(15, .sl .leaf o' ((fL (cD S) r.lo (bG r) i Lz).map TR.v)),(77, .sl (.agg 5) oP ((bG r).map PS.v)),(78, .int .i64 (bG r).length),(79, .int .i64 i)],hp',nx'⟩ ⟨hw',Hp.le_refl _,Kd _⟩ ?_;rw[frA];refine aue hwi ?_;rw[←hQ];refine aF (i+1,fL (cD S) r.lo (bG r) i Lz,o') Zw ⟨or,p2,fun k hk1=>(p3 k or).trans (hk k hk1),hR2⟩ ?_;dsimp only;rw[frG];simp only[WkL,jH,jI,jJ,hwi,go_sem,reduceIte,jA,jB,jC,jD,reduceCtorEq,jE,jF]
 have hc:decide ((i:Int)<((bG r).length:Int))=false:=dcf;have hio:i=(bA r).length:=by have:=hR.le;omega
 subst hio;rw[frG];refine aue (e2 hc hPm) ?_;rw[←hQ];refine fin _ hp nx1 oL Lz ?_ hnx hdm hsm hR;rw[frF];simp only[WkL,jH,jI,jJ,go_sem,reduceIte,jA,jB,jC,jD,reduceCtorEq,jE,jF]
theorem frS(a0 a1:V):([a0,a1]++Ks 216 Ka:List V)=[a0,a1,Ka,Ka,Ka,Ka,Ka,Ka,Ka,Ka,Ka,Ka,Ka,Ka,Ka,Ka,Ka,Ka,Ka,Ka,Ka,Ka,Ka,Ka,Ka,Ka,Ka,Ka,Ka,Ka,Ka,Ka,Ka,Ka,Ka,Ka,Ka,Ka,Ka,Ka,Ka,Ka,Ka,Ka,Ka,Ka,Ka,Ka,Ka,Ka,Ka,Ka,Ka,Ka,Ka,Ka,Ka,Ka,Ka,Ka,Ka,Ka,Ka,Ka,Ka,Ka,Ka,Ka,Ka,Ka,Ka,Ka,Ka,Ka,Ka,Ka,Ka,Ka,Ka,Ka,Ka,Ka,Ka,Ka,Ka,Ka,Ka,Ka,Ka,Ka,Ka,Ka,Ka,Ka,Ka,Ka,Ka,Ka,Ka,Ka,Ka,Ka,Ka,Ka,Ka,Ka,Ka,Ka,Ka,Ka,Ka,Ka,Ka,Ka,Ka,Ka,Ka,Ka,Ka,Ka,Ka,Ka,Ka,Ka,Ka,Ka,Ka,Ka,Ka,Ka,Ka,Ka,Ka,Ka,Ka,Ka,Ka,Ka,Ka,Ka,Ka,Ka,Ka,Ka,Ka,Ka,Ka,Ka,Ka,Ka,Ka,Ka,Ka,Ka,Ka,Ka,Ka,Ka,Ka,Ka,Ka,Ka,Ka,Ka,Ka,Ka,Ka,Ka,Ka,Ka,Ka,Ka,Ka,Ka,Ka,Ka,Ka,Ka,Ka,Ka,Ka,Ka,Ka,Ka,Ka,Ka,Ka,Ka,Ka,Ka,Ka,Ka,Ka,Ka,Ka,Ka,Ka,Ka,Ka,Ka,Ka,Ka,Ka,Ka,Ka,Ka,Ka,Ka,Ka,Ka,Ka,Ka,Ka,Ka,Ka,Ka,Ka,Ka]:=rfl
theorem l7(a:Am):∀(es:List (List Tr)) (acc:List (List Vl)),(lY a acc es).2=0→(∀e∈es,(bY a e).2=0)∧(lY a acc es).1=acc++es.map fun e=>(bY a e).1
 | [],acc,_=>⟨Zm,by simp[lY]⟩
 |e::r,acc,h=>by
  rw[uU] at h⊢;by_cases h0:(bY a e).2=0
  ·rw[if_neg (by simpa using h0)] at h⊢;obtain⟨p,q⟩:=l7 a r _ h;refine⟨fun y hy=>?_,by rw[q];simp⟩;rcases List.mem_cons.1 hy with rfl|hy
   ·exact h0
   exact p y hy
  rw[if_pos h0] at h;exact absurd h h0
theorem rx(r:Ru):gD (bG r)=cB r (bA r) []:=by
 unfold bG gD;rcases List.eq_nil_or_concat (bA r) with e|⟨a,k,e⟩
 ·rw[e];rfl
 rw[e,List.concat_eq_append,yH,qO,Kk,List.length_singleton,Nat.add_sub_cancel,Kb,List.getElem?_append_right (Kd _),Nat.sub_self];rfl
theorem Dc{G:ByteArray→List (List Vl)}{r:Ru}(hm:qB r=0)(h:(kO G r).2=0){M:List (List Vl)}(hR:jk G r (bA r).length M):
 (∀v∈M,(hdB r.lo (bG r) v).2=0)∧(kO G r).1=lD cP (M.map fun v=>(hdB r.lo (bG r) v).1):=by
 have ha:(oN G r).2=0:=Decidable.byContradiction fun q=>by unfold kO at h;rw[if_pos q] at h;exact q h
 have hf:oN G r=jY G r.b (bA r) [[]]:=by unfold oN;rw[if_neg (by simpa using hm)]
 have hq:(lY r.h [] (oN G r).1).2=0:=Decidable.byContradiction fun q=>by unfold kO at h;rw[if_neg (by simpa using ha),if_pos q] at h;exact q h
 obtain⟨p1,p2⟩:=l7 _ _ _ hq;obtain⟨rfl,hd⟩:=hR.done (es:=(oN G r).1) (by rw[←hf];exact Prod.ext rfl ha);have key:∀e∈(oN G r).1,hdB r.lo (bG r) (fM e (cB r (bA r) []))=bY r.h e:=fun e he=>by
  unfold hdB;rw[rx,if_neg (by simp[fM]),Ct (bp (hd e he))];rfl
 refine⟨fun v hv=>?_,?_⟩
 ·obtain⟨e,he,rfl⟩:=Kf.1 hv;rw[key e he];exact p1 e he
 have e1:(kO G r).1=lD cP (lY r.h [] (oN G r).1).1:=by unfold kO;rw[if_neg (by simpa using ha),if_neg (by simpa using hq)]
 rw[e1,p2,jQ,List.map_map];congr 1;exact List.map_congr_left fun e he=>by rw[Function.comp,key e he]
theorem El(r:Ru):d8 r= .tup [dH (mA r).1 (mA r).2.1,dC (qB r)]:=by
 unfold d8 qB mA;split
 ·rfl
 split<;>rfl
theorem cw:∀(l:List Fc) (i n:Nat) (S S':List Sr),S.length≤i→i≤13→c8 i n S l=some S'→S'.length≤13
 | [],i,n,S,S',h1,h2,h=>by injection h with h;rw[←h];omega
 |f::r,i,n,S,S',h1,h2,h=>by
  rw[xU] at h;split at h
  ·cases h
  rename_i hc;exact cw r (i+1) _ _ _ (by simp;omega) (by simp only[not_or] at hc;omega) h
theorem DY{l:List Fc}{S:List Sr}(h:c8 0 0 [] l=some S):S.length≤1000000:=by
 have:=cw l 0 0 [] S (Kg _) or h;omega
theorem dx(a:Am):∀(es:List (List Tr)) (acc:List (List Vl)),(∀t∈acc,t.length≤6)→(∀t∈(lY a acc es).1,t.length≤6)∧(lY a acc es).1.length≤acc.length+es.length
 | [],acc,h=>⟨h,Kd _⟩
 |e::r,acc,h=>by
  rw[uU];split
  ·exact⟨Zm,Zm⟩
  obtain⟨p,q⟩:=dx a r (acc++[(bY a e).1]) fun t ht=>by
   rcases Kp.1 ht with q|q
   ·exact h t q
   rw[Ki.1 q];exact yO a e
  refine⟨p,Ko q ?_⟩;simp only[Kk,jL,jM];omega
def hdK(r:Ru)(Lz:List TR)(k:Nat):List (List Vl):=lD cP ((aQ (Lz.take k)).map fun v=>(hdB r.lo (bG r) v).1)
theorem Bt(R:Ru)(ps:List PS)(v:List Vl):(hdB R ps v).1.length≤6:=by
 unfold hdB;split
 ·simp
 exact yO _ _
theorem Hu(r:Ru)(Lz:List TR)(k:Nat):Str cP (hdK r Lz k)∧(hdK r Lz k).length≤k∧∀t∈hdK r Lz k,t.length≤6:=by
 unfold hdK;refine⟨(fT c3T _).1,Ko (tk _) ?_,fun t ht=>?_⟩
 ·unfold aQ;rw[jK,jK,List.length_take];omega
 obtain⟨v,_,rfl⟩:=Kf.1 (((fT c3T _).2 t).1 ht);exact Bt _ _ _
theorem FV{r:Ru}(hrr:dF r=true):(gD (bG r)).Nodup∧(gD (bG r)).length≤1000000000:=by
 refine⟨by rw[rx];exact qN r _ _ List.nodup_nil,?_⟩;by_cases hn:bG r=[]
 ·rw[hn];exact Kg _
 have hlt:(bG r).length-1<(bG r).length:=by have:=List.length_pos_iff.2 hn;omega
 unfold gD;rw[Kb,Kc hlt];exact((qd hrr).1.2 _ (Ke hlt)).wl
theorem qe(r:Ru)(hr:r.s47)(hb:r.b.length≤140737488355328)(o:Own)(l:List Fc)(hl:l.length≤140737488355328)(hok:∀f∈l,f.ok)(h:Hp):aM Tryz.prog 6 [r.v, .sl (.agg 3) o (l.map Fc.v)] h (.bool true):=by
 refine aJ (fun L=>trivial) fun h' nx hh=>aB L.g0z fun hd=>?_;have hd:aS h' nx:=hd;have C1:=rm;have C2:=Fh r hr or o l hl;have C3:=fun h=>zO r h;have hf:r.v.fits (.agg 6)=true:=by cases r;rfl
 have CS:=pj o l hl hok;have aX4:=fun S=>s7 l 0 0 [] S hok (fun s hs=>by cases hs);have CH:=fun(S:List Sr) hS h nx N es c hN hst=>ql r S hS h nx N es c hN hst hb;obtain⟨BV,hBV,hbv⟩:∃BV,r.v= .agg BV∧BV.getD 4 (.tup [])= .sl (.agg 17) r.o (r.b.map Li.v):=by cases r;exact⟨_,rfl,rfl⟩
 rw[hBV] at C2 C3 hf CH⊢;generalize l.map Fc.v=LV at*;show lwp _ _ _ ⟨[.agg BV, .sl (.agg 3) o LV]++Ks 216 Ka,h',nx⟩;rw[frS];refine aue hf ?_;refine aV ((CS _ _).dom.mono ?_);rintro v h2 nx2 aAS ⟨⟨hR,hk2⟩,hd2,_⟩;unfold bW;cases hst:c8 0 0 [] l with
 |none=>
  rw[hst] at hR;have hR:v= .tup [.aAG, .sl (.agg 3) .nil [], .bool false]:=hR;subst hR;refine Zn ?_;refine au ?_;refine aC h' ?_ ⟨rfl,rfl⟩;intro m b e;dsimp only;rw[hk2 m (by have:=hd _ _ e;dsimp only;omega)];simp only[Hp.set];rw[if_neg (by have:=hd _ _ e;omega)];exact e
 |some S=>
  rw[hst] at hR;obtain⟨N,es,c,oS,rfl,hN0,hN,aYx,_⟩:=hR;have hS:=aX4 S hst;have hSl:S.length≤1000000:=DY hst;have hb2:h2 nx=some (.arr (.agg 6) [.agg BV]):=by rw[hk2 nx Zw];simp only[go_sem,reduceIte,jA,jB,jC,jD,reduceCtorEq,jE,jF]
  have hs2:Hp.same nx h' h2:=fun m hm=>(hk2 m Zw).trans (by simp only[Hp.set];rw[if_neg or]);have aPh:=hs2.le hd (Hp.le_refl _);have n2:nx<nx2:=hd2 _ _ hb2;have hN2:N<nx2:=hd2 _ _ hN;refine Zn ?_;clear CS aX4 hk2;cases hfw:Hz r l with
  |false=>
   rw[hfw] at C2;refine aue (e3 hb2 n2 hf) ?_;exact aC h' aPh ⟨rfl,rfl⟩
  |true=>
  rw[hfw] at C2;rw[El] at C3;obtain⟨PV,hPV⟩:∃PV,dH (mA r).1 (mA r).2.1= .agg PV:=⟨_,rfl⟩;obtain⟨oP,hoP⟩:=bX (.agg 5) ((mA r).2.1.map PS.v);have hP6:PV.getD 6 (.tup [])= .sl (.agg 5) oP ((mA r).2.1.map PS.v):=by
   have:dH (mA r).1 (mA r).2.1= .agg PV:=hPV;unfold dH at this;rw[hoP] at this;injection this with this;rw[←this];rfl
  have hPf:(V.agg PV).fits (.agg 7)=true:=by
   rw[←hPV];unfold dH;rw[hoP];rfl
  rw[hPV] at C3;refine aue (e3 hb2 n2 hf) ?_;refine aV ((CH S hS h2 nx2 N es c hN aYx).dom.mono ?_);rintro v h4 nx4 aDv ⟨⟨rfl,hk4⟩,hd4,_⟩;unfold bW;refine Zn ?_;have hs4:Hp.same nx h' h4:=fun m hm=>(hk4 m or).trans (hs2 m hm);have aG3:=hs4.le hd (Hp.le_refl _);have hb4:h4 nx=some (.arr (.agg 6) [.agg BV]):=(hk4 nx n2).trans hb2;have n4:nx<nx4:=hd4 _ _ hb4;obtain⟨P,hP⟩:∃P,kO (cD S) r=P:=⟨_,rfl⟩;have aAe:=fun hm h M hR=>Dc (G:=cD S) (r:=r) hm h (M:=M) hR;have aPe:qB r≠0→P.2=qB r:=fun q=>by
   rw[←hP];have ha:oN (cD S) r=([],qB r):=by unfold oN;rw[if_pos q]
   unfold kO;rw[ha,if_pos q]
  have aAh:P.2=0→qB r=0→(jY (cD S) r.b (bA r) [[]]).2=0:=fun q1 q2=>by
   rw[←hP] at q1;have ha:(oN (cD S) r).2=0:=Decidable.byContradiction fun q=>by unfold kO at q1;rw[if_pos q] at q1;exact q q1
   unfold oN at ha;rwa [if_neg (by simpa using q2)] at ha
  have h62:∀t∈P.1,t.length≤6:=by
   rw[←hP];unfold kO;split
   ·simp
   split
   ·simp
   intro t ht;exact(dx r.h _ [] Zm).1 t (((fT c3T _).2 t).1 ht)
  rw[hP] at aAe⊢;obtain⟨A,en⟩:=P;dsimp only at aAe aPe aAh h62⊢;have hve:=dK en;have hvm:=dK (qB r);have aO5:(A.map fun t=>vls .free t).length=A.length:=jK ..;obtain⟨oA,hoA⟩:=bX .leaf (A.map fun t=>vls .free t);rw[hoA];clear C1 C2 CH;by_cases hz:en=0
  ·have hm0:qB r=0:=Decidable.byContradiction fun q=>q ((aPe q).symm.trans hz);rw[decide_eq_true hz] at hve;rw[decide_eq_true hm0] at hvm;subst hz;obtain⟨hrr,hsv⟩:=Hq hm0;have hpl:mA r=(r.lo,bG r,0):=by unfold mA;rw[if_neg (by simp[hrr]),if_neg (by simp[hsv])]
   rw[hpl] at hPV hP6;dsimp only at hPV hP6;rw[hm0] at C3;have hPm:((bG r).map PS.v).length=(bG r).length:=jK ..;have hv0:=dK 0;rw[decide_eq_true rfl] at hv0;refine aue (e6 hb4 n4 hf hPf hv0 (e3 hP6 hPm hve)) ?_;generalize hH:Hp.set _ _ _=H;have hkH:∀k,k<nx4→H k=h4 k:=fun k hk=>by rw[←hH];simp only[Hp.set];repeat rw[if_neg or]
   have aP0:H nx4=some (.arr (.agg 7) [.agg PV]):=by rw[←hH];simp only[(fls:(nx4=nx4+2)=False),go_sem,reduceIte,jA,jB,jC,jD,reduceCtorEq,jE,jF]
   have hsH:Hp.same nx h' H:=fun k hk=>(hkH k or).trans (hs4 k hk);refine HT r hrr S hS hSl (aAh rfl hm0) PV hPV oP BV r.o hbv hb nx nx4 oS (.tok (nx4+2)) (.sl .leaf oA (A.map fun t=>vls .free t)) H _ (by rw[←hH];exact dmo hd4) ((hkH nx n4).trans hb4) aP0 _ ?_ ?_
   ·rw[frG];simp only[WkL,jH,jI,jJ,hPm,List.map_cons,List.map_nil,TR.v,go_sem,reduceIte,jA,jB,jC,jD,reduceCtorEq,jE,jF];rfl
   intro sl' hp nxE o' Lz hw' p1 p2 p3 hRI;obtain⟨hhe,hAe⟩:=aAe hm0 rfl _ hRI;have hRl:=hRI.len;have hLm:(Lz.map TR.v).length=Lz.length:=jK ..;have hLl:Lz.length≤20000:=by
    have:(aQ Lz).length=Lz.length:=jK ..;omega
   have hsE:Hp.same nx h' hp:=fun k hk=>(p3 k or).trans (hsH k hk);have aX7:hp nx4=some (.arr (.agg 7) [.agg PV]):=(p3 nx4 or).trans aP0;have aP1:nx4<nxE:=p2 _ _ aX7;clear hH hkH aP0 hsH aAe aAh p3;refine dY ?_;refine wB ⟨aD 218 0 [(4, .bool false),(8, .sl .leaf oA (A.map fun t=>vls .free t)),(10, .ptr nx4 (.agg 7) 0 0),(12, .sl .leaf o' (Lz.map TR.v))],hp,nxE⟩ ⟨hw',Hp.le_refl _,Kd _⟩ ?_;rw[frF];refine aue hLm ?_;have hPl:=(qd hrr).1;obtain⟨hwn,hwl⟩:=FV hrr
   refine aP (fun k:Nat=>aD 218 0 [(4, .bool false),(8, .sl .leaf oA (A.map fun t=>vls .free t)),(10, .ptr nx4 (.agg 7) 0 0),(29, .ptr nxE (.agg 2) 0 0),(177, .sl .leaf o' (Lz.map TR.v)),(178, .int .i64 Lz.length),(179, .int .i64 k)])
    (fun k hp2 nx1=>k≤Lz.length∧nxE<nx1∧aS hp2 nx1∧Hp.same nxE hp hp2∧hp2 nxE=some (.arr (.agg 2) [dG 0 (hdK r Lz k)]))
    (fun k=>Lz.length-k) 0 ⟨Kg _,Zw,by exact dmo p2,by exact kep Hp.same.aAr,by simp only[go_sem,reduceIte,jA,jB,jC,jD,reduceCtorEq,jE,jF];rfl⟩ (by rw[frH];simp only[WkL,jH,jI,jJ,hLm,go_sem,reduceIte,jA,jB,jC,jD,reduceCtorEq,jE,jF]) ?_
   rintro k hp2 nx1 ⟨hk,hnx,hdm,hsm,hbx⟩;generalize hQ:aZ _ _ _ _ _=Q0;have aXz:=(hsm nx4 aP1).trans aX7;have aXo:nx4<nx1:=or;rcases Km k Lz.length with hlt|hge
   ·have hc:decide ((k:Int)<(Lz.length:Int))=true:=dct;have hg:=aL TR.v Lz k hlt;have hwk:IntKind.i64.wrap ((k:Int)+1)=((k+1:Nat):Int):=wrp;have hhp:=hhe Lz[k].2 (Kf.2 ⟨Lz[k],Ke hlt,rfl⟩);have aAW:hdK r Lz (k+1)=iW cP (hdB r.lo (bG r) Lz[k].2).1 (hdK r Lz k):=by
     unfold hdK aQ;rw[List.take_succ_eq_append_getElem hlt,Kq,Kq];exact xY _ _ _
    have ht6:=Bt r.lo (bG r) Lz[k].2;have CP:=fun h=>zj r.lo (bG r) hPl.1 hwn hwl Lz[k].1 Lz[k].2 h;rw[hPV] at CP;generalize Lz[k]=p at*;obtain⟨⟨tv,e⟩,hN⟩:∃P,hdB r.lo (bG r) p.2=P:=⟨_,rfl⟩;rw[hN] at hhp aAW ht6 CP;have hhp:e=0:=hhp;subst hhp;unfold mkR at CP;dsimp only at CP ht6 aAW;obtain⟨hs1,hs2,hs3⟩:=Hu r Lz k;have CQ:=fun h=>l5 0 (hdK r Lz k) hs1 or (fun t ht=>by have:=hs3 t ht;omega) (okO 0 .free) tv or h;rw[←aAW] at CQ;have hrf:=fU 0 (hdK r Lz k);have aY0:=fU 0 (hdK r Lz (k+1));obtain⟨RL,hRL⟩:∃RL,dG 0 (hdK r Lz k)= .agg RL:=⟨_,rfl⟩;rw[hRL] at CQ hrf hbx
    have aZW:RL.length=2:=(show RL.length=2∧RL.all V.aAE=true by simpa [V.fits] using hrf).1
    generalize hRN:dG 0 (hdK r Lz (k+1))=RN at*;rw[frH];refine aue (e8 hc hg hlt hLm aXz aXo hPf jG) ?_;refine aH (CP _) rfl (aI _) ?_;refine aue (e4 hv0 hbx hnx hrf) ?_;refine aH (CQ _) rfl (aI _) ?_;refine aue (e4 hbx hnx aY0 hwk) ?_;rw[←hQ];refine aF (k+1) or ⟨hlt,or,dmo hdm,by exact kep hsm,by simp only[hRN,aZW,go_sem,reduceIte,jA,jB,jC,jD,reduceCtorEq,jE,jF]⟩ ?_;rw[frH];simp only[WkL,jH,jI,jJ,hwk,go_sem,reduceIte,jA,jB,jC,jD,reduceCtorEq,jE,jF]
   have hc:decide ((k:Int)<(Lz.length:Int))=false:=dcf;have hAk:hdK r Lz k=A:=by unfold hdK;rw[List.take_of_length_le hge,hAe]
   have hrv:dG 0 A= .agg [.int .i64 0, .sl .leaf oA (A.map fun t=>vls .free t)]:=by
    unfold dG;rw[show lsV A=A.map fun t=>vls .free t from rfl,hoA]
   rw[hAk,hrv] at hbx;have hne:((A.length:Int) != (A.length:Int))=false:=bnf;have hAl:A.length≤20000:=by
    rw[hAe];refine Ko (tk _) ?_;rw[jK];exact hRl
   have hsq:Hp.same nx h' hp2:=fun m hm=>(hsm m or).trans (hsE m hm);rw[frH];refine aue (e2 hc hLm) ?_;rw[←hQ];refine aue (e4 hbx hnx aO5 hne) ?_
   refine aP (fun i:Nat=>aD 218 0 [(4, .bool false),(8, .sl .leaf oA (A.map fun t=>vls .free t)),(29, .ptr nxE (.agg 2) 0 0),(201, .sl .leaf oA (A.map fun t=>vls .free t)),(202, .int .i64 A.length),(203, .int .i64 i)])
    (fun i hp3 nx3=>i≤A.length∧nx1≤nx3∧aS hp3 nx3∧Hp.same nx1 hp2 hp3)
    (fun i=>A.length-i) 0 ⟨Kg _,Kd _,hdm,Hp.same.aAr⟩ (by rw[frE];simp only[WkL,jH,jI,jJ,aO5,go_sem,reduceIte,jA,jB,jC,jD,reduceCtorEq,jE,jF]) ?_
   rintro i hp3 nx3 ⟨hi,aD3,aFS,aDr⟩;generalize hQ2:aZ _ _ _ _ _=Q2;have aZQ:=(aDr nxE hnx).trans hbx;have aY4:nxE<nx3:=or;rcases Km i A.length with hil|hig
   ·have hci:decide ((i:Int)<(A.length:Int))=true:=dct;have hgi:=aL (fun t=>vls .free t) A i hil;have hwi:IntKind.i64.wrap ((i:Int)+1)=((i+1:Nat):Int):=wrp;have h6:=h62 A[i] (Ke hil);have D1:=fun h=>zM .free .free A[i] A[i] or or h;rw[decide_eq_true rfl] at D1;rw[frE];refine aue (e8 hci hgi hil aO5 aZQ aY4 jG hwi) ?_;rw[←hQ2];refine aF (i+1) or ⟨hil,or,dmo aFS,by exact kep aDr⟩ ?_;rw[frE];simp only[WkL,jH,jI,jJ,hwi,go_sem,reduceIte,jA,jB,jC,jD,reduceCtorEq,jE,jF]
   have hci:decide ((i:Int)<(A.length:Int))=false:=dcf;rw[frE];refine aue (e2 hci aO5) ?_;rw[←hQ2];refine au ?_;exact aC h' ((show Hp.same nx h' hp3 from fun m hm=>(aDr m or).trans (hsq m hm)).le hd (Hp.le_refl _)) ⟨rfl,rfl⟩
  rw[decide_eq_false hz] at hve;by_cases hm0:qB r=0
  ·rw[decide_eq_true hm0] at hvm;refine aue (e6 hb4 n4 hf hPf hve hvm) ?_;exact aC h' (eH (eH aG3 (aS.none hd or) _) (aS.none hd or) _) ⟨rfl,rfl⟩
  rw[decide_eq_false hm0] at hvm;have hem:=aPe hm0;rw[←hem] at hvm C3;have C1:=fun h=>Cf en h;have heq:(en==en)=true:=bqt rfl;refine aue (e6 hb4 n4 hf hPf hve heq) ?_;exact aC h' (eH (eH aG3 (aS.none hd or) _) (aS.none hd or) _) ⟨rfl,rfl⟩
end Go.Proofs.YtlhedpgobaellaaGreatDoor
