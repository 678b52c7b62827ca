/-
Texts of this proof,one behind the other. No conditions.
-/
import Derived.Test.YtlhedpgobaellaaGreatDoorKy
import Derived.Test.YtlhedpgobaellaaGreatDoorKt
open List renaming filterMap_nil→Ka,take_succ_eq_append_getElem→Kb,filterMap_append→Kc,append_nil→Kd,length_append→Ke,map_append→Kg,take_of_length_le→Kh,take_append_drop→Ki,take_zero→Kj,filterMap_cons→Kk,map_filterMap→Km,append_assoc→Kp,getElem_mem→Ks
open Nat renaming le_refl→Kf,lt_or_ge→Ko,zero_le→Kq
open Nat renaming reduceAdd→jA,reduceSub→jB,reduceLT→jC,reduceLeDiff→jD,reduceEqDiff→jE
open Int renaming reduceToNat→jF,toNat_natCast→jG,natCast_add→jH,natCast_one→jI,natCast_zero→jJ
open List renaming length_map→jK,length_nil→jM
set_option linter.all false
set_option maxHeartbeats 8000000
namespace Go.Proofs.YtlhedpgobaellaaGreatDoor
open Go.RowKit Go.Sort
attribute [local irreducible] IntKind.wrap
def qo(x:ByteArray):List Sr→V
 | []=>dG 0 []
 |s::r=>if s.r=x then dG s.ar (aQ s.zs) else qo x r
theorem qn(x:ByteArray):∀S:List Sr,∃ar,qo x S=dG ar (cD S x)
 | []=>⟨0,rfl⟩
 |s::r=>by
  unfold qo cD;simp only[lkS];split
  ·exact⟨s.ar,rfl⟩
  exact qn x r
theorem B7(oS:Own)(S:List Sr)(hl:S.length≤1000000)(x:ByteArray)(h:Hp):aM Tryz.prog 30 [.sl (.agg 3) oS (S.map nmD), .str x] h (qo x S):=by
 have hnm:∀L,(qo x S).names L:=fun L=>by
  obtain⟨ar,e⟩:=qn x S;rw[e];exact⟨trivial,cV (fun L=>mz _ L) L,trivial⟩
 refine aJ hnm fun h' nx hh=>aB L.bBt fun hd=>?_;have hd:aS h' nx:=hd;have hml:(S.map nmD).length=S.length:=jK ..;refine ZK ?_;refine au ?_
 refine aP (fun i:Nat=>aD 25 0 [(0, .sl (.agg 3) oS (S.map nmD)),(1, .str x),(4, .ptr nx (.agg 2) 0 0),(5, .int .i64 i)])
  (fun i hp nx1=>i≤S.length∧nx<nx1∧aS hp nx1∧Hp.same nx h' hp∧hp nx=some (.arr (.agg 2) [.agg [.int .i64 0, .sl .leaf .nil []]])∧qo x S=qo x (S.drop i))
  (fun i=>S.length-i) 0 ⟨Kq _,Zw,by exact dmo hd,by exact kep Hp.same.aAr,by simp only[go_sem,reduceIte,jA,jB,jC,jD,reduceCtorEq,jE,jF],rfl⟩ (by simp only[WkL,aD,jH,jI,jJ,go_sem,reduceIte,jA,jB,jC,jD,reduceCtorEq,jE,jF]) ?_
 rintro i hp nx1 ⟨hi,hnx,hdm,hsm,hbx,hge⟩;generalize hQ:aZ _ _ _ _ _=Q0;refine Zk ?_;have hle:=hsm.le hd (Hp.le_refl _);rcases Ko i S.length with hlt|hg
 ·have hc:decide ((i:Int)<(S.length:Int))=true:=dct;have hw:IntKind.i64.wrap ((i:Int)+1)=((i+1:Nat):Int):=wrp;have hg:=aL nmD S i hlt;rw[List.drop_eq_getElem_cons hlt] at hge;generalize S[i]=s at*;have hge:qo x S=if s.r=x then dG s.ar (aQ s.zs) else qo x (S.drop (i+1)):=hge
  obtain⟨ow,how⟩:=bX .leaf (lsV (aQ s.zs));have hnd:nmD s= .agg [.str s.r, .int .i64 s.ar, .sl .leaf ow (lsV (aQ s.zs))]:=by rw[nmD,how]
  have hrv:dG s.ar (aQ s.zs)= .agg [.int .i64 s.ar, .sl .leaf ow (lsV (aQ s.zs))]:=by rw[dG,how]
  rw[hnd] at hg;rw[hrv] at hge;by_cases e:s.r=x
  ·rw[if_pos e] at hge;have gs:(s.r.toList==x.toList)=true:=by rw[dV];exact decide_eq_true e
   refine aue (e8 hc hg hlt hml jG hbx hnx gs) ?_;rw[←hQ];refine au ?_;refine mW (by simp only[go_sem,reduceIte,jA,jB,jC,jD,reduceCtorEq,jE,jF]) h' (eH hle (aS.none hd (Kf _)) _) ⟨?_,rfl⟩;refine Zn ?_;rw[hge]
  rw[if_neg e] at hge;have gs:(s.r.toList==x.toList)=false:=by rw[dV];exact decide_eq_false e
  refine aue (e8 hc hg hlt hml jG hbx hnx gs) ?_;rw[←hQ];exact aF (i+1) or ⟨hlt,hnx,hdm,hsm,hbx,hge⟩ (by simp only[WkL,aD,jH,jI,jJ,hw,go_sem,reduceIte,jA,jB,jC,jD,reduceCtorEq,jE,jF])
 have hc:decide ((i:Int)<(S.length:Int))=false:=dcf;rw[List.drop_of_length_le or] at hge;refine aue (e4 hc hml hbx hnx) ?_;rw[←hQ];refine aue (e2 hbx hnx) ?_;refine mW (by simp only[go_sem,reduceIte,jA,jB,jC,jD,reduceCtorEq,jE,jF]) h' (eH hle (aS.none hd (Kf _)) _) ⟨?_,rfl⟩;refine Zn ?_;rw[hge];rfl
set_option maxRecDepth 100000
theorem frC(a2 a4 a6 a8 a10 a13 a14 a15 a16 a18 a77 a78 a79 a105 aOw a107 a131 aYp aYo:V):aD 218 0 [(2,a2),(4,a4),(6,a6),(8,a8),(10,a10),(13,a13),(14,a14),(15,a15),(16,a16),(18,a18),(77,a77),(78,a78),(79,a79),(105,a105),(106,aOw),(107,a107),(131,a131),(132,aYp),(133,aYo)]=[.top, .top,a2, .top,a4, .top,a6, .top,a8, .top,a10, .top, .top,a13,a14,a15,a16, .top,a18, .top, .top, .top, .top, .top, .top, .top, .top, .top, .top, .top, .top, .top, .top, .top, .top, .top, .top, .top, .top, .top, .top, .top, .top, .top, .top, .top, .top, .top, .top, .top, .top, .top, .top, .top, .top, .top, .top, .top, .top, .top, .top, .top, .top, .top, .top, .top, .top, .top, .top, .top, .top, .top, .top, .top, .top, .top, .top,a77,a78,a79, .top, .top, .top, .top, .top, .top, .top, .top, .top, .top, .top, .top, .top, .top, .top, .top, .top, .top, .top, .top, .top, .top, .top, .top, .top,a105,aOw,a107, .top, .top, .top, .top, .top, .top, .top, .top, .top, .top, .top, .top, .top, .top, .top, .top, .top, .top, .top, .top, .top, .top, .top,a131,aYp,aYo, .top, .top, .top, .top, .top, .top, .top, .top, .top, .top, .top, .top, .top, .top, .top, .top, .top, .top, .top, .top, .top, .top, .top, .top, .top, .top, .top, .top, .top, .top, .top, .top, .top, .top, .top, .top, .top, .top, .top, .top, .top, .top, .top, .top, .top, .top, .top, .top, .top, .top, .top, .top, .top, .top, .top, .top, .top, .top, .top, .top, .top, .top, .top, .top, .top, .top, .top, .top, .top, .top, .top, .top, .top, .top, .top, .top, .top, .top, .top, .top, .top, .top, .top, .top]:=rfl
theorem frB(a2 a4 a6 a8 a10 a13 a14 a15 a16 a77 a78 a79 a105 aOw a107:V):aD 218 0 [(2,a2),(4,a4),(6,a6),(8,a8),(10,a10),(13,a13),(14,a14),(15,a15),(16,a16),(77,a77),(78,a78),(79,a79),(105,a105),(106,aOw),(107,a107)]=[.top, .top,a2, .top,a4, .top,a6, .top,a8, .top,a10, .top, .top,a13,a14,a15,a16, .top, .top, .top, .top, .top, .top, .top, .top, .top, .top, .top, .top, .top, .top, .top, .top, .top, .top, .top, .top, .top, .top, .top, .top, .top, .top, .top, .top, .top, .top, .top, .top, .top, .top, .top, .top, .top, .top, .top, .top, .top, .top, .top, .top, .top, .top, .top, .top, .top, .top, .top, .top, .top, .top, .top, .top, .top, .top, .top, .top,a77,a78,a79, .top, .top, .top, .top, .top, .top, .top, .top, .top, .top, .top, .top, .top, .top, .top, .top, .top, .top, .top, .top, .top, .top, .top, .top, .top,a105,aOw,a107, .top, .top, .top, .top, .top, .top, .top, .top, .top, .top, .top, .top, .top, .top, .top, .top, .top, .top, .top, .top, .top, .top, .top, .top, .top, .top, .top, .top, .top, .top, .top, .top, .top, .top, .top, .top, .top, .top, .top, .top, .top, .top, .top, .top, .top, .top, .top, .top, .top, .top, .top, .top, .top, .top, .top, .top, .top, .top, .top, .top, .top, .top, .top, .top, .top, .top, .top, .top, .top, .top, .top, .top, .top, .top, .top, .top, .top, .top, .top, .top, .top, .top, .top, .top, .top, .top, .top, .top, .top, .top, .top, .top, .top, .top, .top, .top, .top, .top, .top, .top, .top, .top, .top, .top, .top, .top, .top, .top, .top, .top]:=rfl
theorem frA(a2 a4 a6 a8 a10 a15 a77 a78 a79:V):aD 218 0 [(2,a2),(4,a4),(6,a6),(8,a8),(10,a10),(15,a15),(77,a77),(78,a78),(79,a79)]=[.top, .top,a2, .top,a4, .top,a6, .top,a8, .top,a10, .top, .top, .top, .top,a15, .top, .top, .top, .top, .top, .top, .top, .top, .top, .top, .top, .top, .top, .top, .top, .top, .top, .top, .top, .top, .top, .top, .top, .top, .top, .top, .top, .top, .top, .top, .top, .top, .top, .top, .top, .top, .top, .top, .top, .top, .top, .top, .top, .top, .top, .top, .top, .top, .top, .top, .top, .top, .top, .top, .top, .top, .top, .top, .top, .top, .top,a77,a78,a79, .top, .top, .top, .top, .top, .top, .top, .top, .top, .top, .top, .top, .top, .top, .top, .top, .top, .top, .top, .top, .top, .top, .top, .top, .top, .top, .top, .top, .top, .top, .top, .top, .top, .top, .top, .top, .top, .top, .top, .top, .top, .top, .top, .top, .top, .top, .top, .top, .top, .top, .top, .top, .top, .top, .top, .top, .top, .top, .top, .top, .top, .top, .top, .top, .top, .top, .top, .top, .top, .top, .top, .top, .top, .top, .top, .top, .top, .top, .top, .top, .top, .top, .top, .top, .top, .top, .top, .top, .top, .top, .top, .top, .top, .top, .top, .top, .top, .top, .top, .top, .top, .top, .top, .top, .top, .top, .top, .top, .top, .top, .top, .top, .top, .top, .top, .top, .top, .top, .top, .top, .top, .top, .top, .top, .top, .top, .top, .top, .top, .top, .top, .top, .top, .top, .top, .top, .top, .top]:=rfl
def nxT(R:Ru)(ps:List PS)(i:Int)(row:List Vl)(t:List Vl):Option TR:=if (gA R ps i row t).2.1=true then some (.free,(gA R ps i row t).1) else none
def fL(G:ByteArray→List (List Vl))(R:Ru)(ps:List PS)(i:Int)(L:List TR):List TR:=
 if (dW ps i).k=1 then L.flatMap fun p=>(G (nJ R ps i).a.r).filterMap (nxT R ps i p.2)
 else if (dW ps i).k=2 then L.filter fun p=> !nL (G (nJ R ps i).a.r) (pG R ps i p.2).1
 else L.filterMap fun p=>nxT R ps i p.2 []
theorem tx(G:ByteArray→List (List Vl))(R:Ru)(ps:List PS)(i:Int)(L M:List TR):fL G R ps i (L++M)=fL G R ps i L++fL G R ps i M:=by
 unfold fL;split
 ·exact List.flatMap_append
 split
 ·exact List.filter_append ..
 exact Kc ..
theorem B6(G:ByteArray→List (List Vl))(R:Ru)(ps:List PS)(i:Int)(L:List TR):aQ (fL G R ps i L)=Ef G R ps i (aQ L):=by
 have key:∀v t,(nxT R ps i v t).map Prod.snd=if (gA R ps i v t).2.1=true then some (gA R ps i v t).1 else none:=fun v t=>by
  unfold nxT;split<;>rfl
 unfold fL Ef aQ;split
 ·rw[List.map_flatMap,List.flatMap_map];exact vD fun p _=>by
   rw[Km];exact jZ fun t _=>key p.2 t
 split
 ·rw[List.filter_map];rfl
 rw[Km,List.filterMap_map];exact jZ fun p _=>key p.2 []
theorem HV(R:Ru)(ps:List PS)(hPl:DI R ps)(PV:List V)(hPV:dH R ps= .agg PV)(i:Nat)(Kn:List (List Vl))(hK2:Kn.length≤2000)(hK6:∀t∈Kn,t.length≤6)(p:TR)(hE:∀t,(gA R ps i p.2 t).2.2=0)(X:List TR)(hX:(X++Kn.filterMap (nxT R ps i p.2)).length≤20000)
 (n2 n10 n14 n16 lS lL j:Nat) (mV wV stV LV:V) (ow:Own) {Q:bJ→St→Prop} (hp0:Hp) (nx0 b0:Nat) (hd0:aS hp0 nx0) (hb0:b0≤nx0) (o:Own) (hac:Acc hp0 b0 o (X.map TR.v)) (aEi:hp0 n10=some (.arr (.agg 7) [.agg PV])) (aFM:n10<b0) (sl:List V)
 (hw:WkL sl (aD 218 0 [(2, .ptr n2 (.agg 6) 0 0),(4, .bool false),(6,mV),(8,wV),(10, .ptr n10 (.agg 7) 0 0),(13, .int .i64 i),(14, .ptr n14 (.agg 5) 0 0),(15, .sl .leaf o (X.map TR.v)),(16, .ptr n16 (.agg 2) 0 0),(18,p.v),(77,stV),(78, .int .i64 lS),(79, .int .i64 i),(105,LV),(106, .int .i64 lL),(107, .int .i64 j),(131, .sl .leaf ow (lsV Kn)),(132, .int .i64 Kn.length),(133, .int .i64 0)]))
 (fin:∀sl' hp nx o',WkL sl' (aD 218 0 [(2, .ptr n2 (.agg 6) 0 0),(4, .bool false),(6,mV),(8,wV),(10, .ptr n10 (.agg 7) 0 0),(13, .int .i64 i),(14, .ptr n14 (.agg 5) 0 0),(15, .sl .leaf o' ((X++Kn.filterMap (nxT R ps i p.2)).map TR.v)),(16, .ptr n16 (.agg 2) 0 0),(77,stV),(78, .int .i64 lS),(79, .int .i64 i),(105,LV),(106, .int .i64 lL),(107, .int .i64 j)])→nx0≤nx→aS hp nx→Hp.same b0 hp0 hp→Acc hp b0 o' ((X++Kn.filterMap (nxT R ps i p.2)).map TR.v)→Q (.exit 5) ⟨sl',hp,nx⟩):
 lwp Tryz.prog (.loop L.aOt) Q ⟨sl,hp0,nx0⟩:=by
 have hPf:(V.agg PV).fits (.agg 7)=true:=by
  obtain⟨oS,hoS⟩:=bX (.agg 5) (ps.map PS.v);rw[←hPV];unfold dH;rw[hoS];rfl
 refine aP (fun q:Nat×Own=>aD 218 0 [(2, .ptr n2 (.agg 6) 0 0),(4, .bool false),(6,mV),(8,wV),(10, .ptr n10 (.agg 7) 0 0),(13, .int .i64 i),(14, .ptr n14 (.agg 5) 0 0),(15, .sl .leaf q.2 ((X++(Kn.take q.1).filterMap (nxT R ps i p.2)).map TR.v)),(16, .ptr n16 (.agg 2) 0 0),(18,p.v),(77,stV),(78, .int .i64 lS),(79, .int .i64 i),(105,LV),(106, .int .i64 lL),(107, .int .i64 j),(131, .sl .leaf ow (lsV Kn)),(132, .int .i64 Kn.length),(133, .int .i64 q.1)])
  (fun q hp nx1=>q.1≤Kn.length∧nx0≤nx1∧aS hp nx1∧Hp.same b0 hp0 hp∧Acc hp b0 q.2 ((X++(Kn.take q.1).filterMap (nxT R ps i p.2)).map TR.v))
  (fun q=>Kn.length-q.1) (0,o) ⟨Kq _,Kf _,hd0,Hp.same.aAr,by rw[Kj,Ka,Kd];exact hac⟩ (by dsimp only;rw[Kj,Ka,Kd];exact hw) ?_
 clear hw hac;rintro⟨m,o⟩ hp nx1 ⟨hm,hnx,hdm,hsm,aAO⟩;generalize hQ:aZ _ _ _ _ _=Q0;dsimp only at hm aAO;have hKl:(lsV Kn).length=Kn.length:=jK ..;rcases Ko m Kn.length with hlt|hge
 ·have hc:decide ((m:Int)<(Kn.length:Int))=true:=dct;have hg:(lsV Kn).getD m (.tup [])=vls .free Kn[m]:=aL (fun t=>vls .free t) Kn m hlt;have hwm:IntKind.i64.wrap ((m:Int)+1)=((m+1:Nat):Int):=wrp;have hb1:=(hsm n10 aFM).trans aEi;have hn1:n10<nx1:=or;have CN:=fun h=>d7 R ps hPl i p.1 .free p.2 Kn[m] (by have:=hK6 Kn[m] (Ks hlt);omega) h;rw[hPV] at CN;have hE0:=hE Kn[m];have htk:(Kn.take (m+1)).filterMap (nxT R ps i p.2)=(Kn.take m).filterMap (nxT R ps i p.2)++(nxT R ps i p.2 Kn[m]).toList:=by
   rw[Kb hlt,Kc,Kk,Ka];generalize nxT R ps i p.2 Kn[m]=z;cases z with
   |none=>simp only[Option.toList_none]
   |some z=>simp only[Option.toList_some]
  have hXm:(X++(Kn.take m).filterMap (nxT R ps i p.2)).length≤20000:=by
   rw[←Ki m Kn,Kc,←Kp,Ke] at hX;omega
  have aO4:((X++(Kn.take m).filterMap (nxT R ps i p.2)).map TR.v).length=(X++(Kn.take m).filterMap (nxT R ps i p.2)).length:=jK ..;have hnT:nxT R ps i p.2 Kn[m]=if (gA R ps i p.2 Kn[m]).2.1=true then some (.free,(gA R ps i p.2 Kn[m]).1) else none:=rfl
  obtain⟨⟨nr,b,e⟩,hN⟩:∃P,gA R ps i p.2 Kn[m]=P:=⟨_,rfl⟩;rw[hN] at hE0 hnT CN;have hE0:e=0:=hE0;subst hE0;have hv0:=dK 0;rw[decide_eq_true rfl] at hv0;unfold mkX at CN;dsimp only at CN;clear fin hN hE hX hPl;cases b with
  |false=>
   rw[if_neg Zm] at hnT CN;rw[hnT] at htk;have htk:(Kn.take (m+1)).filterMap (nxT R ps i p.2)=(Kn.take m).filterMap (nxT R ps i p.2):=by rw[htk];simp
   have aCD:Q0 .normal=Q0 .normal:=rfl;generalize Kn[m]=t at*;rw[frC];refine aue (e8 hc hg hlt hKl hb1 hn1 hPf jG) ?_;refine aH (CN _) rfl (aI _) ?_;refine aue (e2 hv0 hwm) ?_;rw[←hQ];exact aF (m+1,o) Zw ⟨hlt,hnx,hdm,hsm,by dsimp only;rw[htk];exact aAO⟩ (by dsimp only;rw[htk];exact(by rw[frC];simp only[WkL,jH,jI,jJ,hwm,go_sem,reduceIte,jA,jB,jC,jD,reduceCtorEq,jE,jF]))
  |true=>
   rw[if_pos rfl] at hnT CN;rw[hnT] at htk;have htk2:(X++(Kn.take (m+1)).filterMap (nxT R ps i p.2)).map TR.v=(X++(Kn.take m).filterMap (nxT R ps i p.2)).map TR.v++[.sl (.agg 3) .free (nr.map Vl.v)]:=by
    rw[htk,←Kp,Kg];rfl
   generalize Kn[m]=t at*;generalize X++(Kn.take m).filterMap (nxT R ps i p.2)=Y at*;rw[frC];refine aue (e8 hc hg hlt hKl hb1 hn1 hPf jG) ?_;refine aH (CN _) rfl (aI _) ?_;refine aue (e4 hv0 hwm hXm aO4) ?_;rw[←hQ];refine aF (m+1, .tok (nx1+1)) Zw ⟨hlt,or,dmo hdm,gm hsm aAO,by dsimp only;rw[htk2];exact Acc.new _ Zm or⟩ ?_;dsimp only;rw[frC,htk2];simp only[WkL,jH,jI,jJ,hwm,go_sem,reduceIte,jA,jB,jC,jD,reduceCtorEq,jE,jF]
 have hc:decide ((m:Int)<(Kn.length:Int))=false:=dcf;rw[Kh hge] at aAO⊢;rw[frC];refine aue (e2 hc hKl) ?_;rw[←hQ];refine fin _ hp nx1 o ?_ hnx hdm hsm aAO;rw[frB];simp only[WkL,jH,jI,jJ,go_sem,reduceIte,jA,jB,jC,jD,reduceCtorEq,jE,jF]
theorem Iq{G:ByteArray→List (List Vl)}{R:Ru}{ps:List PS}{i:Int}(p:TR)(h:(dW ps i).k=1):fL G R ps i [p]=(G (nJ R ps i).a.r).filterMap (nxT R ps i p.2):=by
 unfold fL;rw[if_pos h,List.flatMap_cons,List.flatMap_nil,Kd]
theorem Ip{G:ByteArray→List (List Vl)}{R:Ru}{ps:List PS}{i:Int}(p:TR)(h:(dW ps i).k=2):fL G R ps i [p]=if nL (G (nJ R ps i).a.r) (pG R ps i p.2).1=true then [] else [p]:=by
 unfold fL;rw[if_neg or,if_pos h,List.filter_cons,List.filter_nil];cases nL (G (nJ R ps i).a.r) (pG R ps i p.2).1<;>rfl
theorem Io{G:ByteArray→List (List Vl)}{R:Ru}{ps:List PS}{i:Int}(p:TR)(h:(dW ps i).k=3):fL G R ps i [p]=(nxT R ps i p.2 []).toList:=by
 unfold fL;rw[if_neg or,if_neg or,Kk,Ka];generalize nxT R ps i p.2 []=z;cases z<;>rfl
theorem E1{R:Ru}{ps:List PS}(hp:DI R ps){i:Int}(row:List Vl):(pG R ps i row).1.length≤6:=by
 unfold pG;split
 ·simp
 rename_i h;have hi:0≤i∧i<ps.length:=by simp only[not_or,Classical.not_not] at h;exact h.1
 split
 ·simp
 have:=(hp.2 _ (db hi)).kl;have h2:=yM (nM (dW ps i).hv row) (CK R ps i) [];unfold CK at h2⊢;simp only[jK,jM] at h2;omega
theorem HU(R:Ru)(ps:List PS)(hPl:DI R ps)(PV:List V)(hPV:dH R ps= .agg PV)(i:Nat)(G:ByteArray→List (List Vl))(Kn:List (List Vl))(hK:G (nJ R ps i).a.r=Kn)(hK2:Kn.length≤2000)(hK6:∀t∈Kn,t.length≤6)(kk:Int)(hkk:(dW ps i).k=kk)(hk3:kk=1∨kk=2∨kk=3)
 (oL:Own) (Lz:List TR) (hLl:Lz.length≤20000) (hX:(fL G R ps i Lz).length≤20000) (hF:F4 G R ps i (aQ Lz))
 (n2 n10 n14 n16 lS:Nat) (mV wV stV W1 W2 W3 W4:V) (ar:Int) (ow:Own) {Q:bJ→St→Prop} (hp0:Hp) (nx0:Nat) (hd0:aS hp0 nx0) (aEi:hp0 n10=some (.arr (.agg 7) [.agg PV])) (aX2:hp0 n14=some (.arr (.agg 5) [.agg [.int .i64 kk,W1,W2,W3,W4]])) (aX1:hp0 n16=some (.arr (.agg 2) [.agg [.int .i64 ar, .sl .leaf ow (lsV Kn)]])) (hrv:dG ar Kn= .agg [.int .i64 ar, .sl .leaf ow (lsV Kn)]) (sl:List V)
 (hw:WkL sl (aD 218 0 [(2, .ptr n2 (.agg 6) 0 0),(4, .bool false),(6,mV),(8,wV),(10, .ptr n10 (.agg 7) 0 0),(13, .int .i64 i),(14, .ptr n14 (.agg 5) 0 0),(15, .sl .leaf .nil []),(16, .ptr n16 (.agg 2) 0 0),(77,stV),(78, .int .i64 lS),(79, .int .i64 i),(105, .sl .leaf oL (Lz.map TR.v)),(106, .int .i64 Lz.length),(107, .int .i64 0)]))
 (fin:∀sl' hp nx o',WkL sl' (aD 218 0 [(2, .ptr n2 (.agg 6) 0 0),(4, .bool false),(6,mV),(8,wV),(10, .ptr n10 (.agg 7) 0 0),(15, .sl .leaf o' ((fL G R ps i Lz).map TR.v)),(77,stV),(78, .int .i64 lS),(79, .int .i64 i)])→nx0≤nx→aS hp nx→Hp.same nx0 hp0 hp→Q (.exit 2) ⟨sl',hp,nx⟩):
 lwp Tryz.prog (.loop L.aOs) Q ⟨sl,hp0,nx0⟩:=by
 have hPf:(V.agg PV).fits (.agg 7)=true:=by
  obtain⟨oS,hoS⟩:=bX (.agg 5) (ps.map PS.v);rw[←hPV];unfold dH;rw[hoS];rfl
 have aFM:=hd0 _ _ aEi;have aZB:=hd0 _ _ aX2;have aZA:=hd0 _ _ aX1;have aXn:fL G R ps i (Lz.take 0)=[]:=by rw[Kj];unfold fL;simp
 refine aP (fun q:Nat×Own=>aD 218 0 [(2, .ptr n2 (.agg 6) 0 0),(4, .bool false),(6,mV),(8,wV),(10, .ptr n10 (.agg 7) 0 0),(13, .int .i64 i),(14, .ptr n14 (.agg 5) 0 0),(15, .sl .leaf q.2 ((fL G R ps i (Lz.take q.1)).map TR.v)),(16, .ptr n16 (.agg 2) 0 0),(77,stV),(78, .int .i64 lS),(79, .int .i64 i),(105, .sl .leaf oL (Lz.map TR.v)),(106, .int .i64 Lz.length),(107, .int .i64 q.1)])
  (fun q hp nx1=>q.1≤Lz.length∧nx0≤nx1∧aS hp nx1∧Hp.same nx0 hp0 hp∧Acc hp nx0 q.2 ((fL G R ps i (Lz.take q.1)).map TR.v))
  (fun q=>Lz.length-q.1) (0, .nil) ⟨Kq _,Kf _,hd0,Hp.same.aAr,by dsimp only;rw[aXn];exact .inl ⟨rfl,rfl⟩⟩ (by dsimp only;rw[aXn];exact hw) ?_
 clear hw;rintro⟨j,o⟩ hp nx1 ⟨hj,hnx,hdm,hsm,aAO⟩;generalize hQ:aZ _ _ _ _ _=Q0;dsimp only at hj aAO;have hLm:(Lz.map TR.v).length=Lz.length:=jK ..;have hb1:=(hsm n10 aFM).trans aEi;have hb4:=(hsm n14 aZB).trans aX2;have hb6:=(hsm n16 aZA).trans aX1;have hn1:n10<nx1:=or;have hn4:n14<nx1:=or;have hn6:n16<nx1:=or;rcases Ko j Lz.length with hlt|hge
 ·have hc:decide ((j:Int)<(Lz.length:Int))=true:=dct;have hg:=aL TR.v Lz j hlt;have hwj:IntKind.i64.wrap ((j:Int)+1)=((j+1:Nat):Int):=wrp;have htk:fL G R ps i (Lz.take (j+1))=fL G R ps i (Lz.take j)++fL G R ps i [Lz[j]]:=by
   rw[Kb hlt,tx]
  have hXj:(fL G R ps i (Lz.take (j+1))).length≤20000:=by
   rw[←Ki (j+1) Lz,tx,Ke] at hX;omega
  have hFj:=hF Lz[j].2 (List.mem_map.2 ⟨Lz[j],Ks hlt,rfl⟩);rw[hkk] at hFj;clear hF hX;have hXm:(fL G R ps i (Lz.take j)).length≤20000:=by rw[htk,Ke] at hXj;omega
  have aO4:((fL G R ps i (Lz.take j)).map TR.v).length=(fL G R ps i (Lz.take j)).length:=jK ..;have hv0:=dK 0;rw[decide_eq_true rfl] at hv0;generalize Lz[j]=p at*;rcases hk3 with rfl|rfl|rfl
  ·have g1:((1:Int)==1)=true:=rfl;have hr1:=Iq (G:=G) (R:=R) p hkk;rw[hK] at hr1;rw[hr1] at htk;have hKl:(lsV Kn).length=Kn.length:=jK ..;rw[frB];refine aue (e11 hc hg hlt hLm hb4 hn4 g1 hb6 hn6 hKl jG) ?_;refine HV R ps hPl PV hPV i Kn hK2 hK6 p (hFj.1 rfl) (fL G R ps i (Lz.take j)) (by rw[←htk];exact hXj) n2 n10 n14 n16 lS Lz.length j mV wV stV (.sl .leaf oL (Lz.map TR.v)) ow hp nx1 nx0 hdm hnx o aAO hb1 aFM _ ?_ ?_
   ·have hpc:p.v.cell 0=p.v:=rfl;rw[frC];simp only[WkL,jH,jI,jJ,hpc,go_sem,reduceIte,jA,jB,jC,jD,reduceCtorEq,jE,jF]
   intro sl' hp' nx' o' hw' q1 q2 q3 q4;rw[←htk] at hw' q4;refine dY (aU (aU ?_));refine wB ⟨aD 218 0 [(2, .ptr n2 (.agg 6) 0 0),(4, .bool false),(6,mV),(8,wV),(10, .ptr n10 (.agg 7) 0 0),(13, .int .i64 i),(14, .ptr n14 (.agg 5) 0 0),(15, .sl .leaf o' ((fL G R ps i (Lz.take (j+1))).map TR.v)),(16, .ptr n16 (.agg 2) 0 0),(77,stV),(78, .int .i64 lS),(79, .int .i64 i),(105, .sl .leaf oL (Lz.map TR.v)),(106, .int .i64 Lz.length),(107, .int .i64 j)],hp',nx'⟩ ⟨hw',Hp.le_refl _,Kf _⟩ ?_;rw[frB];refine aue hwj ?_;rw[←hQ];refine aF (j+1,o') Zw ⟨hlt,or,q2,fun k hk=>(q3 k hk).trans (hsm k hk),q4⟩ ?_;dsimp only;rw[frB];simp only[WkL,jH,jI,jJ,hwj,go_sem,reduceIte,jA,jB,jC,jD,reduceCtorEq,jE,jF]
  ·have g1:((2:Int)==1)=false:=rfl;have g2:((2:Int)==2)=true:=rfl;have hr2:=Ip (G:=G) (R:=R) p hkk;rw[hK] at hr2;have CL:=fun h=>zi R ps hPl i p.1 p.2 h;have hE:=hFj.2.1 rfl;have h6:=E1 hPl (i:=i) p.2;rw[hPV] at CL;obtain⟨⟨key,e⟩,hN⟩:∃P,pG R ps i p.2=P:=⟨_,rfl⟩;rw[hN] at hE CL hr2 h6;have hE:e=0:=hE;subst hE;unfold mkR at CL;dsimp only at CL hr2 h6;have CH:=fun h=>yA ar Kn or (fun t ht=>by have:=hK6 t ht;omega) (okO 0 .free) key or h;rw[hrv] at CH;rw[frB];refine aue (e12 hc hg hlt hLm hb4 hn4 g1 g2 hb1 hn1 hPf jG) ?_;refine aH (CL _) rfl (aI _) ?_;refine aue (e3 hv0 hb6 hn6) ?_;cases hm:decide (key∈Kn) with
   |true=>
    rw[hm] at CH;have hh:nL Kn key=true:=pJ.2 (of_decide_eq_true hm);rw[if_pos hh] at hr2;rw[hr2,Kd] at htk;refine aH (CH _) rfl (aI _) ?_;refine aue hwj ?_;rw[←hQ];refine aF (j+1,o) Zw ⟨hlt,hnx,hdm,hsm,by dsimp only;rw[htk];exact aAO⟩ ?_;dsimp only;rw[frB,htk];simp only[WkL,jH,jI,jJ,hwj,go_sem,reduceIte,jA,jB,jC,jD,reduceCtorEq,jE,jF]
   |false=>
    rw[hm] at CH;rw[if_neg (fun hh=>of_decide_eq_false hm (pJ.1 hh))] at hr2;have htk2:(fL G R ps i (Lz.take (j+1))).map TR.v=(fL G R ps i (Lz.take j)).map TR.v++[p.v]:=by
     rw[htk,hr2,Kg];rfl
    have hpl:p.v.aAE=true:=rfl;refine aH (CH _) rfl (aI _) ?_;clear CL CH hr2 htk hFj hXj;generalize p.v=pV at*;refine aue (e4 hwj hXm aO4 hpl) ?_;rw[←hQ];refine aF (j+1, .tok (nx1+1)) Zw ⟨hlt,or,dmo hdm,gm hsm aAO,by dsimp only;rw[htk2];exact Acc.new _ Zm or⟩ ?_;dsimp only;rw[frB,htk2];simp only[WkL,jH,jI,jJ,hwj,go_sem,reduceIte,jA,jB,jC,jD,reduceCtorEq,jE,jF]
  have g1:((3:Int)==1)=false:=rfl;have g2:((3:Int)==2)=false:=rfl;have hr3:=Io (G:=G) (R:=R) p hkk;have CN:=fun h=>d7 R ps hPl i p.1 .nil p.2 [] Zm h;have hE:=hFj.2.2 rfl;rw[hPV] at CN;have hnT:nxT R ps i p.2 []=if (gA R ps i p.2 []).2.1=true then some (.free,(gA R ps i p.2 []).1) else none:=rfl
  obtain⟨⟨nr,b,e⟩,hN⟩:∃P,gA R ps i p.2 []=P:=⟨_,rfl⟩;rw[hN] at hE CN hnT;have hE:e=0:=hE;subst hE;unfold mkX at CN;dsimp only at CN;rw[frB];refine aue (e12 hc hg hlt hLm hb4 hn4 g1 g2 hb1 hn1 hPf jG) ?_;refine aH (CN _) rfl (aI _) ?_;cases b with
  |false=>
   rw[if_neg Zm] at hnT;rw[hr3,hnT] at htk;have htk:fL G R ps i (Lz.take (j+1))=fL G R ps i (Lz.take j):=by rw[htk];simp
   refine aue (e2 hv0 hwj) ?_;rw[←hQ];refine aF (j+1,o) Zw ⟨hlt,hnx,hdm,hsm,by dsimp only;rw[htk];exact aAO⟩ ?_;dsimp only;rw[frB,htk];simp only[WkL,jH,jI,jJ,hwj,go_sem,reduceIte,jA,jB,jC,jD,reduceCtorEq,jE,jF]
  |true=>
   rw[if_pos rfl] at hnT;have htk2:(fL G R ps i (Lz.take (j+1))).map TR.v=(fL G R ps i (Lz.take j)).map TR.v++[.sl (.agg 3) .free (nr.map Vl.v)]:=by
    rw[htk,hr3,hnT,Kg];rfl
   clear CN hr3 hnT htk hFj hXj;refine aue (e4 hv0 hwj hXm aO4) ?_;rw[←hQ];refine aF (j+1, .tok (nx1+1)) Zw ⟨hlt,or,dmo hdm,gm hsm aAO,by dsimp only;rw[htk2];exact Acc.new _ Zm or⟩ ?_;dsimp only;rw[frB,htk2];simp only[WkL,jH,jI,jJ,hwj,go_sem,reduceIte,jA,jB,jC,jD,reduceCtorEq,jE,jF]
 have hc:decide ((j:Int)<(Lz.length:Int))=false:=dcf;rw[Kh hge];rw[frB];refine aue (e2 hc hLm) ?_;rw[←hQ];refine fin _ hp nx1 o ?_ hnx hdm hsm;rw[frA];simp only[WkL,jH,jI,jJ,go_sem,reduceIte,jA,jB,jC,jD,reduceCtorEq,jE,jF]
end Go.Proofs.YtlhedpgobaellaaGreatDoor
