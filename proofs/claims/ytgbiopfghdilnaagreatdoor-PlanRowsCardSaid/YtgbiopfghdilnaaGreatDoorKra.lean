/-
Texts of this proof,one behind the other. No conditions.
-/
import Derived.Test.YtgbiopfghdilnaaGreatDoorKk
open Go.Proofs.YtgbiopfghdilnaaGreatDoor.Hp renaming le_refl→Ka,set→Kb,same→Kd
open List renaming take_succ_eq_append_getElem→Kc,length_append→Ke,take_of_length_le→Kf,map_append→Kh,mem_append→Kj,mem_singleton→Kk,take_zero→Ko,getElem_mem→Kq,append_nil→Ku,flatMap_append→Kv,append_assoc→Kw,flatMap_cons→Kx,mem_of_find?_eq_some→Ky,length_take→Kz,flatMap_nil→KA,length_eq_zero_iff→KD,length_nil→KE,nil_append→KF,mem_cons_of_mem→KI,map_cons→KJ,replicate_succ→KK,replicate_zero→KM,mem_cons_self→KO,map_nil→KP,length_cons→KR,cons_append→KS,find?_some→KV
open Nat renaming le_refl→Kg,lt_or_ge→Km,zero_le→Kp,reduceAdd→Ks,reduceSub→Kt,reduceLeDiff→KB,reduceEqDiff→KC,lt_of_lt_of_le→KN,reduceLT→KQ,lt_succ_self→KU,le_of_lt→KX
open Bool renaming and_eq_true→Ki,or_eq_true→KH,true_and→KW
open Int renaming reduceToNat→KG
open Nat renaming reduceAdd→jA,reduceSub→jB,reduceLT→jC,reduceLeDiff→jD,reduceEqDiff→jE
open Int renaming reduceToNat→jF,toNat_natCast→jG,natCast_add→jH,natCast_one→jI,natCast_zero→jJ
open List renaming length_map→jK,length_cons→jL,length_nil→jM,nil_append→jQ
set_option linter.all false
set_option maxHeartbeats 8000000
namespace Go.Proofs.YtgbiopfghdilnaaGreatDoor
open Go.RowKit Go.Sort
attribute [local irreducible] IntKind.wrap
theorem kT(o:Own)(l:List ByteArray)(hl:l.length≤1000000000)(x:ByteArray)(h:Hp):aK Tryz.prog 49 [.sl .leaf o (l.map V.str), .str x] h (.bool (bP x l)):=by
 refine aH (fun L=>trivial) fun h' nx hh=>aB L.bDw fun hd=>?_;have hd:aS h' nx:=hd;refine ZK ?_;refine au ?_
 refine aO (fun i:Nat=>aD 18 0 [(0, .sl .leaf o (l.map V.str)),(1, .str x),(5, .int .i64 i)])
  (fun i hp nx1=>i≤l.length∧aS hp nx1∧hp=h'∧∀y∈l.take i,y≠x)
  (fun i=>l.length-i) 0 ⟨Kp _,by exact dmo hd,rfl,Zm⟩ (by simp only[WkL,aD,jH,jI,jJ,jK,go_sem,reduceIte,jA,jB,jC,jD,reduceCtorEq,jE,jF]) ?_
 rintro i hp nx1 ⟨hi,hdm,rfl,hno⟩;generalize hQ:aV _ _ _ _ _=Q0;refine Zk ?_;rcases Km i l.length with hlt|hge
 ·have hc:decide ((i:Int)<(l.length:Int))=true:=dct;have hg:=aJ V.str l i hlt;have hw:IntKind.i64.wrap ((i:Int)+1)=((i+1:Nat):Int):=wrp;have htk:=Kc hlt;have aAp:=Kq hlt;generalize l[i]=y at hg htk aAp;by_cases hy:y=x
  ·subst hy;have hb:bP y l=true:=dE.2 aAp;have he:(y.toList==y.toList)=true:=by rw[dN];exact decide_eq_true rfl
   refine aue (e6 hc hg hlt (@jK ByteArray V) jG he) ?_;rw[←hQ];refine au ?_;refine aC hp (Ka _) ⟨?_,rfl⟩;rw[hb];rfl
  have he:(y.toList==x.toList)=false:=by rw[dN];exact decide_eq_false hy
  refine aue (e7 hc hg hlt (@jK ByteArray V) jG he hw) ?_;rw[←hQ];refine aF (i+1) or ⟨hlt,hdm,rfl,fun z hz=>?_⟩ (by simp only[WkL,aD,jH,jI,jJ,go_sem,reduceIte,jA,jB,jC,jD,reduceCtorEq,jE,jF]);rw[htk,Kj,Kk] at hz;rcases hz with hz|rfl
  ·exact hno z hz
  exact hy
 have hc:decide ((i:Int)<(l.length:Int))=false:=dcf;have hb:bP x l=false:=jZ.2 fun hx=>hno x (by rw[Kf or];exact hx) rfl;refine aue hc ?_;rw[←hQ];refine au ?_;refine aC hp (Ka _) ⟨?_,rfl⟩;rw[hb];rfl
theorem qR(o:Own)(ts:List Tr)(hl:ts.length≤100000000)(h:Hp):aK Tryz.prog 94 [trs o ts] h (lst .leaf ((nmL [] ts).map V.str)):=by
 refine dF (fun L=>bV (fun L=>aT (f:=V.str) (fun _=>trivial) _) L) fun h' nx hh=>aB L.bCr fun hd=>?_;have hd:aS h' nx:=hd;refine ZK ?_;refine au ?_
 refine aO (fun q:Nat×Own=>aD 37 0 [(0,trs o ts),(3, .sl .leaf q.2 ((nmL [] (ts.take q.1)).map V.str)),(4, .int .i64 q.1)])
  (fun q hp nx1=>q.1≤ts.length∧nx≤nx1∧aS hp nx1∧Kd nx h' hp∧Acc hp nx q.2 ((nmL [] (ts.take q.1)).map V.str))
  (fun q=>ts.length-q.1) (0, .nil) ⟨Kp _,Zw,by exact dmo hd,by exact kep Hp.same.aAn, .inl ⟨rfl,rfl⟩⟩ (by simp only[WkL,aD,jH,jI,jJ,trs,jK,nmL,Ko,List.foldl_nil,go_sem,reduceIte,jA,jB,jC,jD,reduceCtorEq,jE,jF]) ?_
 rintro⟨i,oo⟩ hp nx1 ⟨hi,hnx,hdm,hsm,aAM⟩;generalize hQ:aV _ _ _ _ _=Q0;dsimp only at hi aAM;refine Zk ?_;rcases Km i ts.length with hlt|hge
 ·have hc:decide ((i:Int)<(ts.length:Int))=true:=dct;have hg:=aJ Tr.v ts i hlt;have hw:IntKind.i64.wrap ((i:Int)+1)=((i+1:Nat):Int):=wrp;have hNl:(nmL [] (ts.take i)).length≤100000000:=by
   have:=jU (ts.take i) [];rw[Kz,jM] at this;omega
  have hN:nmL [] (ts.take (i+1))=nmT (nmL [] (ts.take i)) ts[i]:=by
   rw[Kc hlt,br];rfl
  generalize nmL [] (ts.take i)=W at*;generalize ts[i]=t at*;have C1:∀h:Hp,aK Tryz.prog 49 [.sl .leaf oo (W.map V.str), .str t.x] h (.bool (bP t.x W)):=fun h=>kT oo W or t.x h;have hml:(W.map V.str).length=W.length:=jK ..;unfold nmT at hN;cases h1:decide (t.x.size=0) with
  |true=>
   rw[h1,if_neg Zm] at hN;have hz:decide ((0:Int)<(t.x.size:Int))=false:=dcf (h:=by have:=of_decide_eq_true h1;omega);refine aue (e9 hc hg hlt hw hz (@jK Tr V) jG Tr.v.eq_1 trs.eq_1) ?_;rw[←hQ];exact aF (i+1,oo) Zw ⟨hlt,or,dmo hdm,kep hsm,by dsimp only;rw[hN];exact aAM⟩ (by simp only[WkL,aD,jH,jI,jJ,trs,hN,go_sem,reduceIte,jA,jB,jC,jD,reduceCtorEq,jE,jF])
  |false=>
   have hz:decide ((0:Int)<(t.x.size:Int))=true:=dct (h:=by have:=of_decide_eq_false h1;omega);cases hb:bP t.x W with
   |true=>
    rw[hb] at C1;rw[h1,hb,if_neg Zm] at hN;refine aue (e9 hc hg hlt hw hz (@jK Tr V) jG Tr.v.eq_1 trs.eq_1) ?_;rw[←hQ];exact aF (i+1,oo) Zw ⟨hlt,or,dmo hdm,kep hsm,by dsimp only;rw[hN];exact aAM⟩ (by simp only[WkL,aD,jH,jI,jJ,trs,hN,go_sem,reduceIte,jA,jB,jC,jD,reduceCtorEq,jE,jF])
   |false=>
    rw[hb] at C1;rw[h1,hb,if_pos Zm] at hN;refine aue (e11 hc hg hlt hw hz hml hNl (@jK Tr V) jG Tr.v.eq_1 trs.eq_1) ?_;rw[←hQ];refine aF (i+1, .tok (nx1+1)) Zw ⟨hlt,or,dmo hdm,rC hsm aAM,?_⟩ (by simp only[WkL,aD,jH,jI,jJ,trs,hN,Kh,KJ,KP,go_sem,reduceIte,jA,jB,jC,jD,reduceCtorEq,jE,jF]);dsimp only;rw[hN,Kh];exact Acc.new _ Zm or
 have hc:decide ((i:Int)<(ts.length:Int))=false:=dcf;rw[Kf or] at aAM⊢;refine aue (e3 hc (@jK Tr V) trs.eq_1) ?_;rw[←hQ];refine au ?_;refine aC h' (hsm.le hd (Ka _)) ⟨?_,Ka _⟩;exact mI aAM
def sW(h:Hp)(n0:Nat)(o:Own)(es:List V):Prop:=Acc h n0 o es∨(es=[]∧bm h n0 o)
theorem sW.tip{h:Hp}{n0:Nat}{o:Own}{es:List V}(a:sW h n0 o es){id:Nat}(e:o= .tok id):h id=some .tip:=by
 rcases a with(⟨_,h1⟩|⟨_,id2,_,h2,h3⟩)|⟨_,id2,_,h2,h3⟩
 ·rw[h1] at e;cases e
 ·rw[h2] at e;injection e with e;rw[←e];exact h3
 rw[h2] at e;injection e with e;rw[←e];exact h3
theorem sW.set{h:Hp}{n0 n:Nat}{o:Own}{es:List V}(a:sW h n0 o es)(hn:h n≠some .tip)(b:Blk):sW (h.set n b) n0 o es:=a.imp (fun a=>a.set hn b) fun a=>⟨a.1,a.2.set hn b⟩
theorem oV:∀(n:Nat) (e:Ex),SizeOf.sizeOf e≤n→(∃m,rN m e=true)→∀(o:Own) (pre:List Tr) (h:Hp) (nx n0:Nat),sW h n0 o (pre.map Tr.v)→n0≤nx→pre.length+e.ts.length≤100000000→
 aY Tryz.prog 146 [e.v,trs o pre] h nx fun v h' nx'=>∃o',v=trs o' (pre++e.ts)∧sW h' n0 o' ((pre++e.ts).map Tr.v)∧(∀m,m<nx→o≠ .tok m→h' m=h m)∧∀m,m<nx→o'= .tok m→o= .tok m:=by
 intro n;induction n with
 |zero=>intro e he;cases e;simp at he
 |succ n ih=>
  rintro⟨op,t,ow,ks⟩ hsz ⟨m,bAx⟩ o pre h nx n0 aAM hn0 hlen;refine aB L.aZ0 fun hd=>?_;have hdm:aS h nx:=hd;obtain⟨hk2,hkb⟩:=pf bAx;have hev:(Ex.mk op t ow ks).v= .agg [.int .i64 op, .str t.x, .int .i64 t.w.k, .int .i64 t.w.n, .str t.w.s, .sl (.agg 6) ow (ks.map Ex.v)]:=by rw[Ex.aAV];rfl
  have hts:(Ex.mk op t ow ks).ts=if ks=[] then [t] else ks.flatMap Ex.ts:=Ex.aBr _
  rw[hev];rw[hts] at hlen⊢;clear hev hts bAx;refine ZK ?_;have hpl:pre.length≤100000000:=or;have hml:(pre.map Tr.v).length=pre.length:=jK ..;cases ks with
  |nil=>
   have hz:(((0:Nat):Int)==0)=true:=rfl;have hdo:∀H:Hp,H.aA7 o nx=H nx:=fun H=>gS fun id e=>by
    have:=hdm _ _ (aAM.tip e);omega
   have aAk:∀m,m<nx→o≠ .tok m→∀b1 b2 b3,((((h.set nx b1).set (nx+1) b2).aA7 o).set (nx+2) b3) m=h m:=by
    intro m hm ho b1 b2 b3;have hdm:∀H:Hp,H.aA7 o m=H m:=fun H=>gS fun id e=>by rw[e] at ho;intro e2;exact ho (by rw[e2])
    simp only[Kb,hdm,if_neg (by omega:¬m=nx+2),if_neg (by omega:¬m=nx+1),if_neg (by omega:¬m=nx)]
   rcases aAM with aAM|⟨bBo,id,hid,rfl,hti⟩;rotate_left
   ·have hpn:pre=[]:=by simpa using bBo
    subst hpn;have aHV:=hdm _ _ hti;have hne:(id=nx)=False:=fls;have bBr:(id=nx+1)=False:=fls;have aR7:(1*48≤140737488355328)=True:=eq_true ZM;refine aue (e7 hz hti hne bBr aR7 trs.eq_1 (@jK Tr V)) ?_;exact aC _ (Ka _) ⟨.tok (nx+2),rfl, .inl (Acc.new _ Zm or),fun m hm ho=>aAk m hm ho _ _ _,fun m hm e=>by injection e with e;omega⟩
   refine aue (e6 hz hpl hml hdo trs.eq_1 (@jK Tr V)) ?_;exact aC _ (Ka _) ⟨.tok (nx+2),by simp only[Kh,KJ,KP,go_sem,reduceIte,jA,jB,jC,jD,reduceCtorEq,jE,jF];rfl,by rw[Kh];exact .inl (Acc.new _ Zm or),fun m hm ho=>aAk m hm ho _ _ _,fun m hm e=>by injection e with e;omega⟩
  |cons a b=>
   rw[if_neg Zm] at hlen⊢;obtain⟨ks,hks⟩:∃ks,a::b=ks:=⟨_,rfl⟩;rw[hks] at hlen hk2 hkb hsz⊢;have hkl:ks.length≠0:=by rw[←hks];simp
   have hz:((ks.length:Int)==0)=false:=bqf;refine aue (e3 hz trs.eq_1 (@jK Ex V)) ?_
   refine aO (fun q:Nat×Own=>aD 30 0 [(1,trs q.2 (pre++(ks.take q.1).flatMap Ex.ts)),(2, .ptr nx (.agg 6) 0 0),(5, .int .i64 q.1)])
    (fun q hp nx1=>q.1≤ks.length∧nx+1≤nx1∧aS hp nx1∧((∀m,m<nx→o≠ .tok m→hp m=h m)∧∀m,m<nx→q.2= .tok m→o= .tok m)∧hp nx=some (.arr (.agg 6) [.agg [.int .i64 op, .str t.x, .int .i64 t.w.k, .int .i64 t.w.n, .str t.w.s, .sl (.agg 6) ow (ks.map Ex.v)]])∧sW hp n0 q.2 ((pre++(ks.take q.1).flatMap Ex.ts).map Tr.v))
    (fun q=>ks.length-q.1) (0,o) ⟨Kp _,Zw,by exact dmo hd,⟨fun m hm _=>by simp only[Kb];rw[if_neg or],fun m _ e=>e⟩,by simp only[go_sem,reduceIte,jA,jB,jC,jD,reduceCtorEq,jE,jF],by simp only[Ko,KA,Ku];exact aAM.set (by rw[aS.none hdm (Kg _)];simp) _⟩ (by simp only[WkL,aD,jH,jI,jJ,trs,Ko,KA,Ku,go_sem,reduceIte,jA,jB,jC,jD,reduceCtorEq,jE,jF]) ?_
   rintro⟨i,oo⟩ hp nx1 ⟨hi,hnx,hdm,⟨hsm,hto⟩,hb,aAM⟩;generalize hQ:aV _ _ _ _ _=Q0;dsimp only at hi aAM hto;refine Zk ?_;have n1:nx<nx1:=or;rcases Km i ks.length with hlt|hge
   ·have hc:decide ((i:Int)<(ks.length:Int))=true:=dct;have hg:=aJ Ex.v ks i hlt;have hw:IntKind.i64.wrap ((i:Int)+1)=((i+1:Nat):Int):=wrp;have htk:pre++(ks.take (i+1)).flatMap Ex.ts=(pre++(ks.take i).flatMap Ex.ts)++ks[i].ts:=by
     rw[Kc hlt,Kv,Kw];simp
    have hll:((pre++(ks.take i).flatMap Ex.ts)++ks[i].ts).length≤100000000:=by
     rw[←htk];have h1:((ks.take (i+1)).flatMap Ex.ts++(ks.drop (i+1)).flatMap Ex.ts).length=(ks.flatMap Ex.ts).length:=by rw[←Kv,List.take_append_drop]
     rw[Ke] at h1⊢;omega
    rw[Ke] at hll;have hkm:=Kq hlt;have bBw:SizeOf.sizeOf ks[i]≤n:=by
     have h1:=List.sizeOf_lt_of_mem hkm;simp only[Ex.mk.sizeOf_spec] at hsz;omega
    have hkb:=hkb _ hkm;have hKf:=Ex.aAA ks[i];have IH:=ih ks[i] bBw hkb oo (pre++(ks.take i).flatMap Ex.ts);generalize pre++(ks.take i).flatMap Ex.ts=W at*;generalize ks[i]=K at*;obtain⟨X,hX⟩:∃X,K.v=X:=⟨_,rfl⟩;rw[hX] at hg hKf IH;refine aue (e8 hc hg hlt hb n1 hKf (@jK Ex V) jG) ?_;refine bF ((IH hp nx1 n0 aAM or hll).dom.mono ?_);rintro v h2 nx2 aAb ⟨⟨o2,rfl,aBH,hs2,ht2⟩,hd2,_⟩;unfold cY;refine Zn ?_;refine aue (e2 hw trs.eq_1) ?_;rw[←hQ];have hb2:h2 nx=some (.arr (.agg 6) [.agg [.int .i64 op, .str t.x, .int .i64 t.w.k, .int .i64 t.w.n, .str t.w.s, .sl (.agg 6) ow (ks.map Ex.v)]]):=by
     rw[hs2 nx n1 (fun e=>by have h3:=aAM.tip e;rw[hb] at h3;cases h3)];exact hb
    exact aF (i+1,o2) Zw ⟨hlt,or,hd2,⟨fun m hm ho=>by rw[hs2 m or (fun e=>ho (hto m hm e)),hsm m hm ho],fun m hm e=>hto m hm (ht2 m or e)⟩,hb2,by dsimp only;rw[htk];exact aBH⟩ (by simp only[WkL,aD,jH,jI,jJ,trs,htk,go_sem,reduceIte,jA,jB,jC,jD,reduceCtorEq,jE,jF])
   have hc:decide ((i:Int)<(ks.length:Int))=false:=dcf;rw[Kf or] at aAM⊢;refine aue (e5 hc hb n1 (@jK Ex V) trs.eq_1) ?_;rw[←hQ];refine au ?_;exact aC _ (Ka _) ⟨oo,rfl,aAM,hsm,hto⟩
theorem yV(o o2:Own)(l vs:List ByteArray)(hl:l.length≤1000000000)(hv:vs.length≤1000000000)(h:Hp):aK Tryz.prog 92 [.sl .leaf o (l.map V.str), .sl .leaf o2 (vs.map V.str)] h (.bool (iR l vs)):=by
 refine aH (fun L=>trivial) fun h' nx hh=>aB L.bCz fun hd=>?_;have hd:aS h' nx:=hd;refine ZK ?_;refine au ?_
 refine aO (fun i:Nat=>aD 19 0 [(0, .sl .leaf o (l.map V.str)),(1, .sl .leaf o2 (vs.map V.str)),(5, .int .i64 i)])
  (fun i hp nx1=>i≤vs.length∧aS hp nx1∧hp=h'∧∀y∈vs.take i,y∈l)
  (fun i=>vs.length-i) 0 ⟨Kp _,by exact dmo hd,rfl,Zm⟩ (by simp only[WkL,aD,jH,jI,jJ,jK,go_sem,reduceIte,jA,jB,jC,jD,reduceCtorEq,jE,jF]) ?_
 rintro i hp nx1 ⟨hi,hdm,rfl,hno⟩;generalize hQ:aV _ _ _ _ _=Q0;refine Zk ?_;rcases Km i vs.length with hlt|hge
 ·have hc:decide ((i:Int)<(vs.length:Int))=true:=dct;have hg:=aJ V.str vs i hlt;have hw:IntKind.i64.wrap ((i:Int)+1)=((i+1:Nat):Int):=wrp;have htk:=Kc hlt;have aAp:=Kq hlt;generalize vs[i]=y at hg htk aAp;have C1:=fun h=>kT o l hl y h;cases hb:bP y l with
  |false=>
   rw[hb] at C1;have ha:iR l vs=false:=by
    cases ha:iR l vs with
    |false=>rfl
    |true=>rw[dE.2 (kG.1 ha y aAp)] at hb;cases hb
   refine aue (e4 hc hg hlt (e2 (@jK ByteArray V) jG)) ?_;rw[←hQ];refine au ?_;refine aC hp (Ka _) ⟨?_,rfl⟩;rw[ha];rfl
  |true=>
   rw[hb] at C1;refine aue (e5 hc hg hlt hw (e2 (@jK ByteArray V) jG)) ?_;rw[←hQ];refine aF (i+1) or ⟨hlt,hdm,rfl,fun z hz=>?_⟩ (by simp only[WkL,aD,jH,jI,jJ,go_sem,reduceIte,jA,jB,jC,jD,reduceCtorEq,jE,jF]);rw[htk,Kj,Kk] at hz;rcases hz with hz|rfl
   ·exact hno z hz
   exact dE.1 hb
 have hc:decide ((i:Int)<(vs.length:Int))=false:=dcf;have ha:iR l vs=true:=kG.2 fun y hy=>hno y (by rw[Kf or];exact hy);refine aue hc ?_;rw[←hQ];refine au ?_;refine aC hp (Ka _) ⟨?_,rfl⟩;rw[ha];rfl
theorem ag(e:Ex)(h:Hp):aK Tryz.prog 144 [e.v] h (.str (cA e)):=by
 refine aH (fun L=>trivial) fun h' nx hh=>aB L.aZ2 fun hd=>?_;obtain⟨op,t,o,ks⟩:=e;rw[Ex.aAV];refine ZK ?_;unfold cA;by_cases h1:op=0
 ·have g1:(op==0)=true:=bqt;by_cases hk:ks=[]
  ·have g2:(((0:Nat):Int)==0)=true:=rfl;subst hk;refine aue (e7 Ex.cs.eq_1 Ex.op.eq_1 Ex.t.eq_1 Ex.o.eq_1 Ex.kids.eq_1 g1 g2) ?_;refine aC h' (leo hd) ⟨?_,rfl⟩;rw[if_neg (by simp[h1,Ex.op,Ex.kids])];rfl
  have g2:((ks.length:Int)==0)=false:=bqf (h:=by have:ks.length≠0:=fun e=>hk (KD.1 e);omega);refine aue (e8 Ex.cs.eq_1 Ex.op.eq_1 Ex.t.eq_1 Ex.o.eq_1 Ex.kids.eq_1 g1 g2 (@jK Ex V)) ?_;refine aC h' (leo hd) ⟨?_,rfl⟩;rw[if_pos (.inr (by simpa [Ex.kids] using hk))];rfl
 have g1:(op==0)=false:=bqf;refine aue (e6 Ex.cs.eq_1 Ex.op.eq_1 Ex.t.eq_1 Ex.o.eq_1 Ex.kids.eq_1 g1) ?_;refine aC h' (leo hd) ⟨?_,rfl⟩;rw[if_pos (.inl h1)];rfl
theorem uo(e:Ex)(he:rk e=true)(h:Hp):aK Tryz.prog 145 [e.v] h (lst .leaf ((nmL [] e.ts).map V.str)):=by
 refine aH (fun L=>bV (fun L=>aT (f:=V.str) (fun _=>trivial) _) L) fun h' nx hh=>aB L.aZ1 fun hd=>?_;have hd:aS h' nx:=hd;have hl:=gT he;have hf:=Ex.aAA e;have T:=fun h nx=>oV _ e (Kg _) ⟨20,he⟩ .nil [] h nx nx (.inl (.inl ⟨rfl,rfl⟩)) (Kg _) (by simp only[jM];omega);obtain⟨X,hX⟩:∃X,e.v=X:=⟨_,rfl⟩;rw[hX] at hf T⊢;refine ZK ?_;refine aue hf ?_;refine bF ((T _ _).dom.mono ?_);rintro v h2 nx2 aAb ⟨⟨o2,rfl,aBH,hs2,_⟩,hd2,_⟩;unfold cY;have C1:=fun h=>qR o2 ([]++e.ts) (by rw[jQ];omega) h;simp only[jQ] at C1;simp only[jQ,go_sem,reduceIte,jA,jB,jC,jD,reduceCtorEq,jE,jF];refine au ?_;refine aC h' (fun m b hm=>?_) ⟨rfl,rfl⟩;have hlt:=hd _ _ hm;have h3:=hs2 m (by show m<nx+1;omega) Zm;show h2 m=some b;rw[h3];show(if m=nx then _ else h' m)=some b;rw[if_neg or];exact hm
end Go.Proofs.YtgbiopfghdilnaaGreatDoor
namespace Go.Proofs.YtgbiopfghdilnaaGreatDoor
open Go.RowKit Go.Sort
attribute [local irreducible] IntKind.wrap
section
variable{P:Program}{r:List aA}{Qs:St→Prop}{s:St}{dst:Option Nat}
theorem yC{k:Sh}{bs id:Nat}{x y:aN}{es ys:List V}(hx:x.ev s.sl= .sl k (.tok id) es)(ha:s.h id=some .tip)(hy:dS s.h (y.ev s.sl)=some (k,ys))(hb:(es.length+ys.length)*bs≤140737488355328)
 (hq:bA P r Qs ⟨bO s.sl dst (.sl k (.tok s.nx) (es++ys)),(s.h.del id).set s.nx .tip,s.nx+1⟩):bA P (⟨dst,none, .append k bs x y⟩::r) Qs s:=by
 unfold bA;simp only[LOp.run,LOp.sem,hy,hx,true_and];exact⟨hb, .inl ⟨ha,hq⟩⟩
end
theorem sW.aHc{h:Hp}{n0 id:Nat}{es:List V}(hid:n0≤id)(ht:h id=some .tip):sW h n0 (.tok id) es:=by
 cases es with
 |nil=>exact .inr ⟨rfl,id,hid,rfl,ht⟩
 |cons a b=>exact .inl (.inr ⟨Zm,id,hid,rfl,ht⟩)
theorem sW.ge{h:Hp}{n0 id:Nat}{o:Own}{es:List V}(a:sW h n0 o es)(e:o= .tok id):n0≤id:=by
 rcases a with(⟨_,h1⟩|⟨_,id2,h0,h2,h3⟩)|⟨_,id2,h0,h2,h3⟩
 ·rw[h1] at e;cases e
 ·rw[h2] at e;injection e with e;omega
 rw[h2] at e;injection e with e;omega
theorem sW.ne{h:Hp}{n0:Nat}{o:Own}{es:List V}(a:sW h n0 o es)(e:es≠ []):o≠ .nil:=by
 rcases a with(⟨h0,_⟩|⟨_,id2,h0,h2,h3⟩)|⟨h0,_⟩
 ·exact absurd h0 e
 ·rw[h2];simp
 exact absurd h0 e
theorem Gp:∀(n:Nat) (e:Ex),rN n e=true→e.ts≠ []
 |0, .mk op t o ks,h=>by
  have h:ks=[]:=by simpa [rN] using h
  rw[Ex.aBr,h];simp[Ex.kids]
 |n+1, .mk op t o ks,h=>by
  match ks,h with
  | [],_=>rw[Ex.aBr];simp[Ex.kids]
  | [a,b],h=>
   simp only[rN,Ki] at h;rw[Ex.aBr,if_neg (by simp[Ex.kids])];intro e;simp only[Ex.kids,Kx,List.append_eq_nil_iff] at e;exact Gp n a h.1 e.1
  | [_],h=>simp[rN] at h
  |_::_::_::_,h=>simp[rN] at h
theorem wM(l:Li)(hr:bG l=true)(h:Hp):aK Tryz.prog 95 [l.v] h (.sl (.agg 4) .free (l.ts.map Tr.v)):=by
 obtain⟨hal,hbx,hby⟩:=iL hr;have hlx:=gT hbx;have hly:=gT hby
 refine dF (fun L=>⟨fun m e=>by(cases e),aT (Tr.aAK L) _⟩) fun h' nx hh=>aB L.bCq fun hd=>?_;have hd:aS h' nx:=hd;have TX:=oV _ l.x (Kg _) ⟨20,hbx⟩;have TY:=oV _ l.y (Kg _) ⟨20,hby⟩;have hXf:=Ex.aAA l.x;have hYf:=Ex.aAA l.y;have hf:=Li.aAA l;obtain⟨T,hT,htx,hty,hta⟩:∃T,l.v= .agg T∧(.agg ((T.drop 4).take 6))=l.x.v∧(.agg ((T.drop 10).take 6))=l.y.v∧(V.agg T).cell 2=trs l.a.o l.a.l:=⟨_,rfl,by rw[Ex.aAV];rfl,by rw[Ex.aAV];rfl,rfl⟩;have aBc:aX (.agg 6) 4 (.agg T)=l.x.v:=htx;have aBb:aX (.agg 6) 10 (.agg T)=l.y.v:=hty;rw[hT] at hf⊢;obtain⟨X,hX⟩:∃X,l.x.v=X:=⟨_,rfl⟩;obtain⟨Y,hY⟩:∃Y,l.y.v=Y:=⟨_,rfl⟩;rw[hX] at TX hXf aBc;rw[hY] at TY hYf aBb;simp only[KR,KE,Ks,Kt,KK,KM,KS,KF,V.undef];generalize hDC:aR.draw _ _ _=DC;refine aue hf ?_;rw[←hDC]
 obtain⟨I,hI⟩:∃I:(Nat→Bool)→St→Prop,∀D s',I D s'↔∃c2 c3 c4 c5 c6 c7 c8 c9 c10 c11 c12 c13,s'.sl=[.agg T, .ptr nx (.agg 17) 0 0,c2,c3,c4,c5,c6,c7,c8,c9,c10,c11,c12,c13]∧Kd nx h' s'.h∧aS s'.h s'.nx∧nx<s'.nx∧s'.h nx=some (.arr (.agg 17) [.agg T])∧
  (D 0=true→c3= .ptr nx (.agg 17) 0 10)∧(D 1=true→c4=Y)∧(D 2=true→c5= .ptr nx (.agg 17) 0 4)∧(D 3=true→c6=X)∧
  (D 4=true→∃id,c7= .sl (.agg 4) (.tok id) []∧nx<id∧(D 8=false→s'.h id=some .tip))∧
  (D 5=true→c8= .ptr nx (.agg 17) 0 1)∧(D 6=true→c9= .ptr nx (.agg 17) 0 2)∧(D 7=true→c10=trs l.a.o l.a.l)∧
  (D 8=true→∃id,c11=trs (.tok id) l.a.l∧nx<id∧(D 9=false→s'.h id=some .tip))∧
  (D 9=true→∃o,c12=trs o (l.a.l++l.x.ts)∧(D 10=false→sW s'.h (nx+1) o ((l.a.l++l.x.ts).map Tr.v)))∧
  (D 10=true→∃o,o≠ .nil∧c13=trs o ((l.a.l++l.x.ts)++l.y.ts))∧(D 11=true→∃o,o≠ .nil∧c2=trs o ((l.a.l++l.x.ts)++l.y.ts)):=⟨_,fun _ _=>Iff.rfl⟩
 refine oG ⟨I,?_,?_,?_⟩
 ·exact(hI _ _).2 ⟨_,_,_,_,_,_,_,_,_,_,_,_,rfl,kep Hp.same.aAn,dmo hd,Zw,by simp only[go_sem,reduceIte,Ks,Kt,KQ,KB,reduceCtorEq,KC,KG],fun h=>(by cases h),fun h=>(by cases h),fun h=>(by cases h),fun h=>(by cases h),fun h=>(by cases h),fun h=>(by cases h),fun h=>(by cases h),fun h=>(by cases h),fun h=>(by cases h),fun h=>(by cases h),fun h=>(by cases h),fun h=>(by cases h)⟩
 ·rintro D i o aAF ⟨sl,h1,nx1⟩ hi hDi aAZ hcl hID;obtain⟨c2,c3,c4,c5,c6,c7,c8,c9,c10,c11,c12,c13,q1,q2,q3,q4,q5,d0,d1,d2,d3,d4,d5,d6,d7,d8,d9,d10,d11⟩:=(hI _ _).1 hID;dsimp only at q1 q2 q3 q4 q5 d4 d8 d9;subst q1;have n8:D 8=true→D 4=true:=fun e=>hcl 8 _ _ rfl e 4 ZM;have n9:D 9=true→D 8=true:=fun e=>hcl 9 _ _ rfl e 8 ZM;have n10:D 10=true→D 9=true:=fun e=>hcl 10 _ _ rfl e 9 ZM;match i,hi with
  |0,hi=>
   cases hi;refine aue ((trs.eq_1)) ?_;exact(hI _ _).2 ⟨_,_,_,_,_,_,_,_,_,_,_,_,rfl,q2,q3,q4,q5,fun _=>rfl,d1,d2,d3,d4,d5,d6,d7,d8,d9,d10,d11⟩
  |1,hi=>
   cases hi;obtain rfl:=d0 (aAZ 0 ZM);refine aue (e5 q5 hf q4 aBb trs.eq_1) ?_;exact(hI _ _).2 ⟨_,_,_,_,_,_,_,_,_,_,_,_,rfl,q2,q3,q4,q5,d0,fun _=>rfl,d2,d3,d4,d5,d6,d7,d8,d9,d10,d11⟩
  |2,hi=>
   cases hi;refine aue ((trs.eq_1)) ?_;exact(hI _ _).2 ⟨_,_,_,_,_,_,_,_,_,_,_,_,rfl,q2,q3,q4,q5,d0,d1,fun _=>rfl,d3,d4,d5,d6,d7,d8,d9,d10,d11⟩
  |3,hi=>
   cases hi;obtain rfl:=d2 (aAZ 2 ZM);refine aue (e5 q5 hf q4 aBc trs.eq_1) ?_;exact(hI _ _).2 ⟨_,_,_,_,_,_,_,_,_,_,_,_,rfl,q2,q3,q4,q5,d0,d1,d2,fun _=>rfl,d4,d5,d6,d7,d8,d9,d10,d11⟩
  |4,hi=>
   cases hi;have f8:D 8=true→False:=fun e=>by have:=n8 e;rw[hDi] at this;cases this
   refine au ?_;exact(hI _ _).2 ⟨_,_,_,_,_,_,_,_,_,_,_,_,rfl,vS q2 or _,dmo q3,Zw,by simp only[Kb];rw[if_neg or];exact q5,d0,d1,d2,d3,fun _=>⟨nx1,rfl,q4,fun _=>by simp[Kb]⟩,d5,d6,d7,fun e=>(f8 e).elim,fun e=>(f8 (n9 e)).elim,d10,d11⟩
  |5,hi=>
   cases hi;refine aue ((trs.eq_1)) ?_;exact(hI _ _).2 ⟨_,_,_,_,_,_,_,_,_,_,_,_,rfl,q2,q3,q4,q5,d0,d1,d2,d3,d4,fun _=>rfl,d6,d7,d8,d9,d10,d11⟩
  |6,hi=>
   cases hi;obtain rfl:=d5 (aAZ 5 ZM);refine aue ((trs.eq_1)) ?_;exact(hI _ _).2 ⟨_,_,_,_,_,_,_,_,_,_,_,_,rfl,q2,q3,q4,q5,d0,d1,d2,d3,d4,d5,fun _=>rfl,d7,d8,d9,d10,d11⟩
  |7,hi=>
   cases hi;obtain rfl:=d6 (aAZ 6 ZM);refine aue (e5 q5 hf q4 hta trs.eq_1) ?_;exact(hI _ _).2 ⟨_,_,_,_,_,_,_,_,_,_,_,_,rfl,q2,q3,q4,q5,d0,d1,d2,d3,d4,d5,d6,fun _=>rfl,d8,d9,d10,d11⟩
  |8,hi=>
   cases hi;obtain⟨id,rfl,hid,hti⟩:=d4 (aAZ 4 ZM);obtain rfl:=d7 (aAZ 7 ZM);have f9:D 9=true→False:=fun e=>by have:=n9 e;rw[hDi] at this;cases this
   refine yC (id:=id) rfl (hti hDi) rfl (by simp only[List.length_map,KE];omega) ?_;refine au ?_;exact(hI _ _).2 ⟨_,_,_,_,_,_,_,_,_,_,_,_,rfl,vS (vT q2 (KX hid)) (KX q4) _,dmo q3,Zw,by simp only[Kb,Hp.del];rw[if_neg or,if_neg or];exact q5,d0,d1,d2,d3,fun _=>⟨id,rfl,hid,fun e=>by cases e⟩,d5,d6,d7,fun _=>⟨nx1,rfl,q4,fun _=>by simp[Kb]⟩,fun e=>(f9 e).elim,d10,d11⟩
  |9,hi=>
   cases hi;obtain⟨id,rfl,hid,hti⟩:=d8 (aAZ 8 ZM);obtain rfl:=d3 (aAZ 3 ZM);have t8:=aAZ 8 ZM;refine bF ((TX (.tok id) l.a.l h1 nx1 (nx+1) (sW.aHc or (hti hDi)) or or).dom.mono ?_);rintro v h2 nx2 aAb ⟨⟨o2,rfl,aBH,hs2,_⟩,hd2,_⟩;unfold cY;simp only[go_sem,reduceIte,Ks,Kt,KQ,KB,reduceCtorEq,KC,KG];have hk:∀m,m≤nx→h2 m=h1 m:=fun m hm=>hs2 m or (by intro e;injection e with e;omega);refine au ?_;exact(hI _ _).2 ⟨_,_,_,_,_,_,_,_,_,_,_,_,rfl,fun m hm=>(hk m or).trans (q2 m hm),hd2,KN q4 aAb,(hk nx (Kg _)).trans q5,d0,d1,d2,d3,fun e=>(d4 e).imp fun id a=>⟨a.1,a.2.1,fun f=>by rw[show D 8=true from t8] at f;cases f⟩,d5,d6,d7,fun _=>⟨id,rfl,hid,fun e=>by cases e⟩,fun _=>⟨o2,rfl,fun _=>aBH⟩,d10,d11⟩
  |10,hi=>
   cases hi;obtain⟨o,rfl,ho⟩:=d9 (aAZ 9 ZM);obtain rfl:=d1 (aAZ 1 ZM);have t9:=aAZ 9 ZM;have t8:=n9 t9;refine bF ((TY o (l.a.l++l.x.ts) h1 nx1 (nx+1) (ho hDi) or (by rw[Ke];omega)).dom.mono ?_);rintro v h2 nx2 aAb ⟨⟨o2,rfl,aBH,hs2,_⟩,hd2,_⟩;unfold cY;simp only[go_sem,reduceIte,Ks,Kt,KQ,KB,reduceCtorEq,KC,KG];have hk:∀m,m≤nx→h2 m=h1 m:=fun m hm=>hs2 m or (by intro e;have:=(ho hDi).ge e;omega);have hne:o2≠ .nil:=aBH.ne (by simp[Gp 20 l.y hby]);refine au ?_;exact(hI _ _).2 ⟨_,_,_,_,_,_,_,_,_,_,_,_,rfl,fun m hm=>(hk m or).trans (q2 m hm),hd2,KN q4 aAb,(hk nx (Kg _)).trans q5,d0,d1,d2,d3,fun e=>(d4 e).imp fun id a=>⟨a.1,a.2.1,fun f=>by rw[show D 8=true from t8] at f;cases f⟩,d5,d6,d7,fun e=>(d8 e).imp fun id a=>⟨a.1,a.2.1,fun f=>by rw[show D 9=true from t9] at f;cases f⟩,fun _=>⟨o,rfl,fun e=>by cases e⟩,fun _=>⟨o2,hne,rfl⟩,d11⟩
  |11,hi=>
   cases hi;obtain⟨o,hne,rfl⟩:=d10 (aAZ 10 ZM);refine aue trs.eq_1 ?_;exact(hI _ _).2 ⟨_,_,_,_,_,_,_,_,_,_,_,_,rfl,q2,q3,q4,q5,d0,d1,d2,d3,d4,d5,d6,d7,d8,d9,fun _=>⟨o,hne,rfl⟩,fun _=>⟨o,hne,rfl⟩⟩
  |n+12,hi=>cases hi
 rintro D ⟨sl,h1,nx1⟩ hD hID;obtain⟨c2,c3,c4,c5,c6,c7,c8,c9,c10,c11,c12,c13,q1,q2,q3,q4,q5,d0,d1,d2,d3,d4,d5,d6,d7,d8,d9,d10,d11⟩:=(hI _ _).1 hID;dsimp only at q1 q2;subst q1;obtain⟨o,hne,rfl⟩:=d11 (hD 11 ZM);refine au ?_;refine aC h' (q2.le hd (Ka _)) ⟨?_,Ka _⟩;show(trs o ((l.a.l++l.x.ts)++l.y.ts)).loose=_;unfold Li.ts;rw[Kw];cases o<;>first|exact absurd rfl hne|rfl
theorem rF(l:Li)(hr:bG l=true)(h:Hp):aK Tryz.prog 48 [l.v] h (lst .leaf (l.vars.map V.str)):=by
 refine aH (fun L=>bV (fun L=>aT (f:=V.str) (fun _=>trivial) _) L) fun h' nx hh=>aB L.bD6 fun hd=>?_;have hts:=fY hr;have C1:=fun h=>wM l hr h;have C2:=fun h=>qR .free l.ts or h;have hf:=Li.aAA l;obtain⟨X,hX⟩:∃X,l.v=X:=⟨_,rfl⟩;rw[hX] at C1 hf⊢;simp only[KR,KE,Ks,Kt,KK,KM,KS,KF,V.undef];refine aue (e2 hf trs.eq_1) ?_;exact aC h' (leo hd) ⟨rfl,rfl⟩
end Go.Proofs.YtgbiopfghdilnaaGreatDoor
namespace Go.Proofs.YtgbiopfghdilnaaGreatDoor
open Go.RowKit Go.Sort
attribute [local irreducible] IntKind.wrap
theorem du(o:Own)(s:List ByteArray)(hl:s.length≤1000000000)(l:Li)(hr:bG l=true)(h:Hp):aK Tryz.prog 93 [.sl .leaf o (s.map V.str),l.v] h (.bool (cU s l)):=by
 refine aH (fun L=>trivial) fun h' nx hh=>aB L.bCy fun hd=>?_;obtain⟨hal,hbx,hby⟩:=iL hr;have hlx:=gT hbx;have hly:=gT hby
 have hf:=Li.aAA l;obtain⟨T,hT,htx,hty,htk,hto⟩:∃T,l.v= .agg T∧(.agg ((T.drop 4).take 6))=l.x.v∧(.agg ((T.drop 10).take 6))=l.y.v∧(V.agg T).cell 0= .int .i64 l.k∧(V.agg T).cell 3= .int .i64 l.op:=⟨_,rfl,by rw[Ex.aAV];rfl,by rw[Ex.aAV];rfl,rfl,rfl⟩;have aBc:aX (.agg 6) 4 (.agg T)=l.x.v:=htx;have aBb:aX (.agg 6) 10 (.agg T)=l.y.v:=hty;have hXf:=Ex.aAA l.x;have hYf:=Ex.aAA l.y;have D1:=fun h=>ag l.x h;have D2:=fun h=>ag l.y h;obtain⟨ox,hox⟩:=bQ .leaf ((nmL [] l.x.ts).map V.str);obtain⟨oy,hoy⟩:=bQ .leaf ((nmL [] l.y.ts).map V.str);have C1:=fun h=>kT o s hl (cA l.x) h;have E1:=fun h=>kT o s hl (cA l.y) h;have C2:=fun h=>uo l.y hby h;have E2:=fun h=>uo l.x hbx h;have lx:=jU l.x.ts [];have ly:=jU l.y.ts [];simp only[jM] at lx ly;have C3:=fun h=>yV o oy s (nmL [] l.y.ts) hl or h;have E3:=fun h=>yV o ox s (nmL [] l.x.ts) hl or h;rw[hoy] at C2;rw[hox] at E2;obtain⟨X,hX⟩:∃X,l.x.v=X:=⟨_,rfl⟩;obtain⟨Y,hY⟩:∃Y,l.y.v=Y:=⟨_,rfl⟩;rw[hX] at D1 E2 hXf aBc;rw[hY] at D2 C2 hYf aBb;rw[hT] at hf⊢;unfold cU;refine ZK ?_;by_cases hk:l.k=3
 ·have g1:(l.k != 3)=false:=bnf;by_cases hop:l.op=1
  ·have g2:(l.op != 1)=false:=bnf;generalize cA l.x=A at*;generalize cA l.y=B at*;generalize nmL [] l.x.ts=XS at*;generalize nmL [] l.y.ts=YS at*;have bBx:decide (l.k=3∧l.op=1)=true:=decide_eq_true ⟨hk,hop⟩;rw[bBx,KW];by_cases z1:A.size=0
   ·have z1d:decide ((0:Int)<(A.size:Int))=false:=dcf;refine aue (e10 hf htk hto g1 g2 aBc aBb hXf hYf z1d) ?_;clear C1 C2 C3;have C1:=E1;have C2:=E2;have C3:=E3;clear E1 E2 E3;by_cases z2:B.size=0
    ·have z2d:decide ((0:Int)<(B.size:Int))=false:=dcf;simp only[z2d,go_sem,reduceIte,jA,jB,jC,jD,reduceCtorEq,jE,jF];refine aue (e6 hf aBc aBb hXf hYf z2d) ?_;refine aC h' (leo hd) ⟨?_,rfl⟩;simp_all
    have z2d:decide ((0:Int)<(B.size:Int))=true:=dct;cases b2:bP B s with
    |true=>
     rw[b2] at C1;simp only[z2d,go_sem,reduceIte,jA,jB,jC,jD,reduceCtorEq,jE,jF];refine aue (e6 hf aBc aBb hXf hYf z2d) ?_;refine aC h' (leo hd) ⟨?_,rfl⟩;simp_all
    |false=>
     rw[b2] at C1;cases a2:iR s XS with
     |false=>
      rw[a2] at C3;simp only[z2d,go_sem,reduceIte,jA,jB,jC,jD,reduceCtorEq,jE,jF];refine aue (e6 hf aBc aBb hXf hYf z2d) ?_;refine aC h' (leo hd) ⟨?_,rfl⟩;simp_all
     |true=>
      rw[a2] at C3;simp only[z2d,go_sem,reduceIte,jA,jB,jC,jD,reduceCtorEq,jE,jF];refine aue (e6 hf aBc aBb hXf hYf z2d) ?_;refine aC h' (leo hd) ⟨?_,rfl⟩;simp_all
   have z1d:decide ((0:Int)<(A.size:Int))=true:=dct;cases b1:bP A s with
   |true=>
    rw[b1] at C1;refine aue (e10 hf htk hto g1 g2 aBc aBb hXf hYf z1d) ?_;clear C1 C2 C3;have C1:=E1;have C2:=E2;have C3:=E3;clear E1 E2 E3;by_cases z2:B.size=0
    ·have z2d:decide ((0:Int)<(B.size:Int))=false:=dcf;simp only[z2d,go_sem,reduceIte,jA,jB,jC,jD,reduceCtorEq,jE,jF];refine aue (e6 hf aBc aBb hXf hYf z2d) ?_;refine aC h' (leo hd) ⟨?_,rfl⟩;simp_all
    have z2d:decide ((0:Int)<(B.size:Int))=true:=dct;cases b2:bP B s with
    |true=>
     rw[b2] at C1;simp only[z2d,go_sem,reduceIte,jA,jB,jC,jD,reduceCtorEq,jE,jF];refine aue (e6 hf aBc aBb hXf hYf z2d) ?_;refine aC h' (leo hd) ⟨?_,rfl⟩;simp_all
    |false=>
     rw[b2] at C1;cases a2:iR s XS with
     |false=>
      rw[a2] at C3;simp only[z2d,go_sem,reduceIte,jA,jB,jC,jD,reduceCtorEq,jE,jF];refine aue (e6 hf aBc aBb hXf hYf z2d) ?_;refine aC h' (leo hd) ⟨?_,rfl⟩;simp_all
     |true=>
      rw[a2] at C3;simp only[z2d,go_sem,reduceIte,jA,jB,jC,jD,reduceCtorEq,jE,jF];refine aue (e6 hf aBc aBb hXf hYf z2d) ?_;refine aC h' (leo hd) ⟨?_,rfl⟩;simp_all
   |false=>
    rw[b1] at C1;cases a1:iR s YS with
    |false=>
     rw[a1] at C3;refine aue (e10 hf htk hto g1 g2 aBc aBb hXf hYf z1d) ?_;clear C1 C2 C3;have C1:=E1;have C2:=E2;have C3:=E3;clear E1 E2 E3;by_cases z2:B.size=0
     ·have z2d:decide ((0:Int)<(B.size:Int))=false:=dcf;simp only[z2d,go_sem,reduceIte,jA,jB,jC,jD,reduceCtorEq,jE,jF];refine aue (e6 hf aBc aBb hXf hYf z2d) ?_;refine aC h' (leo hd) ⟨?_,rfl⟩;simp_all
     have z2d:decide ((0:Int)<(B.size:Int))=true:=dct;cases b2:bP B s with
     |true=>
      rw[b2] at C1;simp only[z2d,go_sem,reduceIte,jA,jB,jC,jD,reduceCtorEq,jE,jF];refine aue (e6 hf aBc aBb hXf hYf z2d) ?_;refine aC h' (leo hd) ⟨?_,rfl⟩;simp_all
     |false=>
      rw[b2] at C1;cases a2:iR s XS with
      |false=>
       rw[a2] at C3;simp only[z2d,go_sem,reduceIte,jA,jB,jC,jD,reduceCtorEq,jE,jF];refine aue (e6 hf aBc aBb hXf hYf z2d) ?_;refine aC h' (leo hd) ⟨?_,rfl⟩;simp_all
      |true=>
       rw[a2] at C3;simp only[z2d,go_sem,reduceIte,jA,jB,jC,jD,reduceCtorEq,jE,jF];refine aue (e6 hf aBc aBb hXf hYf z2d) ?_;refine aC h' (leo hd) ⟨?_,rfl⟩;simp_all
    |true=>
     rw[a1] at C3;refine aue (e10 hf htk hto g1 g2 aBc aBb hXf hYf z1d) ?_;refine aC h' (leo hd) ⟨?_,rfl⟩;simp_all
  have g2:(l.op != 1)=true:=bnt;refine aue (e5 hf htk hto g1 g2) ?_;refine aC h' (leo hd) ⟨?_,rfl⟩;rw[decide_eq_false (fun e=>hop e.2)];rfl
 have g1:(l.k != 3)=true:=bnt;refine aue (e3 hf htk g1) ?_;refine aC h' (leo hd) ⟨?_,rfl⟩;rw[decide_eq_false (fun e=>hk e.1)];rfl
theorem ur:∀(b:List Li) (o:List ByteArray),nmL o (b.flatMap Li.ts)=b.foldl (fun o l=>nmL o l.ts) o
 | [],o=>rfl
 |l::b,o=>by rw[Kx,br,ur b];rfl
theorem ij:∀(b:List Li),(∀l∈b,bG l=true)→(b.flatMap Li.ts).length≤b.length*2097158
 | [],_=>Zm
 |l::b,h=>by
  have h1:=ij b fun x hx=>h x (KI _ hx);have h2:=fY (h l KO);rw[Kx,Ke,jL];omega
theorem yp(r:Ru)(hr:bT r=true)(h:Hp):aK Tryz.prog 181 [r.v] h (lst .leaf (r.vars.map V.str)):=by
 refine aH (fun L=>bV (fun L=>aT (f:=V.str) (fun _=>trivial) _) L) fun h' nx hh=>aB L.aZN fun hd=>?_;have hd:aS h' nx:=hd;obtain⟨b1,b2,b3⟩:=cM hr;refine ZK ?_;have aR7:(r.h.l.length*48≤140737488355328)=True:=eq_true or;refine aue (e4 Ru.v.eq_1 trs.eq_1 (@jK Tr V) aR7) ?_
 refine aO (fun q:Nat×Nat=>aD 27 0 [(1, .ptr nx (.agg 6) 0 0),(3, .sl (.agg 4) (.tok q.2) ((r.h.l++(r.b.take q.1).flatMap Li.ts).map Tr.v)),(4, .int .i64 q.1)])
  (fun q hp nx1=>q.1≤r.b.length∧nx+1≤nx1∧aS hp nx1∧Kd nx h' hp∧hp nx=some (.arr (.agg 6) [.agg [.str r.h.r, .sl (.agg 4) r.h.o (r.h.l.map Tr.v), .int .i64 r.g, .int .i64 r.c, .sl (.agg 17) r.o (r.b.map Li.v), .int .i64 r.at_]])∧nx<q.2∧hp q.2=some .tip)
  (fun q=>r.b.length-q.1) (0,nx+2) ⟨Kp _,Zw,by exact dmo hd,by exact kep Hp.same.aAn,by simp only[go_sem,reduceIte,jA,jB,jC,jD,reduceCtorEq,jE,jF],Zw,by simp only[go_sem,reduceIte,jA,jB,jC,jD,reduceCtorEq,jE,jF]⟩ (by simp only[WkL,aD,jH,jI,jJ,jK,Ko,KA,Ku,go_sem,reduceIte,jA,jB,jC,jD,reduceCtorEq,jE,jF]) ?_
 rintro⟨i,id⟩ hp nx1 ⟨hi,hnx,hdm,hsm,hb,hid,hti⟩;generalize hQ:aV _ _ _ _ _=Q0;dsimp only at hi hid hti;refine Zk ?_;have n1:nx<nx1:=or;have hle:=hsm.le hd (Ka _);have hfl:=ij r.b b3;have bA3:∀j,(r.h.l++(r.b.take j).flatMap Li.ts).length≤16777270:=fun j=>by
  have h1:=ij (r.b.take j) fun l hl=>b3 l (List.mem_of_mem_take hl);have h2:(r.b.take j).length≤r.b.length:=by rw[Kz];omega
  rw[Ke];omega
 rcases Km i r.b.length with hlt|hge
 ·have hc:decide ((i:Int)<(r.b.length:Int))=true:=dct;have hg:=aJ Li.v r.b i hlt;have hw:IntKind.i64.wrap ((i:Int)+1)=((i+1:Nat):Int):=wrp;have htk:r.h.l++(r.b.take (i+1)).flatMap Li.ts=(r.h.l++(r.b.take i).flatMap Li.ts)++r.b[i].ts:=by
   rw[Kc hlt,Kv,Kw];simp
  have hrl:=b3 r.b[i] (Kq _);have hLi:=bA3 i;generalize r.h.l++(r.b.take i).flatMap Li.ts=W at*;generalize r.b[i]=K at*;have hKt:=fY hrl;have C1:=fun h=>wM K hrl h;have hKf:=Li.aAA K;obtain⟨X,hX⟩:∃X,K.v=X:=⟨_,rfl⟩;rw[hX] at hg hKf C1;have hcap:((W.length+K.ts.length)*48≤140737488355328)=True:=eq_true or;have aHV:=hdm _ _ hti;have e1:(nx=id)=False:=fls;refine aue (e10 hc hg hlt hb n1 hKf (@jK Tr V) (@jK Li V) jG (e4 hcap hti e1 hw)) ?_;rw[←hQ];exact aF (i+1,nx1) Zw ⟨hlt,or,dmo hdm,fun m hm=>by rw[←hsm m hm];simp only[Kb,Hp.del];rw[if_neg or,if_neg or],by simp only[hb,e1,n1,go_sem,reduceIte,jA,jB,jC,jD,reduceCtorEq,jE,jF],Zw,by simp only[go_sem,reduceIte,jA,jB,jC,jD,reduceCtorEq,jE,jF]⟩ (by simp only[WkL,aD,jH,jI,jJ,htk,Kh,go_sem,reduceIte,jA,jB,jC,jD,reduceCtorEq,jE,jF])
 have hc:decide ((i:Int)<(r.b.length:Int))=false:=dcf;have hLi:=bA3 r.b.length;rw[Kf or] at*;have C1:=fun h=>qR (.tok id) (r.h.l++r.b.flatMap Li.ts) or h;have hv:nmL [] (r.h.l++r.b.flatMap Li.ts)=r.vars:=by rw[br,ur];rfl
 rw[hv] at C1;refine aue (e4 hc hb n1 (@jK Li V)) ?_;rw[←hQ];refine au ?_;exact aC h' hle ⟨rfl,rfl⟩
theorem td(r:Ru)(hr:bT r=true)(o:Own)(s:List ByteArray)(hl:s.length≤1000000000)(b:Bool)(h:Hp):aK Tryz.prog 142 [r.v, .sl .leaf o (s.map V.str), .bool b] h (lst .leaf ((cL r s b).map V.str)):=by
 refine dF (fun L=>bV (fun L=>aT (f:=V.str) (fun _=>trivial) _) L) fun h' nx hh=>aB L.aZ4 fun hd=>?_;have hd:aS h' nx:=hd;have hvl:r.vars.length≤16777270:=by
  have:=db hr r.b.length;rw[List.take_length] at this;exact this
 obtain⟨ov,hov⟩:=bQ .leaf (r.vars.map V.str);have C1:=fun h=>yp r hr h;rw[hov] at C1;have hf:r.v.fits (.agg 6)=true:=rfl;obtain⟨X,hX⟩:∃X,r.v=X:=⟨_,rfl⟩;rw[hX] at C1 hf⊢;refine ZK ?_;refine aue hf ?_;clear C1;unfold cL;generalize r.vars=vs at*
 refine aO (fun q:Nat×Own=>aD 34 0 [(1, .sl .leaf o (s.map V.str)),(2, .bool b),(7, .sl .leaf q.2 (((vs.take q.1).filter fun v=>bP v s==b).map V.str)),(8, .sl .leaf ov (vs.map V.str)),(9, .int .i64 q.1)])
  (fun q hp nx1=>q.1≤vs.length∧nx≤nx1∧aS hp nx1∧Kd nx h' hp∧Acc hp nx q.2 (((vs.take q.1).filter fun v=>bP v s==b).map V.str))
  (fun q=>vs.length-q.1) (0, .nil) ⟨Kp _,Zw,by exact dmo hd,by exact kep Hp.same.aAn, .inl ⟨rfl,rfl⟩⟩ (by simp only[WkL,aD,jH,jI,jJ,jK,Ko,List.filter_nil,go_sem,reduceIte,jA,jB,jC,jD,reduceCtorEq,jE,jF]) ?_
 rintro⟨i,oo⟩ hp nx1 ⟨hi,hnx,hdm,hsm,aAM⟩;generalize hQ:aV _ _ _ _ _=Q0;dsimp only at hi aAM;refine Zk ?_;rcases Km i vs.length with hlt|hge
 ·have hc:decide ((i:Int)<(vs.length:Int))=true:=dct;have hg:=aJ V.str vs i hlt;have hw:IntKind.i64.wrap ((i:Int)+1)=((i+1:Nat):Int):=wrp;have hN:(vs.take (i+1)).filter (fun v=>bP v s==b)=(vs.take i).filter (fun v=>bP v s==b)++(if (bP vs[i] s==b)=true then [vs[i]] else []):=by
   rw[Kc hlt,List.filter_append];congr 1;cases hq:bP vs[i] s==b<;>simp[hq]
  have hWl:((vs.take i).filter fun v=>bP v s==b).length≤16777270:=by
   have:=List.length_filter_le (fun v=>bP v s==b) (vs.take i);rw[Kz] at this;omega
  generalize ((vs.take i).filter fun v=>bP v s==b)=W at*;generalize vs[i]=x at*;have C1:=fun h=>kT o s hl x h;have hml:(W.map V.str).length=W.length:=jK ..;cases he:bP x s==b with
  |false=>
   rw[he,if_neg Zm,Ku] at hN;refine aue (e6 hc hg hlt hw he (@jK ByteArray V)) ?_;rw[←hQ];exact aF (i+1,oo) Zw ⟨hlt,or,dmo hdm,kep hsm,by dsimp only;rw[hN];exact aAM⟩ (by simp only[WkL,aD,jH,jI,jJ,hN,go_sem,reduceIte,jA,jB,jC,jD,reduceCtorEq,jE,jF])
  |true=>
   rw[he,if_pos rfl] at hN;refine aue (e8 hc hg hlt hw he hml hWl (@jK ByteArray V)) ?_;rw[←hQ];refine aF (i+1, .tok (nx1+1)) Zw ⟨hlt,or,dmo hdm,rC hsm aAM,?_⟩ (by simp only[WkL,aD,jH,jI,jJ,hN,Kh,KJ,KP,go_sem,reduceIte,jA,jB,jC,jD,reduceCtorEq,jE,jF]);dsimp only;rw[hN,Kh];exact Acc.new _ Zm or
 have hc:decide ((i:Int)<(vs.length:Int))=false:=dcf;rw[Kf or] at aAM⊢;refine aue (e2 hc (@jK ByteArray V)) ?_;rw[←hQ];refine au ?_;refine aC h' (hsm.le hd (Ka _)) ⟨?_,Ka _⟩;exact mI aAM
end Go.Proofs.YtgbiopfghdilnaaGreatDoor
namespace Go.Proofs.YtgbiopfghdilnaaGreatDoor
open Go.RowKit Go.Sort
def ah(s:List ByteArray)(l:Li):Bool:=decide (l.k=3∧l.op=1)&&
 ((decide ((cA l.x).size≠0)&&iR s (nmL [] l.y.ts))||(decide ((cA l.y).size≠0)&&iR s (nmL [] l.x.ts)))
theorem Gk{s:List ByteArray}{l:Li}(h:cU s l=true):ah s l=true:=by
 unfold cU at h;unfold ah;simp only[Ki,KH,decide_eq_true_eq] at h⊢;exact⟨h.1,h.2.imp (fun e=>⟨e.1.1,e.2⟩) fun e=>⟨e.1.1,e.2⟩⟩
theorem Dz{s t:List ByteArray}{l:Li}(hst:∀x∈s,x∈t)(h:ah s l=true):ah t l=true:=by
 unfold ah at h⊢;simp only[Ki,KH,decide_eq_true_eq] at h⊢;exact⟨h.1,h.2.imp (fun e=>⟨e.1,sQ hst e.2⟩) fun e=>⟨e.1,sQ hst e.2⟩⟩
theorem GZ{l:Li}(h:bG l=true)(hk:l.k=3):l.a.l=[]:=by
 unfold bG at h;rw[if_neg or] at h;simp only[Ki,decide_eq_true_eq] at h;exact h.1.1.2.2.1
theorem BN{s:List ByteArray}{l:Li}(hr:bG l=true)(h:ah s l=true)(hn:cU s l=false):∀v∈l.vars,v∈s:=by
 intro v hv;unfold ah at h;unfold cU at hn;simp only[Ki,KH,decide_eq_true_eq] at h;rw[decide_eq_true h.1,KW,Bool.or_eq_false_iff] at hn;obtain⟨t,ht,hx,hz⟩:=uv.1 hv;unfold Li.ts at ht;rw[GZ hr h.1.1,KF,Kj] at ht;rcases h.2 with⟨h1,h2⟩|⟨h1,h2⟩
 ·have hh:bP (cA l.x) s=true:=by
   have:=hn.1;rw[decide_eq_true h1,h2] at this;simpa using this
  rcases ht with ht|ht
  ·obtain⟨g1,g2⟩:=jn h1;rw[g1,Kk] at ht;rw[←hx,ht,←g2];exact dE.1 hh
  exact kG.1 h2 v (bv.2 (.inr ⟨t,ht,hx,hz⟩))
 have hh:bP (cA l.y) s=true:=by
  have:=hn.2;rw[decide_eq_true h1,h2] at this;simpa using this
 rcases ht with ht|ht
 ·exact kG.1 h2 v (bv.2 (.inr ⟨t,ht,hx,hz⟩))
 obtain⟨g1,g2⟩:=jn h1;rw[g1,Kk] at ht;rw[←hx,ht,←g2];exact dE.1 hh
inductive Grow(b:List Li)(s:List ByteArray):List ByteArray→Prop
 |refl:Grow b s s
 |step {t:List ByteArray} {l:Li} (g:Grow b s t) (hl:l∈b) (h:cU t l=true):Grow b s (t++l.vars)
theorem Grow.trans{b:List Li}{s t u:List ByteArray}(g:Grow b s t)(k:Grow b t u):Grow b s u:=by
 induction k with
 |refl=>exact g
 |step _ hl h ih=>exact ih.step hl h
theorem Grow.least{b:List Li}{s t u:List ByteArray}(g:Grow b s t)(hs:∀x∈s,x∈u)(hc:∀l∈b,ah u l=true→∀v∈l.vars,v∈u):∀x∈t,x∈u:=by
 induction g with
 |refl=>exact hs
 |step g hl h ih=>
  intro x hx;rcases Kj.1 hx with hx|hx
  ·exact ih x hx
  exact hc _ hl (Dz ih (Gk h)) x hx
theorem Grow.sub{b:List Li}{s t:List ByteArray}(g:Grow b s t):∀x∈s,x∈t:=by
 induction g with
 |refl=>exact fun x h=>h
 |step g hl h ih=>exact fun x hx=>Kj.2 (.inl (ih x hx))
theorem Grow.same{b:List Li}{s t u:List ByteArray}(hb:∀l∈b,bG l=true)(g:Grow b s t)(k:Grow b s u)(ht:∀l∈b,cU t l=false)(hu:∀l∈b,cU u l=false)(x:ByteArray):x∈t↔x∈u:=
 ⟨g.least k.sub (fun l hl h=>BN (hb l hl) h (hu l hl)) x,k.least g.sub (fun l hl h=>BN (hb l hl) h (ht l hl)) x⟩
theorem zZ(b:List Li):∀(n:Nat) (s:List ByteArray),Grow b s (eJ b n s)
 |0,s=> .refl
 |n+1,s=>by
  unfold eJ;cases hf:b.find? (cU s) with
  |none=>exact .refl
  |some l=>exact(Grow.refl.step (Ky hf) (KV hf)).trans (zZ b n _)
theorem jf(b:List Li):∀(n:Nat) (s:List ByteArray),aAh b s≤n→∀l∈b,cU (eJ b n s) l=false
 |n,s,h,l,hl=>by
  cases hf:b.find? (cU s) with
  |none=>
   rw[ab hf];simpa using List.find?_eq_none.1 hf l hl
  |some a=>
   have hlt:=nF (Ky hf) (KV hf);cases n with
   |zero=>omega
   |succ n=>
    unfold eJ;rw[hf];exact jf b n _ or l hl
def eD(b:List Li)(s:List ByteArray):List ByteArray:=b.foldl (fun s l=>if cU s l=true then s++l.vars else s) s
def gF(b:List Li):Nat→List ByteArray→List ByteArray
 |0,s=>s
 |n+1,s=>if (eD b s).length=s.length then eD b s else gF b n (eD b s)
def nU(r:Ru):List ByteArray:=gF r.b (aAh r.b (kI r.b)+1) (kI r.b)
theorem tW(a:Li)(b:List Li)(s:List ByteArray):eD (a::b) s=eD b (if cU s a=true then s++a.vars else s):=rfl
theorem z7(b:List Li)(s:List ByteArray)(i:Nat)(h:i<b.length):eD (b.take (i+1)) s=if cU (eD (b.take i) s) b[i]=true then eD (b.take i) s++b[i].vars else eD (b.take i) s:=by
 unfold eD;rw[Kc h,List.foldl_append];rfl
theorem kN(c:List Li):∀(b:List Li) (s:List ByteArray),(∀l∈b,l∈c)→Grow c s (eD b s)
 | [],s,_=> .refl
 |a::b,s,h=>by
  rw[tW];have hb:=fun l hl=>h l (KI _ hl);split
  ·rename_i hs;exact(Grow.refl.step (h a KO) hs).trans (kN c b _ hb)
  exact kN c b _ hb
theorem BZ{s:List ByteArray}{l:Li}(h:cU s l=true):l.vars.length≠0:=by
 intro e;have:=mc h;rw[KD.1 e] at this;cases this
theorem fa:∀(b:List Li) (s:List ByteArray),s.length≤(eD b s).length
 | [],s=>Kg _
 |a::b,s=>by
  rw[tW];split
  ·have:=fa b (s++a.vars);rw[Ke] at this;omega
  exact fa b s
theorem pA:∀(b:List Li) (s:List ByteArray),(eD b s).length=s.length→eD b s=s∧∀l∈b,cU s l=false
 | [],s,_=>⟨rfl,fun l hl=>by cases hl⟩
 |a::b,s,h=>by
  rw[tW] at h⊢;split at h
  ·rename_i hs;have h1:=fa b (s++a.vars);have h2:=BZ hs;rw[Ke] at h1;omega
  rename_i hs;obtain⟨h1,h2⟩:=pA b s h;rw[if_neg hs];refine⟨h1,fun l hl=>?_⟩;rcases List.mem_cons.1 hl with rfl|hl
  ·simpa using hs
  exact h2 l hl
theorem Grow.aAh{b:List Li}{s t:List ByteArray}(g:Grow b s t):t=s∨aAh b t<aAh b s:=by
 induction g with
 |refl=>exact .inl rfl
 |@step t l g hl h ih=>
  have:=nF hl h;rcases ih with rfl|e
  ·exact .inr this
  exact .inr or
theorem sC{b:List Li}{s:List ByteArray}(h:(eD b s).length≠s.length):aAh b (eD b s)<aAh b s:=by
 rcases(kN b b s fun _ h=>h).aAh with e|e
 ·rw[e] at h;exact absurd rfl h
 exact e
theorem Grow.len{b:List Li}(hb:∀l∈b,bG l=true){s t:List ByteArray}(g:Grow b s t):t.length+Go.Proofs.YtgbiopfghdilnaaGreatDoor.aAh b t*2097158≤s.length+Go.Proofs.YtgbiopfghdilnaaGreatDoor.aAh b s*2097158:=by
 induction g with
 |refl=>exact Kg _
 |@step t l g hl h ih=>
  have h1:=nF hl h;have h2:=iI (hb l hl);rw[Ke];have:=Nat.mul_le_mul_right 2097158 h1;omega
theorem pK(b:List Li):∀(n:Nat) (s:List ByteArray),Go.Proofs.YtgbiopfghdilnaaGreatDoor.aAh b s<n→Grow b s (gF b n s)∧∀l∈b,cU (gF b n s) l=false
 |0,s,h=>or
 |n+1,s,h=>by
  have hg:=kN b b s fun _ h=>h;unfold gF;split
  ·rename_i hs;obtain⟨h1,h2⟩:=pA b s hs;rw[h1];exact⟨.refl,h2⟩
  rename_i hs;have:=sC hs;obtain⟨h1,h2⟩:=pK b n (eD b s) or;exact⟨hg.trans h1,h2⟩
theorem AU{r:Ru}(hr:bT r=true)(x:ByteArray):x∈nU r↔x∈dY r:=by
 obtain⟨b1,b2,b3⟩:=cM hr;obtain⟨h1,h2⟩:=pK r.b _ _ (KU (Go.Proofs.YtgbiopfghdilnaaGreatDoor.aAh r.b (kI r.b)));exact Grow.same b3 h1 (zZ _ _ _) h2 (jf _ _ _ (Kg _)) x
theorem xB(b:List Li):∀(n k:Nat) (s:List ByteArray),Go.Proofs.YtgbiopfghdilnaaGreatDoor.aAh b s<n→Go.Proofs.YtgbiopfghdilnaaGreatDoor.aAh b s<k→gF b n s=gF b k s
 |0,_,_,h,_=>or
 |_+1,0,_,_,h=>or
 |n+1,k+1,s,h1,h2=>by
  unfold gF;split
  ·rfl
  rename_i hs;have:=sC hs;exact xB b n k _ or or
theorem ri{b:List Li}{s:List ByteArray}(h:(eD b s).length≠s.length):gF b (Go.Proofs.YtgbiopfghdilnaaGreatDoor.aAh b s+1) s=gF b (Go.Proofs.YtgbiopfghdilnaaGreatDoor.aAh b (eD b s)+1) (eD b s):=by
 have:=sC h;conv=>lhs;unfold gF
 rw[if_neg h];exact xB b _ _ _ this (KU _)
theorem rj{b:List Li}{s:List ByteArray}(n:Nat)(h:(eD b s).length=s.length):gF b (n+1) s=s:=by
 unfold gF;rw[if_pos h,(pA b s h).1]
theorem BY{r:Ru}(hr:bT r=true)(b:Bool):cL r (nU r) b=cL r (dY r) b:=by
 unfold cL;refine List.filter_congr fun v _=>?_;congr 1;rw[Bool.eq_iff_iff,dE,dE];exact AU hr v
end Go.Proofs.YtgbiopfghdilnaaGreatDoor
