/-
Texts of this proof,one behind the other. No conditions.
-/
import Derived.Test.YtgbiopfghdilnaaGreatDoorKd
import Derived.Test.YtgbiopfghdilnaaGreatDoorKo
open Go.Proofs.YtgbiopfghdilnaaGreatDoor.Hp renaming le_refl→Ka,set→Kb
open List renaming take_succ_eq_append_getElem→Kc,take_of_length_le→Kd,map_append→Kf,length_append→Kg,getElem_mem→Kj,take_zero→Ks,flatMap_append→Kt,mem_singleton→Ku,append_assoc→Kx,flatMap_nil→Ky,mem_append→Kz,append_nil→KA,length_nil→KB,map_cons→KC,map_nil→KD
open Nat renaming le_refl→Ke,reduceAdd→Kh,reduceSub→Ki,reduceLeDiff→Kk,reduceEqDiff→Km,lt_or_ge→Ko,zero_le→Kq,lt_of_lt_of_le→Kv,reduceLT→Kw,le_of_lt→KE
open Int renaming reduceToNat→Kp
open Nat renaming reduceAdd→jA,reduceSub→jB,reduceLT→jC,reduceLeDiff→jD,reduceEqDiff→jE
open Int renaming reduceToNat→jF,toNat_natCast→jG,natCast_add→jH,natCast_one→jI,natCast_zero→jJ
open List renaming length_map→jK,length_cons→jL,length_nil→jM,replicate_succ→jN,replicate_zero→jO,cons_append→jP,nil_append→jQ
set_option linter.unusedSimpArgs false
set_option linter.unusedVariables false
set_option linter.unusedSectionVars false
set_option maxHeartbeats 8000000
namespace Go.Proofs.YtgbiopfghdilnaaGreatDoor
open Go.RowKit Go.Sort
attribute [local irreducible] IntKind.wrap
set_option maxHeartbeats 4000000
theorem jV(o:Own)(l:List ByteArray)(hl:l.length≤1000000000)(x:ByteArray)(h:Hp):aI Tryz.prog 49 [.sl .leaf o (l.map V.str), .str x] h (.bool (bB x l)):=by
 refine aH (fun L=>trivial) fun h' nx hh=>aC L.aWS fun hd=>?_;have hd:aQ h' nx:=hd;simp only[jL,jM,jA,jB,jN,jO,jP,jQ,V.undef];refine au ?_
 refine aO (fun i:Nat=>aD 18 0 [(0, .sl .leaf o (l.map V.str)),(1, .str x),(5, .int .i64 i)])
  (fun i hp nx1=>i≤l.length∧aQ hp nx1∧hp=h'∧∀y∈l.take i,y≠x)
  (fun i=>l.length-i) 0 ⟨Kq _,by exact dmo hd,rfl,Zm⟩ (by simp only[WkL,aD,jH,jI,jJ,jK,go_sem,reduceIte,jA,jB,jC,jD,reduceCtorEq,jE,jF]) ?_
 rintro i hp nx1 ⟨hi,hdm,rfl,hno⟩;generalize hQ:aX _ _ _ _ _=Q0;simp only[aD,go_sem,reduceIte,jA,jB,jC,jD,reduceCtorEq,jE,jF];rcases Ko i l.length with hlt|hge
 ·have hc:decide ((i:Int)<(l.length:Int))=true:=dct;have hg:=aM V.str l i hlt;have hw:IntKind.i64.wrap ((i:Int)+1)=((i+1:Nat):Int):=wrp;have htk:=Kc hlt;have aAk:=Kj hlt;generalize l[i]=y at hg htk aAk;by_cases hy:y=x
  ·subst hy;have hb:bB y l=true:=dB.2 aAk;have he:(y.toList==y.toList)=true:=by rw[cV];exact decide_eq_true rfl
   refine aue (e6 hc hg hlt (@jK ByteArray V) jG he) ?_;rw[←hQ];refine au ?_;refine aB hp (Ka _) ⟨?_,rfl⟩;rw[hb];rfl
  have he:(y.toList==x.toList)=false:=by rw[cV];exact decide_eq_false hy
  refine aue (e7 hc hg hlt (@jK ByteArray V) jG he hw) ?_;rw[←hQ];refine aE (i+1) or ⟨hlt,hdm,rfl,fun z hz=>?_⟩ (by simp only[WkL,aD,jH,jI,jJ,go_sem,reduceIte,jA,jB,jC,jD,reduceCtorEq,jE,jF]);rw[htk,Kz,Ku] at hz;rcases hz with hz|rfl
  ·exact hno z hz
  exact hy
 have hc:decide ((i:Int)<(l.length:Int))=false:=dcf;have hb:bB x l=false:=iK.2 fun hx=>hno x (by rw[Kd or];exact hx) rfl;refine aue hc ?_;rw[←hQ];refine au ?_;refine aB hp (Ka _) ⟨?_,rfl⟩;rw[hb];rfl
theorem oT(o:Own)(ts:List Tr)(hl:ts.length≤100000000)(h:Hp):aI Tryz.prog 94 [trs o ts] h (lst .leaf ((nmL [] ts).map V.str)):=by
 refine cP (fun L=>bO (fun L=>aS (f:=V.str) (fun _=>trivial) _) L) fun h' nx hh=>aC L.aV3 fun hd=>?_;have hd:aQ h' nx:=hd;simp only[jL,jM,jA,jB,jN,jO,jP,jQ,V.undef];refine au ?_
 refine aO (fun q:Nat×Own=>aD 37 0 [(0,trs o ts),(3, .sl .leaf q.2 ((nmL [] (ts.take q.1)).map V.str)),(4, .int .i64 q.1)])
  (fun q hp nx1=>q.1≤ts.length∧nx≤nx1∧aQ hp nx1∧Hp.same nx h' hp∧Acc hp nx q.2 ((nmL [] (ts.take q.1)).map V.str))
  (fun q=>ts.length-q.1) (0, .nil) ⟨Kq _,Zw,by exact dmo hd,by exact kep Hp.same.aA0, .inl ⟨rfl,rfl⟩⟩ (by simp only[WkL,aD,jH,jI,jJ,trs,jK,nmL,Ks,List.foldl_nil,go_sem,reduceIte,jA,jB,jC,jD,reduceCtorEq,jE,jF]) ?_
 rintro⟨i,oo⟩ hp nx1 ⟨hi,hnx,hdm,hsm,aAK⟩;generalize hQ:aX _ _ _ _ _=Q0;dsimp only at hi aAK;simp only[aD,go_sem,reduceIte,jA,jB,jC,jD,reduceCtorEq,jE,jF];rcases Ko i ts.length with hlt|hge
 ·have hc:decide ((i:Int)<(ts.length:Int))=true:=dct;have hg:=aM Tr.v ts i hlt;have hw:IntKind.i64.wrap ((i:Int)+1)=((i+1:Nat):Int):=wrp;have hNl:(nmL [] (ts.take i)).length≤100000000:=by
   have:=iE (ts.take i) [];rw[List.length_take,jM] at this;omega
  have hN:nmL [] (ts.take (i+1))=nmT (nmL [] (ts.take i)) ts[i]:=by
   rw[Kc hlt,xF];rfl
  generalize nmL [] (ts.take i)=W at*;generalize ts[i]=t at*;have C1:∀h:Hp,aI Tryz.prog 49 [.sl .leaf oo (W.map V.str), .str t.x] h (.bool (bB t.x W)):=fun h=>jV oo W or t.x h;have hml:(W.map V.str).length=W.length:=jK ..;unfold nmT at hN;cases h1:decide (t.x.size=0) with
  |true=>
   rw[h1,if_neg Zm] at hN;have hz:decide ((0:Int)<(t.x.size:Int))=false:=dcf (h:=by have:=of_decide_eq_true h1;omega);refine aue (e9 hc hg hlt hw hz (@jK Tr V) jG Tr.v.eq_1 trs.eq_1) ?_;rw[←hQ];exact aE (i+1,oo) Zw ⟨hlt,or,dmo hdm,kep hsm,by dsimp only;rw[hN];exact aAK⟩ (by simp only[WkL,aD,jH,jI,jJ,trs,hN,go_sem,reduceIte,jA,jB,jC,jD,reduceCtorEq,jE,jF])
  |false=>
   have hz:decide ((0:Int)<(t.x.size:Int))=true:=dct (h:=by have:=of_decide_eq_false h1;omega);cases hb:bB t.x W with
   |true=>
    rw[hb] at C1;rw[h1,hb,if_neg Zm] at hN;refine aue (e9 hc hg hlt hw hz (@jK Tr V) jG Tr.v.eq_1 trs.eq_1) ?_;rw[←hQ];exact aE (i+1,oo) Zw ⟨hlt,or,dmo hdm,kep hsm,by dsimp only;rw[hN];exact aAK⟩ (by simp only[WkL,aD,jH,jI,jJ,trs,hN,go_sem,reduceIte,jA,jB,jC,jD,reduceCtorEq,jE,jF])
   |false=>
    rw[hb] at C1;rw[h1,hb,if_pos Zm] at hN;refine aue (e11 hc hg hlt hw hz hml hNl (@jK Tr V) jG Tr.v.eq_1 trs.eq_1) ?_;rw[←hQ];refine aE (i+1, .tok (nx1+1)) Zw ⟨hlt,or,dmo hdm,rM hsm aAK,?_⟩ (by simp only[WkL,aD,jH,jI,jJ,trs,hN,Kf,KC,KD,go_sem,reduceIte,jA,jB,jC,jD,reduceCtorEq,jE,jF]);dsimp only;rw[hN,Kf];exact Acc.new _ Zm or
 have hc:decide ((i:Int)<(ts.length:Int))=false:=dcf;rw[Kd or] at aAK⊢;refine aue (e3 hc (@jK Tr V) trs.eq_1) ?_;rw[←hQ];refine au ?_;refine aB h' (hsm.le hd (Ka _)) ⟨?_,Ka _⟩;exact kA aAK
set_option maxHeartbeats 4000000
def qO(h:Hp)(n0:Nat)(o:Own)(es:List V):Prop:=Acc h n0 o es∨(es=[]∧z8 h n0 o)
theorem qO.tip{h:Hp}{n0:Nat}{o:Own}{es:List V}(a:qO h n0 o es){id:Nat}(e:o= .tok id):h id=some .tip:=by
 rcases a with(⟨_,h1⟩|⟨_,id2,_,h2,h3⟩)|⟨_,id2,_,h2,h3⟩
 ·rw[h1] at e;cases e
 ·rw[h2] at e;injection e with e;rw[←e];exact h3
 rw[h2] at e;injection e with e;rw[←e];exact h3
theorem qO.set{h:Hp}{n0 n:Nat}{o:Own}{es:List V}(a:qO h n0 o es)(hn:h n≠some .tip)(b:Blk):qO (h.set n b) n0 o es:=a.imp (fun a=>a.set hn b) fun a=>⟨a.1,a.2.set hn b⟩
theorem nC:∀(n:Nat) (e:Ex),SizeOf.sizeOf e≤n→(∃m,pM m e=true)→∀(o:Own) (pre:List Tr) (h:Hp) (nx n0:Nat),qO h n0 o (pre.map Tr.v)→n0≤nx→pre.length+e.ts.length≤100000000→
 aV Tryz.prog 146 [e.v,trs o pre] h nx fun v h' nx'=>∃o',v=trs o' (pre++e.ts)∧qO h' n0 o' ((pre++e.ts).map Tr.v)∧(∀m,m<nx→o≠ .tok m→h' m=h m)∧∀m,m<nx→o'= .tok m→o= .tok m:=by
 intro n;induction n with
 |zero=>intro e he;cases e;simp at he
 |succ n ih=>
  rintro⟨op,t,ow,ks⟩ hsz ⟨m,aTW⟩ o pre h nx n0 aAK hn0 hlen;refine aC L.aVB fun hd=>?_;have hdm:aQ h nx:=hd;obtain⟨hk2,hkb⟩:=ir aTW;have hev:(Ex.mk op t ow ks).v= .agg [.int .i64 op, .str t.x, .int .i64 t.w.k, .int .i64 t.w.n, .str t.w.s, .sl (.agg 6) ow (ks.map Ex.v)]:=by rw[Ex.aAW];rfl
  have hts:(Ex.mk op t ow ks).ts=if ks=[] then [t] else ks.flatMap Ex.ts:=Ex.aBn _
  rw[hev];rw[hts] at hlen⊢;clear hev hts aTW;simp only[jL,jM,jA,jB,jN,jO,jP,jQ,V.undef];have hpl:pre.length≤100000000:=or;have hml:(pre.map Tr.v).length=pre.length:=jK ..;cases ks with
  |nil=>
   have hz:(((0:Nat):Int)==0)=true:=rfl;have hdo:∀H:Hp,H.aA7 o nx=H nx:=fun H=>iN fun id e=>by
    have:=hdm _ _ (aAK.tip e);omega
   have aAm:∀m,m<nx→o≠ .tok m→∀b1 b2 b3,((((h.set nx b1).set (nx+1) b2).aA7 o).set (nx+2) b3) m=h m:=by
    intro m hm ho b1 b2 b3;have hdm:∀H:Hp,H.aA7 o m=H m:=fun H=>iN fun id e=>by rw[e] at ho;intro e2;exact ho (by rw[e2])
    simp only[Kb,hdm,if_neg (by omega:¬m=nx+2),if_neg (by omega:¬m=nx+1),if_neg (by omega:¬m=nx)]
   rcases aAK with aAK|⟨aUF,id,hid,rfl,hti⟩;rotate_left
   ·have hpn:pre=[]:=by simpa using aUF
    subst hpn;have aGm:=hdm _ _ hti;have hne:(id=nx)=False:=fls;have aUI:(id=nx+1)=False:=fls;have aOV:(1*48≤140737488355328)=True:=eq_true ZM;refine aue (e7 hz hti hne aUI aOV trs.eq_1 (@jK Tr V)) ?_;exact aB _ (Ka _) ⟨.tok (nx+2),rfl, .inl (Acc.new _ Zm or),fun m hm ho=>aAm m hm ho _ _ _,fun m hm e=>by injection e with e;omega⟩
   refine aue (e6 hz hpl hml hdo trs.eq_1 (@jK Tr V)) ?_;exact aB _ (Ka _) ⟨.tok (nx+2),by simp only[Kf,KC,KD,go_sem,reduceIte,jA,jB,jC,jD,reduceCtorEq,jE,jF];rfl,by rw[Kf];exact .inl (Acc.new _ Zm or),fun m hm ho=>aAm m hm ho _ _ _,fun m hm e=>by injection e with e;omega⟩
  |cons a b=>
   rw[if_neg Zm] at hlen⊢;obtain⟨ks,hks⟩:∃ks,a::b=ks:=⟨_,rfl⟩;rw[hks] at hlen hk2 hkb hsz⊢;have hkl:ks.length≠0:=by rw[←hks];simp
   have hz:((ks.length:Int)==0)=false:=bqf;refine aue (e3 hz trs.eq_1 (@jK Ex V)) ?_
   refine aO (fun q:Nat×Own=>aD 30 0 [(1,trs q.2 (pre++(ks.take q.1).flatMap Ex.ts)),(2, .ptr nx (.agg 6) 0 0),(5, .int .i64 q.1)])
    (fun q hp nx1=>q.1≤ks.length∧nx+1≤nx1∧aQ hp nx1∧((∀m,m<nx→o≠ .tok m→hp m=h m)∧∀m,m<nx→q.2= .tok m→o= .tok m)∧hp nx=some (.arr (.agg 6) [.agg [.int .i64 op, .str t.x, .int .i64 t.w.k, .int .i64 t.w.n, .str t.w.s, .sl (.agg 6) ow (ks.map Ex.v)]])∧qO hp n0 q.2 ((pre++(ks.take q.1).flatMap Ex.ts).map Tr.v))
    (fun q=>ks.length-q.1) (0,o) ⟨Kq _,Zw,by exact dmo hd,⟨fun m hm _=>by simp only[Kb];rw[if_neg or],fun m _ e=>e⟩,by simp only[go_sem,reduceIte,jA,jB,jC,jD,reduceCtorEq,jE,jF],by simp only[Ks,Ky,KA];exact aAK.set (by rw[aQ.none hdm (Ke _)];simp) _⟩ (by simp only[WkL,aD,jH,jI,jJ,trs,Ks,Ky,KA,go_sem,reduceIte,jA,jB,jC,jD,reduceCtorEq,jE,jF]) ?_
   rintro⟨i,oo⟩ hp nx1 ⟨hi,hnx,hdm,⟨hsm,hto⟩,hb,aAK⟩;generalize hQ:aX _ _ _ _ _=Q0;dsimp only at hi aAK hto;simp only[aD,go_sem,reduceIte,jA,jB,jC,jD,reduceCtorEq,jE,jF];have n1:nx<nx1:=or;rcases Ko i ks.length with hlt|hge
   ·have hc:decide ((i:Int)<(ks.length:Int))=true:=dct;have hg:=aM Ex.v ks i hlt;have hw:IntKind.i64.wrap ((i:Int)+1)=((i+1:Nat):Int):=wrp;have htk:pre++(ks.take (i+1)).flatMap Ex.ts=(pre++(ks.take i).flatMap Ex.ts)++ks[i].ts:=by
     rw[Kc hlt,Kt,Kx];simp
    have hll:((pre++(ks.take i).flatMap Ex.ts)++ks[i].ts).length≤100000000:=by
     rw[←htk];have h1:((ks.take (i+1)).flatMap Ex.ts++(ks.drop (i+1)).flatMap Ex.ts).length=(ks.flatMap Ex.ts).length:=by rw[←Kt,List.take_append_drop]
     rw[Kg] at h1⊢;omega
    rw[Kg] at hll;have hkm:=Kj hlt;have aUN:SizeOf.sizeOf ks[i]≤n:=by
     have h1:=List.sizeOf_lt_of_mem hkm;simp only[Ex.mk.sizeOf_spec] at hsz;omega
    have hkb:=hkb _ hkm;have hKf:=Ex.aAF ks[i];have IH:=ih ks[i] aUN hkb oo (pre++(ks.take i).flatMap Ex.ts);generalize pre++(ks.take i).flatMap Ex.ts=W at*;generalize ks[i]=K at*;obtain⟨X,hX⟩:∃X,K.v=X:=⟨_,rfl⟩;rw[hX] at hg hKf IH;refine aue (e8 hc hg hlt hb n1 hKf (@jK Ex V) jG) ?_;refine bZ ((IH hp nx1 n0 aAK or hll).dom.mono ?_);rintro v h2 nx2 aAf ⟨⟨o2,rfl,aBv,hs2,ht2⟩,hd2,_⟩;unfold eD;refine Zn ?_;refine aue (e2 hw trs.eq_1) ?_;rw[←hQ];have hb2:h2 nx=some (.arr (.agg 6) [.agg [.int .i64 op, .str t.x, .int .i64 t.w.k, .int .i64 t.w.n, .str t.w.s, .sl (.agg 6) ow (ks.map Ex.v)]]):=by
     rw[hs2 nx n1 (fun e=>by have h3:=aAK.tip e;rw[hb] at h3;cases h3)];exact hb
    exact aE (i+1,o2) Zw ⟨hlt,or,hd2,⟨fun m hm ho=>by rw[hs2 m or (fun e=>ho (hto m hm e)),hsm m hm ho],fun m hm e=>hto m hm (ht2 m or e)⟩,hb2,by dsimp only;rw[htk];exact aBv⟩ (by simp only[WkL,aD,jH,jI,jJ,trs,htk,go_sem,reduceIte,jA,jB,jC,jD,reduceCtorEq,jE,jF])
   have hc:decide ((i:Int)<(ks.length:Int))=false:=dcf;rw[Kd or] at aAK⊢;refine aue (e5 hc hb n1 (@jK Ex V) trs.eq_1) ?_;rw[←hQ];refine au ?_;exact aB _ (Ka _) ⟨oo,rfl,aAK,hsm,hto⟩
set_option maxHeartbeats 4000000
theorem vP(o o2:Own)(l vs:List ByteArray)(hl:l.length≤1000000000)(hv:vs.length≤1000000000)(h:Hp):aI Tryz.prog 92 [.sl .leaf o (l.map V.str), .sl .leaf o2 (vs.map V.str)] h (.bool (gU l vs)):=by
 refine aH (fun L=>trivial) fun h' nx hh=>aC L.aV5 fun hd=>?_;have hd:aQ h' nx:=hd;simp only[jL,jM,jA,jB,jN,jO,jP,jQ,V.undef];refine au ?_
 refine aO (fun i:Nat=>aD 19 0 [(0, .sl .leaf o (l.map V.str)),(1, .sl .leaf o2 (vs.map V.str)),(5, .int .i64 i)])
  (fun i hp nx1=>i≤vs.length∧aQ hp nx1∧hp=h'∧∀y∈vs.take i,y∈l)
  (fun i=>vs.length-i) 0 ⟨Kq _,by exact dmo hd,rfl,Zm⟩ (by simp only[WkL,aD,jH,jI,jJ,jK,go_sem,reduceIte,jA,jB,jC,jD,reduceCtorEq,jE,jF]) ?_
 rintro i hp nx1 ⟨hi,hdm,rfl,hno⟩;generalize hQ:aX _ _ _ _ _=Q0;simp only[aD,go_sem,reduceIte,jA,jB,jC,jD,reduceCtorEq,jE,jF];rcases Ko i vs.length with hlt|hge
 ·have hc:decide ((i:Int)<(vs.length:Int))=true:=dct;have hg:=aM V.str vs i hlt;have hw:IntKind.i64.wrap ((i:Int)+1)=((i+1:Nat):Int):=wrp;have htk:=Kc hlt;have aAk:=Kj hlt;generalize vs[i]=y at hg htk aAk;have C1:=fun h=>jV o l hl y h;cases hb:bB y l with
  |false=>
   rw[hb] at C1;have ha:gU l vs=false:=by
    cases ha:gU l vs with
    |false=>rfl
    |true=>rw[dB.2 (iQ.1 ha y aAk)] at hb;cases hb
   refine aue (e4 hc hg hlt (e2 (@jK ByteArray V) jG)) ?_;rw[←hQ];refine au ?_;refine aB hp (Ka _) ⟨?_,rfl⟩;rw[ha];rfl
  |true=>
   rw[hb] at C1;refine aue (e5 hc hg hlt hw (e2 (@jK ByteArray V) jG)) ?_;rw[←hQ];refine aE (i+1) or ⟨hlt,hdm,rfl,fun z hz=>?_⟩ (by simp only[WkL,aD,jH,jI,jJ,go_sem,reduceIte,jA,jB,jC,jD,reduceCtorEq,jE,jF]);rw[htk,Kz,Ku] at hz;rcases hz with hz|rfl
   ·exact hno z hz
   exact dB.1 hb
 have hc:decide ((i:Int)<(vs.length:Int))=false:=dcf;have ha:gU l vs=true:=iQ.2 fun y hy=>hno y (by rw[Kd or];exact hy);refine aue hc ?_;rw[←hQ];refine au ?_;refine aB hp (Ka _) ⟨?_,rfl⟩;rw[ha];rfl
theorem wS(e:Ex)(h:Hp):aI Tryz.prog 144 [e.v] h (.str (bQ e)):=by
 refine aH (fun L=>trivial) fun h' nx hh=>aC L.aVD fun hd=>?_;obtain⟨op,t,o,ks⟩:=e;rw[Ex.aAW];simp only[jL,jM,jA,jB,jN,jO,jP,jQ,V.undef];unfold bQ;by_cases h1:op=0
 ·have g1:(op==0)=true:=bqt;by_cases hk:ks=[]
  ·have g2:(((0:Nat):Int)==0)=true:=rfl;subst hk;refine aue (e7 Ex.cs.eq_1 Ex.op.eq_1 Ex.t.eq_1 Ex.o.eq_1 Ex.kids.eq_1 g1 g2) ?_;refine aB h' (leo hd) ⟨?_,rfl⟩;rw[if_neg (by simp[h1,Ex.op,Ex.kids])];rfl
  have g2:((ks.length:Int)==0)=false:=bqf (h:=by have:ks.length≠0:=fun e=>hk (List.length_eq_zero_iff.1 e);omega);refine aue (e8 Ex.cs.eq_1 Ex.op.eq_1 Ex.t.eq_1 Ex.o.eq_1 Ex.kids.eq_1 g1 g2 (@jK Ex V)) ?_;refine aB h' (leo hd) ⟨?_,rfl⟩;rw[if_pos (.inr (by simpa [Ex.kids] using hk))];rfl
 have g1:(op==0)=false:=bqf;refine aue (e6 Ex.cs.eq_1 Ex.op.eq_1 Ex.t.eq_1 Ex.o.eq_1 Ex.kids.eq_1 g1) ?_;refine aB h' (leo hd) ⟨?_,rfl⟩;rw[if_pos (.inl h1)];rfl
theorem ns(e:Ex)(he:j8 e=true)(h:Hp):aI Tryz.prog 145 [e.v] h (lst .leaf ((nmL [] e.ts).map V.str)):=by
 refine aH (fun L=>bO (fun L=>aS (f:=V.str) (fun _=>trivial) _) L) fun h' nx hh=>aC L.aVC fun hd=>?_;have hd:aQ h' nx:=hd;have hl:=fY he;have hf:=Ex.aAF e;have T:=fun h nx=>nC _ e (Ke _) ⟨20,he⟩ .nil [] h nx nx (.inl (.inl ⟨rfl,rfl⟩)) (Ke _) (by simp only[jM];omega);obtain⟨X,hX⟩:∃X,e.v=X:=⟨_,rfl⟩;rw[hX] at hf T⊢;simp only[jL,jM,jA,jB,jN,jO,jP,jQ,V.undef];refine aue hf ?_;refine bZ ((T _ _).dom.mono ?_);rintro v h2 nx2 aAf ⟨⟨o2,rfl,aBv,hs2,_⟩,hd2,_⟩;unfold eD;have C1:=fun h=>oT o2 ([]++e.ts) (by rw[jQ];omega) h;simp only[jQ] at C1;simp only[jQ,go_sem,reduceIte,jA,jB,jC,jD,reduceCtorEq,jE,jF];refine au ?_;refine aB h' (fun m b hm=>?_) ⟨rfl,rfl⟩;have hlt:=hd _ _ hm;have h3:=hs2 m (by show m<nx+1;omega) Zm;show h2 m=some b;rw[h3];show(if m=nx then _ else h' m)=some b;rw[if_neg or];exact hm
end Go.Proofs.YtgbiopfghdilnaaGreatDoor
namespace Go.Proofs.YtgbiopfghdilnaaGreatDoor
open Go.RowKit Go.Sort
attribute [local irreducible] IntKind.wrap
set_option maxHeartbeats 4000000
section
variable{P:Program}{r:List aA}{Qs:St→Prop}{s:St}{dst:Option Nat}
theorem uX{k:Sh}{bs id:Nat}{x y:aJ}{es ys:List V}(hx:x.ev s.sl= .sl k (.tok id) es)(ha:s.h id=some .tip)(hy:dF s.h (y.ev s.sl)=some (k,ys))(hb:(es.length+ys.length)*bs≤140737488355328)
 (hq:aW P r Qs ⟨bG s.sl dst (.sl k (.tok s.nx) (es++ys)),(s.h.del id).set s.nx .tip,s.nx+1⟩):aW P (⟨dst,none, .append k bs x y⟩::r) Qs s:=by
 unfold aW;simp only[LOp.run,LOp.sem,hy,hx,true_and];exact⟨hb, .inl ⟨ha,hq⟩⟩
end
theorem qO.aGt{h:Hp}{n0 id:Nat}{es:List V}(hid:n0≤id)(ht:h id=some .tip):qO h n0 (.tok id) es:=by
 cases es with
 |nil=>exact .inr ⟨rfl,id,hid,rfl,ht⟩
 |cons a b=>exact .inl (.inr ⟨Zm,id,hid,rfl,ht⟩)
theorem qO.ge{h:Hp}{n0 id:Nat}{o:Own}{es:List V}(a:qO h n0 o es)(e:o= .tok id):n0≤id:=by
 rcases a with(⟨_,h1⟩|⟨_,id2,h0,h2,h3⟩)|⟨_,id2,h0,h2,h3⟩
 ·rw[h1] at e;cases e
 ·rw[h2] at e;injection e with e;omega
 rw[h2] at e;injection e with e;omega
theorem qO.ne{h:Hp}{n0:Nat}{o:Own}{es:List V}(a:qO h n0 o es)(e:es≠ []):o≠ .nil:=by
 rcases a with(⟨h0,_⟩|⟨_,id2,h0,h2,h3⟩)|⟨h0,_⟩
 ·exact absurd h0 e
 ·rw[h2];simp
 exact absurd h0 e
theorem Cf:∀(n:Nat) (e:Ex),pM n e=true→e.ts≠ []
 |0, .mk op t o ks,h=>by
  have h:ks=[]:=by simpa [pM] using h
  rw[Ex.aBn,h];simp[Ex.kids]
 |n+1, .mk op t o ks,h=>by
  match ks,h with
  | [],_=>rw[Ex.aBn];simp[Ex.kids]
  | [a,b],h=>
   simp only[pM,Bool.and_eq_true] at h;rw[Ex.aBn,if_neg (by simp[Ex.kids])];intro e;simp only[Ex.kids,List.flatMap_cons,List.append_eq_nil_iff] at e;exact Cf n a h.1 e.1
  | [_],h=>simp[pM] at h
  |_::_::_::_,h=>simp[pM] at h
theorem sW(l:Li)(hr:bJ l=true)(h:Hp):aI Tryz.prog 95 [l.v] h (.sl (.agg 4) .free (l.ts.map Tr.v)):=by
 obtain⟨hal,hbx,hby⟩:=iW hr;have hlx:=fY hbx;have hly:=fY hby
 refine cP (fun L=>⟨fun m e=>by(cases e),aS (Tr.aAQ L) _⟩) fun h' nx hh=>aC L.aV2 fun hd=>?_;have hd:aQ h' nx:=hd;have TX:=nC _ l.x (Ke _) ⟨20,hbx⟩;have TY:=nC _ l.y (Ke _) ⟨20,hby⟩;have hXf:=Ex.aAF l.x;have hYf:=Ex.aAF l.y;have hf:=Li.aAF l;obtain⟨T,hT,htx,hty,hta⟩:∃T,l.v= .agg T∧(.agg ((T.drop 4).take 6))=l.x.v∧(.agg ((T.drop 10).take 6))=l.y.v∧(V.agg T).cell 2=trs l.a.o l.a.l:=⟨_,rfl,by rw[Ex.aAW];rfl,by rw[Ex.aAW];rfl,rfl⟩;have aBY:bC (.agg 6) 4 (.agg T)=l.x.v:=htx;have aBX:bC (.agg 6) 10 (.agg T)=l.y.v:=hty;rw[hT] at hf⊢;obtain⟨X,hX⟩:∃X,l.x.v=X:=⟨_,rfl⟩;obtain⟨Y,hY⟩:∃Y,l.y.v=Y:=⟨_,rfl⟩;rw[hX] at TX hXf aBY;rw[hY] at TY hYf aBX;simp only[List.length_cons,KB,Kh,Ki,List.replicate_succ,List.replicate_zero,List.cons_append,List.nil_append,V.undef];generalize hDC:aP.draw _ _ _=DC;refine aue hf ?_;rw[←hDC]
 obtain⟨I,hI⟩:∃I:(Nat→Bool)→St→Prop,∀D s',I D s'↔∃c2 c3 c4 c5 c6 c7 c8 c9 c10 c11 c12 c13,s'.sl=[.agg T, .ptr nx (.agg 17) 0 0,c2,c3,c4,c5,c6,c7,c8,c9,c10,c11,c12,c13]∧Hp.same nx h' s'.h∧aQ s'.h s'.nx∧nx<s'.nx∧s'.h nx=some (.arr (.agg 17) [.agg T])∧
  (D 0=true→c3= .ptr nx (.agg 17) 0 10)∧(D 1=true→c4=Y)∧(D 2=true→c5= .ptr nx (.agg 17) 0 4)∧(D 3=true→c6=X)∧
  (D 4=true→∃id,c7= .sl (.agg 4) (.tok id) []∧nx<id∧(D 8=false→s'.h id=some .tip))∧
  (D 5=true→c8= .ptr nx (.agg 17) 0 1)∧(D 6=true→c9= .ptr nx (.agg 17) 0 2)∧(D 7=true→c10=trs l.a.o l.a.l)∧
  (D 8=true→∃id,c11=trs (.tok id) l.a.l∧nx<id∧(D 9=false→s'.h id=some .tip))∧
  (D 9=true→∃o,c12=trs o (l.a.l++l.x.ts)∧(D 10=false→qO s'.h (nx+1) o ((l.a.l++l.x.ts).map Tr.v)))∧
  (D 10=true→∃o,o≠ .nil∧c13=trs o ((l.a.l++l.x.ts)++l.y.ts))∧(D 11=true→∃o,o≠ .nil∧c2=trs o ((l.a.l++l.x.ts)++l.y.ts)):=⟨_,fun _ _=>Iff.rfl⟩
 refine qA ⟨I,?_,?_,?_⟩
 ·exact(hI _ _).2 ⟨_,_,_,_,_,_,_,_,_,_,_,_,rfl,kep Hp.same.aA0,dmo hd,Zw,by simp only[go_sem,reduceIte,Kh,Ki,Kw,Kk,reduceCtorEq,Km,Kp],fun h=>(by cases h),fun h=>(by cases h),fun h=>(by cases h),fun h=>(by cases h),fun h=>(by cases h),fun h=>(by cases h),fun h=>(by cases h),fun h=>(by cases h),fun h=>(by cases h),fun h=>(by cases h),fun h=>(by cases h),fun h=>(by cases h)⟩
 ·rintro D i o aAE ⟨sl,h1,nx1⟩ hi hDi aAa hcl hID;obtain⟨c2,c3,c4,c5,c6,c7,c8,c9,c10,c11,c12,c13,q1,q2,q3,q4,q5,d0,d1,d2,d3,d4,d5,d6,d7,d8,d9,d10,d11⟩:=(hI _ _).1 hID;dsimp only at q1 q2 q3 q4 q5 d4 d8 d9;subst q1;have n8:D 8=true→D 4=true:=fun e=>hcl 8 _ _ rfl e 4 ZM;have n9:D 9=true→D 8=true:=fun e=>hcl 9 _ _ rfl e 8 ZM;have n10:D 10=true→D 9=true:=fun e=>hcl 10 _ _ rfl e 9 ZM;match i,hi with
  |0,hi=>
   cases hi;refine aue ((trs.eq_1)) ?_;exact(hI _ _).2 ⟨_,_,_,_,_,_,_,_,_,_,_,_,rfl,q2,q3,q4,q5,fun _=>rfl,d1,d2,d3,d4,d5,d6,d7,d8,d9,d10,d11⟩
  |1,hi=>
   cases hi;obtain rfl:=d0 (aAa 0 ZM);refine aue (e5 q5 hf q4 aBX trs.eq_1) ?_;exact(hI _ _).2 ⟨_,_,_,_,_,_,_,_,_,_,_,_,rfl,q2,q3,q4,q5,d0,fun _=>rfl,d2,d3,d4,d5,d6,d7,d8,d9,d10,d11⟩
  |2,hi=>
   cases hi;refine aue ((trs.eq_1)) ?_;exact(hI _ _).2 ⟨_,_,_,_,_,_,_,_,_,_,_,_,rfl,q2,q3,q4,q5,d0,d1,fun _=>rfl,d3,d4,d5,d6,d7,d8,d9,d10,d11⟩
  |3,hi=>
   cases hi;obtain rfl:=d2 (aAa 2 ZM);refine aue (e5 q5 hf q4 aBY trs.eq_1) ?_;exact(hI _ _).2 ⟨_,_,_,_,_,_,_,_,_,_,_,_,rfl,q2,q3,q4,q5,d0,d1,d2,fun _=>rfl,d4,d5,d6,d7,d8,d9,d10,d11⟩
  |4,hi=>
   cases hi;have f8:D 8=true→False:=fun e=>by have:=n8 e;rw[hDi] at this;cases this
   refine au ?_;exact(hI _ _).2 ⟨_,_,_,_,_,_,_,_,_,_,_,_,rfl,sE q2 or _,dmo q3,Zw,by simp only[Kb];rw[if_neg or];exact q5,d0,d1,d2,d3,fun _=>⟨nx1,rfl,q4,fun _=>by simp[Kb]⟩,d5,d6,d7,fun e=>(f8 e).elim,fun e=>(f8 (n9 e)).elim,d10,d11⟩
  |5,hi=>
   cases hi;refine aue ((trs.eq_1)) ?_;exact(hI _ _).2 ⟨_,_,_,_,_,_,_,_,_,_,_,_,rfl,q2,q3,q4,q5,d0,d1,d2,d3,d4,fun _=>rfl,d6,d7,d8,d9,d10,d11⟩
  |6,hi=>
   cases hi;obtain rfl:=d5 (aAa 5 ZM);refine aue ((trs.eq_1)) ?_;exact(hI _ _).2 ⟨_,_,_,_,_,_,_,_,_,_,_,_,rfl,q2,q3,q4,q5,d0,d1,d2,d3,d4,d5,fun _=>rfl,d7,d8,d9,d10,d11⟩
  |7,hi=>
   cases hi;obtain rfl:=d6 (aAa 6 ZM);refine aue (e5 q5 hf q4 hta trs.eq_1) ?_;exact(hI _ _).2 ⟨_,_,_,_,_,_,_,_,_,_,_,_,rfl,q2,q3,q4,q5,d0,d1,d2,d3,d4,d5,d6,fun _=>rfl,d8,d9,d10,d11⟩
  |8,hi=>
   cases hi;obtain⟨id,rfl,hid,hti⟩:=d4 (aAa 4 ZM);obtain rfl:=d7 (aAa 7 ZM);have f9:D 9=true→False:=fun e=>by have:=n9 e;rw[hDi] at this;cases this
   refine uX (id:=id) rfl (hti hDi) rfl (by simp only[List.length_map,KB];omega) ?_;refine au ?_;exact(hI _ _).2 ⟨_,_,_,_,_,_,_,_,_,_,_,_,rfl,sE (sF q2 (KE hid)) (KE q4) _,dmo q3,Zw,by simp only[Kb,Hp.del];rw[if_neg or,if_neg or];exact q5,d0,d1,d2,d3,fun _=>⟨id,rfl,hid,fun e=>by cases e⟩,d5,d6,d7,fun _=>⟨nx1,rfl,q4,fun _=>by simp[Kb]⟩,fun e=>(f9 e).elim,d10,d11⟩
  |9,hi=>
   cases hi;obtain⟨id,rfl,hid,hti⟩:=d8 (aAa 8 ZM);obtain rfl:=d3 (aAa 3 ZM);have t8:=aAa 8 ZM;refine bZ ((TX (.tok id) l.a.l h1 nx1 (nx+1) (qO.aGt or (hti hDi)) or or).dom.mono ?_);rintro v h2 nx2 aAf ⟨⟨o2,rfl,aBv,hs2,_⟩,hd2,_⟩;unfold eD;simp only[go_sem,reduceIte,Kh,Ki,Kw,Kk,reduceCtorEq,Km,Kp];have hk:∀m,m≤nx→h2 m=h1 m:=fun m hm=>hs2 m or (by intro e;injection e with e;omega);refine au ?_;exact(hI _ _).2 ⟨_,_,_,_,_,_,_,_,_,_,_,_,rfl,fun m hm=>(hk m or).trans (q2 m hm),hd2,Kv q4 aAf,(hk nx (Ke _)).trans q5,d0,d1,d2,d3,fun e=>(d4 e).imp fun id a=>⟨a.1,a.2.1,fun f=>by rw[show D 8=true from t8] at f;cases f⟩,d5,d6,d7,fun _=>⟨id,rfl,hid,fun e=>by cases e⟩,fun _=>⟨o2,rfl,fun _=>aBv⟩,d10,d11⟩
  |10,hi=>
   cases hi;obtain⟨o,rfl,ho⟩:=d9 (aAa 9 ZM);obtain rfl:=d1 (aAa 1 ZM);have t9:=aAa 9 ZM;have t8:=n9 t9;refine bZ ((TY o (l.a.l++l.x.ts) h1 nx1 (nx+1) (ho hDi) or (by rw[Kg];omega)).dom.mono ?_);rintro v h2 nx2 aAf ⟨⟨o2,rfl,aBv,hs2,_⟩,hd2,_⟩;unfold eD;simp only[go_sem,reduceIte,Kh,Ki,Kw,Kk,reduceCtorEq,Km,Kp];have hk:∀m,m≤nx→h2 m=h1 m:=fun m hm=>hs2 m or (by intro e;have:=(ho hDi).ge e;omega);have hne:o2≠ .nil:=aBv.ne (by simp[Cf 20 l.y hby]);refine au ?_;exact(hI _ _).2 ⟨_,_,_,_,_,_,_,_,_,_,_,_,rfl,fun m hm=>(hk m or).trans (q2 m hm),hd2,Kv q4 aAf,(hk nx (Ke _)).trans q5,d0,d1,d2,d3,fun e=>(d4 e).imp fun id a=>⟨a.1,a.2.1,fun f=>by rw[show D 8=true from t8] at f;cases f⟩,d5,d6,d7,fun e=>(d8 e).imp fun id a=>⟨a.1,a.2.1,fun f=>by rw[show D 9=true from t9] at f;cases f⟩,fun _=>⟨o,rfl,fun e=>by cases e⟩,fun _=>⟨o2,hne,rfl⟩,d11⟩
  |11,hi=>
   cases hi;obtain⟨o,hne,rfl⟩:=d10 (aAa 10 ZM);refine aue trs.eq_1 ?_;exact(hI _ _).2 ⟨_,_,_,_,_,_,_,_,_,_,_,_,rfl,q2,q3,q4,q5,d0,d1,d2,d3,d4,d5,d6,d7,d8,d9,fun _=>⟨o,hne,rfl⟩,fun _=>⟨o,hne,rfl⟩⟩
  |n+12,hi=>cases hi
 rintro D ⟨sl,h1,nx1⟩ hD hID;obtain⟨c2,c3,c4,c5,c6,c7,c8,c9,c10,c11,c12,c13,q1,q2,q3,q4,q5,d0,d1,d2,d3,d4,d5,d6,d7,d8,d9,d10,d11⟩:=(hI _ _).1 hID;dsimp only at q1 q2;subst q1;obtain⟨o,hne,rfl⟩:=d11 (hD 11 ZM);refine au ?_;refine aB h' (q2.le hd (Ka _)) ⟨?_,Ka _⟩;show(trs o ((l.a.l++l.x.ts)++l.y.ts)).loose=_;unfold Li.ts;rw[Kx];cases o<;>first|exact absurd rfl hne|rfl
end Go.Proofs.YtgbiopfghdilnaaGreatDoor
