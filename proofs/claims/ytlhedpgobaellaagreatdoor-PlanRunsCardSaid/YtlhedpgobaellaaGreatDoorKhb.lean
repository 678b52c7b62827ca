/-
Texts of this proof,one behind the other. No conditions.
-/
import Derived.Test.YtlhedpgobaellaaGreatDoorKh
import Derived.Test.YtlhedpgobaellaaGreatDoorKfb
open Go.Proofs.YtlhedpgobaellaaGreatDoor.Hp renaming le_refl→Ka,same→Kb,set→Kc
open List renaming take_succ_eq_append_getElem→Kd,take_of_length_le→Ke,length_append→Kg,getElem?_eq_getElem→Ki,getElem_mem→Kj,flatMap_append→Km
open Nat renaming lt_or_ge→Kf,le_refl→Kh,zero_le→Kk,add_assoc→Ko,add_zero→Kp,zero_add→Kq
open Nat renaming reduceAdd→jA,reduceSub→jB,reduceLT→jC,reduceLeDiff→jD,reduceEqDiff→jE
open Int renaming reduceToNat→jF,toNat_natCast→jG,natCast_add→jH,natCast_one→jI,natCast_zero→jJ
open List renaming length_map→jK,length_cons→jL,length_nil→jM,replicate_succ→jN,replicate_zero→jO,cons_append→jP,nil_append→jQ
set_option linter.all false
set_option maxHeartbeats 8000000
namespace Go.Proofs.YtlhedpgobaellaaGreatDoor
open Go.RowKit Go.Sort
attribute [local irreducible] IntKind.wrap
theorem oY{P:Program}{f:FuncId}{args:List V}{h:Hp}{v:V}(hv:∀L,bM L args→v.names L)(hc:∀h' nx,h.has h'→aR P f args h' nx fun v' h'' _=>v'=v∧h''=h'):aM P f args h v:=by
 intro h' nx hh;have c:=hc h' nx hh;refine⟨c.1,fun K cargs hlv hrel aBu=>(c.2 K cargs hlv hrel aBu).mono ?_⟩;rintro e w' ⟨K',v',cv,h'',nx',rfl,he,hle,hvr,aCK,aGe,hnx,rfl,rfl⟩;have aCV:K.le (K'.only fun n=>K'.live n∧n<nx):=⟨fun n hn=>⟨hle.live n hn,hlv n hn⟩,hle.mu,hle.tp,hle.fro,hle.imm,hle.cell,hle.shape,hle.below⟩;have hna:bM (fun n=>K'.live n∧n<nx) args:=eP fun i hi=>fH (fun m hm=>⟨hle.live m hm,hlv m hm⟩) (aBu.2 i hi).names;exact⟨K'.only fun n=>K'.live n∧n<nx,v',cv,h'',nx,rfl,he,aCV,hvr.only _ (hv _ hna),hrel.back aCK aCV.toV (fun n hn=>⟨hle.live n hn,hlv n hn⟩),fun n hn=>⟨hn.2,(aGe n hn.1).2⟩,Kh _,rfl,rfl,rfl⟩
theorem aR.wk{P:Program}{f:FuncId}{args:List V}{h h2:Hp}{nx:Nat}{R:V→Hp→Nat→Prop}(c:aR P f args h nx R)(hle:h.le h2):aR P f args h2 nx R:=⟨c.1,fun K cargs hl hrel hv=>c.2 K cargs hl (hrel.weaken hle) hv⟩
theorem zJ{yn:Nat}{J:Nat→Hp→Nat→Prop}{D:Hp→Nat→Prop}{xs:List (List V)}
 (hJ:∀i h nx nx',J i h nx→nx≤nx'→J i h nx') (hD:∀h nx nx',D h nx→nx≤nx'→D h nx')
 (hy:∀i (hi:i<xs.length) h nx,J i h nx→aS h nx→dX Tryz.prog yn xs[i] h nx fun v h' nx'=>(v= .bool true∧J (i+1) h' nx')∨(v= .bool false∧D h' nx')):
 ∀(n:Nat) (e:Ex),SizeOf.sizeOf e≤n→(∃m,jb m e=true)→∀i,(∀j (hj:j<e.ts.length),xs[i+j]?=some [e.ts[j].v])→∀h nx,J i h nx→aS h nx→
  aR Tryz.prog 238 [e.v, .yld yn] h nx fun v h' nx'=>(v= .bool true∧J (i+e.ts.length) h' nx')∨(v= .bool false∧D h' nx')
 |0, .mk op t o ks,hn,_,_,_,_,_,_,_=>by simp at hn
 |n+1, .mk op t o ks,hn,⟨m,hm⟩,i,hx,h,nx,hj,hdm=>by
  refine aB L.aWt fun hd=>?_;rw[Ex.aAq];refine ZK ?_;have k0:=kl0 ks;cases ks with
  |nil=>
   have hx0:=hx 0 (by simp[Ex.ts]);have e0:(Ex.mk op t o []).ts=[t]:=by simp[Ex.ts]
   have hi:i<xs.length:=by
    rcases Kf i xs.length with h1|h1
    ·exact h1
    rw[Kp,List.getElem?_eq_none h1] at hx0;cases hx0
   have hxi:xs[i]=[t.v]:=by
    rw[Kp,Ki hi] at hx0;simpa [e0] using hx0
   have Y:=hy i hi h (nx+1) (hJ _ _ _ _ hj or) (hdm.up or);rw[hxi] at Y;have k1:(((0:Nat):Int)==0)=true:=rfl;refine aue (e6 Ex.cs.eq_1 Ex.op.eq_1 Ex.t.eq_1 Ex.o.eq_1 Ex.kids.eq_1 k1) ?_;refine nF rfl ((Y.weaken (leo hdm)).mono ?_);rintro v h' nx' hle (⟨rfl,hv⟩|⟨rfl,hv⟩)
   ·unfold bW;refine Zn ?_;refine au ?_;refine aC h' (Ka _) (.inl ⟨rfl,?_⟩);rw[e0];exact hv
   unfold bW;refine Zn ?_;refine au ?_;exact aC h' (Ka _) (.inr ⟨rfl,hv⟩)
  |cons k r=>
   obtain⟨ks,hks⟩:∃ks,ks=k::r:=⟨_,rfl⟩;have hne:ks≠ []:=by rw[hks];simp
   have k1:((ks.length:Int)==0)=false:=by cases ks with|nil=>exact absurd rfl hne|cons a b=>exact bqf (by simp only[jL];omega)
   have e0:(Ex.mk op t o (k::r)).ts=ks.flatMap Ex.ts:=by rw[Ex.aCF,if_neg (by simp[Ex.kids]),hks];rfl
   rw[←hks] at hn hm⊢;obtain⟨hk2,hkr⟩:=DB hm;rw[e0] at hx;rw[←hks] at e0;rw[e0];have hsz:∀e∈ks,SizeOf.sizeOf e≤n:=fun e he=>by
    have:=List.sizeOf_lt_of_mem he;simp only[Ex.mk.sizeOf_spec] at hn;omega
   refine aue (e7 Ex.cs.eq_1 Ex.op.eq_1 Ex.t.eq_1 Ex.o.eq_1 Ex.kids.eq_1 k1 (@jK Ex V)) ?_
   refine aP (fun q:Nat=>aD 27 0 [(1, .yld yn),(16, .sl (.agg 6) o (ks.map Ex.v)),(17, .int .i64 ks.length),(18, .int .i64 q)])
    (fun q hp nx1=>q≤ks.length∧aS hp nx1∧∃hq,J (i+((ks.take q).flatMap Ex.ts).length) hq nx1∧hq.le hp)
    (fun q=>ks.length-q) 0 ⟨Kk _,by exact dmo hdm,h,hJ _ _ _ _ hj Zw,leo hdm⟩ (by simp only[WkL,aD,jH,jI,jJ,jK,go_sem,reduceIte,jA,jB,jC,jD,reduceCtorEq,jE,jF]) ?_
   rintro q hp nx1 ⟨hq,aXu,hq0,hj1,hle1⟩;generalize hQ:aZ _ _ _ _ _=Q0;refine Zk ?_;rcases Kf q ks.length with hlt|hge
   ·have hc:decide ((q:Int)<(ks.length:Int))=true:=dct;have hg:=aL Ex.v ks q hlt;have hw:IntKind.i64.wrap ((q:Int)+1)=((q+1:Nat):Int):=wrp;have hf:=Ex.aAC ks[q];have htk:(ks.take (q+1)).flatMap Ex.ts=(ks.take q).flatMap Ex.ts++ks[q].ts:=by rw[Kd hlt,Km];simp
    have aAc:ks.flatMap Ex.ts=(ks.take q).flatMap Ex.ts++(ks[q].ts++(ks.drop (q+1)).flatMap Ex.ts):=by
     conv=>lhs;rw[←List.take_append_drop q ks,List.drop_eq_getElem_cons hlt]
     rw[Km,List.flatMap_cons]
    have aXm:=zJ hJ hD hy n ks[q] (hsz _ (Kj _)) (hkr _ (Kj _)) (i+((ks.take q).flatMap Ex.ts).length) (fun j hj=>by
     have h2:=hx (((ks.take q).flatMap Ex.ts).length+j) (by rw[aAc];simp only[Kg];omega);rw[Ko,h2];have e3:(ks.flatMap Ex.ts)[((ks.take q).flatMap Ex.ts).length+j]'(by rw[aAc];simp only[Kg];omega)=ks[q].ts[j]:=by
      simp only[aAc];rw[List.getElem_append_right or,List.getElem_append_left or];congr 1;omega
     rw[e3])
    obtain⟨e,he⟩:∃e,ks[q]=e:=⟨_,rfl⟩;rw[he] at hg hf aXm htk;refine aue (e6 hc hg hlt hf (@jK Ex V) jG) ?_;refine aV (((aXm hq0 (nx1+2) (hJ _ _ _ _ hj1 or) ((aXu.le hle1).up or)).wk (Hp.le_trans hle1 (leo aXu))).dom.mono ?_);rintro v h2 nx2 aAS ⟨hv,aGf,_⟩;rcases hv with⟨rfl,hv⟩|⟨rfl,hv⟩
    ·unfold bW;refine Zn ?_;refine aue hw ?_;rw[←hQ];refine aF (q+1) or ⟨hlt,aGf,h2,?_,Ka _⟩ (by simp only[WkL,aD,jH,jI,jJ,go_sem,reduceIte,jA,jB,jC,jD,reduceCtorEq,jE,jF]);rw[htk,Kg,←Ko];exact hv
    unfold bW;refine Zn ?_;refine au ?_;rw[←hQ];refine au ?_;exact aC h2 (Ka _) (.inr ⟨rfl,hv⟩)
   have hc:decide ((q:Int)<(ks.length:Int))=false:=dcf;refine aue hc ?_;rw[←hQ];refine au ?_;rw[Ke or] at hj1;exact aC hq0 hle1 (.inl ⟨rfl,hj1⟩)
theorem FW(e:Ex)(he:xq e=true):yc Tryz.prog 237 [.ept (.agg 6) [e.v] 0 0] Hp.none (e.ts.map fun t=>[t.v]):=by
 intro yn J D h1 h2 h3 h4 h nx hj hdm;refine aB L.aWu fun hd=>?_;obtain⟨ev,hev⟩:∃ev,e.v=ev:=⟨_,rfl⟩;have hf:=Ex.aAC e;have c:=zJ h2 h3 h4 _ e (Kh _) ⟨20,he⟩ 0 (fun j hj=>by simp[Ki hj]) h nx hj hdm;rw[hev] at hf c⊢;refine ZK ?_;refine aue hf ?_;refine aV (c.mono ?_);rintro v h' nx' hle (⟨rfl,hv⟩|⟨rfl,hv⟩)
 ·unfold bW;refine Zn ?_;refine au ?_;refine⟨h',Ka _, .inl ?_⟩;simp only[jK];rw[Kq] at hv;exact hv
 unfold bW;refine Zn ?_;refine au ?_;exact⟨h',Ka _, .inr hv⟩
theorem vO(e:Ex)(h:Hp):aM Tryz.prog 192 [e.v] h (.fn (.func 237) [] [.ept (.agg 6) [e.v] 0 0]):=by
 have hf:=Ex.aAC e;refine oY (fun L hL=>by simpa [V.names,bM] using hL) fun h' nx hh=>aB L.aXQ fun hd=>?_;obtain⟨ev,hev⟩:∃ev,e.v=ev:=⟨_,rfl⟩;rw[hev] at hf⊢;refine ZK ?_;refine bS ?_;generalize hR:mD _ _=R;refine aue hf ?_;rw[←hR];refine dA (mO (t:=1) (n:=nx) (k:= .agg 6) (i:=0) (o:=0) (es:=[ev]) rfl (by simp only[go_sem,reduceIte,jA,jB,jC,jD,reduceCtorEq,jE,jF])) ?_;refine Zn ?_;refine au ?_;refine aC h' (fun m b e=>?_) ⟨rfl,rfl⟩;have:=hd _ _ e;simp only[Hp.del,Kc];rw[if_neg or,if_neg or];exact e
theorem Gp:aE Tryz.prog 191=some (LB.Collect (.agg 4) 236):=Zz
theorem Gt:aE Tryz.prog 236=some (LB.aBK (.agg 4) (.agg [.str ⟨#[]⟩, .int .i64 0, .int .i64 0, .str ⟨#[]⟩]) 48):=Zz
theorem Gs:aE Tryz.prog 190=some (LB.Concat (.agg 4) 48 9 235):=Zz
theorem Gn:aE Tryz.prog 235=some (LB.Grow (.agg 4) (.agg [.str ⟨#[]⟩, .int .i64 0, .int .i64 0, .str ⟨#[]⟩]) 48 9):=Zz
theorem rL{P:Program}{f:FuncId}{args:List V}{h:Hp}{k:Sh}{es:List V}(hn:∀L,bM L es)(c:∀h' nx,h.has h'→aR P f args h' nx fun v h'' _=>rn nx h' k es v h''):aM P f args h (lst k es):=by
 refine fW (fun L=>cV hn L) fun h' nx hh=>?_;have c2:=aR.aGO (k:=k) (G:=fun es'=>es'=es) ((c h' nx hh).mono fun v h'' _ _ hv=>⟨_,rfl,hv⟩);refine⟨c2.1,fun K cargs hlv hr hv=>((c2.mono (R':=fun v' h'' _=>v'.loose=lst k es∧h'.le h'') ?_).2 K cargs hlv hr hv)⟩;rintro v h'' nx' hnx ⟨es',rfl,hf⟩;exact⟨hf.loose,hf.le (fun m b hm=>hlv m (hr.lt m b hm))⟩
theorem qP(e:Ex)(he:xq e=true)(h:Hp):aM Tryz.prog 191 [.fn (.func 237) [] [.ept (.agg 6) [e.v] 0 0]] h (lst (.agg 4) (e.ts.map Tr.v)):=by
 refine rL (fun L=>bF (Tr.aAN L) _) fun h' nx hh=>?_;have hl:=oC he;refine(xc Tr.v Tr.aAC Gp Gt rfl or _ _ Hp.none e.ts (FW e he) or h' nx (bH _)).mono ?_;rintro v h'' nx' _ (⟨h1,h2,h3⟩|⟨h1,id,h2,h3,h4⟩)
 ·rw[h1];exact .inl ⟨rfl,h2,h3⟩
 exact .inr ⟨by simpa using h1,id,h2,by rw[h3,jK],h4⟩
theorem rp(own o1 o2 o3:Own)(a b c:List Tr)(hl:a.length+b.length+c.length≤10000000)(h:Hp):aM Tryz.prog 190 [.sl .leaf own [trs o1 a,trs o2 b,trs o3 c]] h (lst (.agg 4) ((a++(b++c)).map Tr.v)):=by
 refine rL (fun L=>bF (Tr.aAN L) _) fun h' nx hh=>?_;have hT:cN [(o1,a.map Tr.v),(o2,b.map Tr.v),(o3,c.map Tr.v)]=(a++(b++c)).map Tr.v:=by simp[cN]
 have c:=rf Gs Gn or own [(o1,a.map Tr.v),(o2,b.map Tr.v),(o3,c.map Tr.v)] Zm (by rw[hT];simp;omega) h' nx;exact c.mono fun v h'' _ _ hv=>by rw[hT] at hv;exact hv
end Go.Proofs.YtlhedpgobaellaaGreatDoor
namespace Go.Proofs.YtlhedpgobaellaaGreatDoor
open Go.RowKit Go.Sort
attribute [local irreducible] IntKind.wrap
theorem aun{G B p:Prop}(E:p)(k:B)(h:p→PLift B→G:=by
 intro E k
 (repeat' (first|(with_reducible first|refine stp ?_|refine cQ (by decide) ?_)|((first|(with_reducible refine qD ?_;first|refine nG rfl ?_ ?_|refine aH (C1 _) rfl (aI _) ?_|refine aH (C2 _) rfl (aI _) ?_|refine aH (C3 _) rfl (aI _) ?_|refine aH (C4 _) rfl (aI _) ?_|refine aH C5 rfl (aI _) ?_|refine aH C6 rfl (aI _) ?_|(first|refine gO rfl ?_|refine gP rfl ?_)|refine eQ rfl ?_)|(with_reducible refine qI ?_;first|refine nP rfl ?_ ?_|refine bR (D1 _) rfl (bH _) ?_|refine bR (D2 _) rfl (bH _) ?_|refine bR (D3 _) rfl (bH _) ?_|refine bR (D4 _) rfl (bH _) ?_|refine bR (D5 _) rfl (bH _) ?_|refine bR (D6 _) rfl (bH _) ?_|refine il rfl rfl (by decide) (by(simp only[eK,go_sem,reduceIte,jA,jB,jC,jD,reduceCtorEq,jE,jF])<;>try omega) (by simp only[go_sem,reduceIte,jA,jB,jC,jD,reduceCtorEq,jE,jF]) (by simp only[go_sem,reduceIte,jA,jB,jC,jD,reduceCtorEq,jE,jF]) (by simp only[E,go_sem,reduceIte,jA,jB,jC,jD,reduceCtorEq,jE,jF]) ?_|(first|refine gR rfl ?_|refine gS rfl ?_)|refine eS rfl ?_|refine kA (kQ ?_)|refine kA (nN ?_))|(with_reducible refine qK ?_;refine kL rfl ?_))<;>try simp only[E,jK,go_sem,reduceIte,jA,jB,jC,jD,reduceCtorEq,jE,jF])|(with_reducible refine qH ?_;refine lH rfl ?_)|omega))
 exact k.down):G:=h E ⟨k⟩
def OwL(h:Hp)(n0:Nat)(k:Sh)(es:List V)(v:V):Prop:=(es=[]∧v= .sl k .nil [])∨(es≠ []∧∃id,n0≤id∧v= .rs id k 0 es.length∧h id=some (.arr k es))
theorem OwL.le{h h':Hp}{n0:Nat}{k:Sh}{es:List V}{v:V}(o:OwL h n0 k es v)(hle:h.le h'):OwL h' n0 k es v:=o.imp id fun⟨a,i,b,c,d⟩=>⟨a,i,b,c,hle _ _ d⟩
theorem C8(n:Nat)(l:List ByteArray)(hl:l.length≤1000000000)(x:ByteArray)(h:Hp)(hn:h n=some (.arr .leaf (l.map V.str))):aM Tryz.prog 125 [.rs n .leaf 0 l.length, .str x] h (.int .i64 (bN (fun y=>decide (x=y)) l)):=by
 refine aJ (fun L=>trivial) fun h' nx hh=>aB L.aR9 fun hd=>?_;refine ZK ?_;have hn1:=hh _ _ hn rfl;have hn2:n<nx:=hd _ _ hn1;refine aue trivial ?_;refine aP (fun i:Nat=>aD 19 0 [(0, .rs n .leaf 0 l.length),(1, .str x),(7, .int .i64 l.length),(8, .int .i64 i)]) (fun i hp nx1=>i≤l.length∧hp=h'∧∀y∈l.take i,decide (x=y)=false) (fun i=>l.length-i) 0 ⟨Kk _,rfl,Zm⟩ (by simp only[WkL,aD,jH,jI,jJ,go_sem,reduceIte,jA,jB,jC,jD,reduceCtorEq,jE,jF]) ?_;rintro i hp nx1 ⟨hi,rfl,hno⟩;generalize hQ:aZ _ _ _ _ _=Q0;refine Zk ?_;rcases Kf i l.length with hlt|hge
 ·have hc:decide ((i:Int)<(l.length:Int))=true:=dct;have hg:=aL V.str l i hlt;have hw:IntKind.i64.wrap ((i:Int)+1)=((i+1:Nat):Int):=wrp;have hbe:=dV x l[i];have z0:0+i=i:=Kq _;cases k:decide (x=l[i]) with
  |true=>
   rw[k] at hbe;refine aue (e8 hc hg hbe hlt (jG i) hn1 z0 (@jK ByteArray V)) ?_;rw[←hQ];refine au ?_;have:l.findIdx? (fun y=>decide (x=y))=some i:=by
    rw[List.findIdx?_eq_some_iff_getElem];refine⟨hlt,k,fun j hj=>?_⟩;have:=hno l[j] (List.mem_take_iff_getElem.2 ⟨j,or,rfl⟩);simp[this]
   exact aC hp (leo hd) ⟨by simp only[bN,this];rfl,rfl⟩
  |false=>
   rw[k] at hbe;refine aue (e9 hc hg hbe hlt (jG i) hw hn1 z0 (@jK ByteArray V)) ?_;rw[←hQ];refine aF (i+1) or ⟨or,rfl,fun y hy=>?_⟩ (by simp only[WkL,aD,jH,jI,jJ,go_sem,reduceIte,jA,jB,jC,jD,reduceCtorEq,jE,jF]);rw[Kd hlt,List.mem_append,List.mem_singleton] at hy;rcases hy with hy|rfl
   ·exact hno y hy
   exact k
 have hc:decide ((i:Int)<(l.length:Int))=false:=dcf;refine aue hc ?_;rw[←hQ];refine au ?_;have hi':i=l.length:=or;rw[hi',List.take_length] at hno;have:l.findIdx? (fun y=>decide (x=y))=none:=by
  rw[List.findIdx?_eq_none_iff];exact fun y hy=>hno y hy
 exact aC hp (leo hd) ⟨by simp only[bN,this];rfl,rfl⟩
theorem jy{h:Hp}{n0:Nat}{l:List ByteArray}{v:V}(hv:OwL h n0 .leaf (l.map V.str) v)(hl:l.length≤1000000000)(x:ByteArray):aM Tryz.prog 76 [v, .str x] h (.bool (cR x l)):=by
 rcases hv with⟨h1,rfl⟩|⟨h1,id,h2,rfl,h3⟩
 ·have:l=[]:=by simpa using h1
  subst this;exact kB .nil [] Zm x h
 refine aJ (fun L=>trivial) fun h' nx hh=>aB L.aYG fun hd=>?_;have C5:=C8 id l hl x h' (hh _ _ h3 rfl);simp only[jK,jL,jM,jA,jB,jN,jO,jP,jQ,V.undef];refine au ?_;exact aC h' (leo hd) ⟨by unfold cR;rw[←rY];rfl,rfl⟩
theorem yD(o:Own)(ts:List Tr)(ht:ts.length≤100000000)(l:List ByteArray)(hl:l.length≤100000000)(v0:V)(h:Hp)(nx n0:Nat)(hn0:n0≤nx)(hv0:OwL h n0 .leaf (l.map V.str) v0):
 aR Tryz.prog 123 [v0,trs o ts] h nx fun v h' nx'=>OwL h' n0 .leaf ((nmL l ts).map V.str) v∧Kb n0 h h':=by
 refine aB L.bAM fun hd=>?_;refine ZK ?_;refine aue (e2 trs.eq_1 (@jK Tr V)) ?_
 refine aP (fun q:Nat×V×List ByteArray=>aD 30 0 [(0,q.2.1),(7, .sl (.agg 4) o (ts.map Tr.v)),(8, .int .i64 ts.length),(9, .int .i64 q.1)])
  (fun q hp nx1=>q.1≤ts.length∧nx≤nx1∧aS hp nx1∧Kb n0 h hp∧OwL hp n0 .leaf (q.2.2.map V.str) q.2.1∧q.2.2=nmL l (ts.take q.1)∧q.2.2.length≤l.length+q.1)
  (fun q=>ts.length-q.1) (0,v0,l) ⟨Kk _,Kh _,hd,Hp.same.aAr,hv0,rfl,Kh _⟩ (by simp only[WkL,aD,jH,jI,jJ,jK,go_sem,reduceIte,jA,jB,jC,jD,reduceCtorEq,jE,jF]) ?_
 rintro⟨i,v,l1⟩ hp nx1 ⟨hi,hnx,hdm,hsm,aA2,hl1,hlen⟩;generalize hQ:aZ _ _ _ _ _=Q0;dsimp only at hi aA2 hl1 hlen;refine Zk ?_;rcases Kf i ts.length with hlt|hge
 ·have hc:decide ((i:Int)<(ts.length:Int))=true:=dct;have hg:=aL Tr.v ts i hlt;have hw:IntKind.i64.wrap ((i:Int)+1)=((i+1:Nat):Int):=wrp;have aAW:nmL l (ts.take (i+1))=nmT l1 ts[i]:=by rw[Kd hlt,Gf,←hl1];rfl
  generalize ts[i]=T at hg aAW;have hTf:=Tr.aAC T;have h0:=vT T.x;have hne:(!(T.x.toList==(⟨#[]⟩:ByteArray).toList))= !decide (T.x.size=0):=by rw[h0]
  unfold nmT at aAW;by_cases hz:T.x.size=0
  ·have g1:decide (T.x.size=0)=true:=dct;rw[if_neg (by simp[hz])] at aAW;refine aue (e9 hc hg hlt Tr.v.eq_1 h0 g1 hw (@jK Tr V) jG) ?_;rw[←hQ];exact aF (i+1,v,l1) Zw ⟨hlt,or,dmo hdm,kep hsm,aA2.le (leo hdm),aAW.symm,Zw⟩ (by simp only[WkL,aD,jH,jI,jJ,go_sem,reduceIte,jA,jB,jC,jD,reduceCtorEq,jE,jF])
  have g1:decide (T.x.size=0)=false:=dcf;have C:=jy aA2 or T.x;cases hb:cR T.x l1 with
  |true=>
   rw[hb] at C;rw[if_neg (by simp[hb])] at aAW;refine aue (e8 hc hg hlt Tr.v.eq_1 h0 g1 (@jK Tr V) jG) ?_;refine aH C rfl (yR (leo hdm)) ?_;refine Zn ?_;refine aue (e2 hw hc) ?_;rw[←hQ];exact aF (i+1,v,l1) Zw ⟨hlt,or,dmo hdm,kep hsm,aA2.le (leo hdm),aAW.symm,Zw⟩ (by simp only[WkL,aD,jH,jI,jJ,go_sem,reduceIte,jA,jB,jC,jD,reduceCtorEq,jE,jF])
  |false=>
   rw[hb] at C;rw[if_pos (by simp[hb,hz])] at aAW;refine aue (e8 hc hg hlt Tr.v.eq_1 h0 g1 (@jK Tr V) jG) ?_;refine aH C rfl (yR (leo hdm)) ?_;refine Zn ?_;rcases aA2 with⟨q1,rfl⟩|⟨q1,id,q2,rfl,q3⟩
   ·have hl0:l1=[]:=by simpa using q1
    subst hl0;refine aun (e4 hc Tr.v.eq_1 (@jK Tr V) hw) ?_;refine fO rfl rfl Zm (by simp only[jL,jM];omega) ?_;refine Zn ?_;refine aue hw ?_;rw[←hQ];refine aF (i+1, .rs (nx1+3) .leaf 0 1,[T.x]) Zw ⟨hlt,or,dmo hdm,kep hsm, .inr ⟨Zm,nx1+3,or,Zm,by simp only[go_sem,reduceIte,jA,jB,jC,jD,reduceCtorEq,jE,jF]⟩,aAW.symm,by simp;omega⟩ (by simp only[WkL,aD,jH,jI,jJ,go_sem,reduceIte,jA,jB,jC,jD,reduceCtorEq,jE,jF])
   have hid:id<nx1:=hdm _ _ q3;have hlm:(l1.map V.str).length=l1.length:=jK ..;have htk:(l1.map V.str).take l1.length=l1.map V.str:=Ke Zm;refine aue (e10 hc Tr.v.eq_1 (@jK Tr V) hw q3 hid hlm htk hlen (@jK ByteArray V)) ?_;rw[←hQ];refine aF (i+1, .rs (nx1+3) .leaf 0 (l1.length+1),l1++[T.x]) Zw ⟨hlt,or,dmo hdm,kep hsm, .inr ⟨Zm,nx1+3,or,Zm,by simp only[List.map_append,List.map_cons,List.map_nil,go_sem,reduceIte,jA,jB,jC,jD,reduceCtorEq,jE,jF]⟩,aAW.symm,by simp;omega⟩ (by simp only[WkL,aD,jH,jI,jJ,go_sem,reduceIte,jA,jB,jC,jD,reduceCtorEq,jE,jF])
 have hc:decide ((i:Int)<(ts.length:Int))=false:=dcf;refine aue hc ?_;rw[←hQ];refine au ?_;rw[Ke or] at hl1;exact aC hp (Ka _) ⟨by rw[←hl1];exact aA2,hsm⟩
end Go.Proofs.YtlhedpgobaellaaGreatDoor
namespace Go.Proofs.YtlhedpgobaellaaGreatDoor
open Go.RowKit Go.Sort
attribute [local irreducible] IntKind.wrap
theorem aR.down{P:Program}{f:FuncId}{args:List V}{h:Hp}{nx:Nat}{R R':V→Hp→Nat→Prop}(c:aR P f args h nx R)(hc:∀v h' nx',nx≤nx'→aS h' nx'→R v h' nx'→∃h2,h2.le h'∧R' v h2 nx'):aR P f args h nx R':=
 ⟨c.1,fun K cargs hlv hrel hv=>(c.2 K cargs hlv hrel hv).mono fun _ _ ⟨K',v,cv,h',nx',a,b,q,d,e,g,i,j⟩=>by
   obtain⟨h2,k1,k2⟩:=hc v h' nx' i (fun m b hm=>(g m (e.lt m b hm)).1) j;exact⟨K',v,cv,h2,nx',a,b,q,d,e.weaken k1,g,i,k2⟩⟩
theorem ud{P:Program}{f:FuncId}{args:List V}{h:Hp}{k:Sh}{es:List V}(hn:∀L,bM L es)(c:∀h' nx,h.has h'→aR P f args h' nx fun v h'' _=>OwL h'' nx k es v∧Kb nx h' h''):aM P f args h (lst k es):=by
 refine rL hn fun h' nx hh=>⟨(c h' nx hh).1,fun K cargs hlv hrel aBu=>?_⟩;have hd:aS h' nx:=fun m b e=>hlv m (hrel.lt m b e);refine((c h' nx hh).down (R':=fun v h'' _=>rn nx h' k es v h'') ?_).2 K cargs hlv hrel aBu;rintro v h'' nx' hnx hdm ⟨⟨h1,h2⟩|⟨h1,id,h2,h3,h4⟩,hs⟩
 ·exact⟨h',hs.le hd (Ka _), .inl ⟨h1,h2,rfl⟩⟩
 refine⟨h'.set id (.arr k es),fun m b e=>?_, .inr ⟨h1,id,h2,h3,rfl⟩⟩;simp only[Kc] at e;split at e
 ·rename_i hm;rw[hm,h4];exact e
 exact hs.le hd (Ka _) m b e
theorem ae(l:Li)(hl:bO l=true)(h:Hp):aM Tryz.prog 124 [l.v] h (lst (.agg 4) (l.ts.map Tr.v)):=by
 refine aJ (fun L=>cV (fun L=>bF (Tr.aAN L) _) L) fun h' nx hh=>aB L.bAL fun hd=>?_;have b0:=kH hl;obtain⟨b1,b2,b3⟩:=gH hl;have b4:=oC b2;have b5:=oC b3;obtain⟨o2,ho2⟩:=bX (.agg 4) (l.x.ts.map Tr.v);obtain⟨o3,ho3⟩:=bX (.agg 4) (l.y.ts.map Tr.v);have D1:∀h:Hp,aM Tryz.prog 192 [.agg [.int .i64 l.x.op, .str l.x.t.x, .int .i64 l.x.t.w.k, .int .i64 l.x.t.w.n, .str l.x.t.w.s, .sl (.agg 6) l.x.o (l.x.kids.map Ex.v)]] h (.fn (.func 237) [] [.ept (.agg 6) [l.x.v] 0 0]):=fun h=>(show V.agg l.x.cs=_ from rfl)▸Ex.aAq l.x▸vO l.x h;have D3:∀h:Hp,aM Tryz.prog 192 [.agg [.int .i64 l.y.op, .str l.y.t.x, .int .i64 l.y.t.w.k, .int .i64 l.y.t.w.n, .str l.y.t.w.s, .sl (.agg 6) l.y.o (l.y.kids.map Ex.v)]] h (.fn (.func 237) [] [.ept (.agg 6) [l.y.v] 0 0]):=fun h=>(show V.agg l.y.cs=_ from rfl)▸Ex.aAq l.y▸vO l.y h;have D2:∀h:Hp,aM Tryz.prog 191 [.fn (.func 237) [] [.ept (.agg 6) [l.x.v] 0 0]] h (.sl (.agg 4) o2 (l.x.ts.map Tr.v)):=fun h=>ho2▸qP l.x b2 h;have D4:∀h:Hp,aM Tryz.prog 191 [.fn (.func 237) [] [.ept (.agg 6) [l.y.v] 0 0]] h (.sl (.agg 4) o3 (l.y.ts.map Tr.v)):=fun h=>ho3▸qP l.y b3 h;have D5:∀(n:Nat) (h:Hp),aM Tryz.prog 190 [.sl .leaf (.tok n) [trs l.a.o l.a.l,trs o2 l.x.ts,trs o3 l.y.ts]] h (lst (.agg 4) (l.ts.map Tr.v)):=fun n h=>rp _ _ _ _ _ _ _ or h;obtain⟨X,hX⟩:∃X,l.x.v=X:=⟨_,rfl⟩;obtain⟨Y,hY⟩:∃Y,l.y.v=Y:=⟨_,rfl⟩;rw[hX] at D1 D2;rw[hY] at D3 D4;rw[Li.aAq];refine ZK ?_;have D5:=D5 (nx+12);refine aue trs.eq_1 ?_;exact aC h' (leo hd) ⟨rfl,rfl⟩
theorem zN(o:Own)(ts:List Tr)(ht:ts.length≤100000000)(h:Hp):aM Tryz.prog 123 [.sl .leaf .nil [],trs o ts] h (lst .leaf ((nmL [] ts).map V.str)):=by
 exact ud (fun L=>bF (f:=V.str) (fun x=>trivial) _) fun h' nx hh=>yD o ts ht [] Zm _ h' nx nx (Kh _) (.inl ⟨rfl,rfl⟩)
theorem xP(l:Li)(hl:bO l=true)(h:Hp):aM Tryz.prog 75 [l.v] h (lst .leaf (l.vars.map V.str)):=by
 refine aJ (fun L=>cV (fun L=>bF (f:=V.str) (fun x=>trivial) _) L) fun h' nx hh=>aB L.bA3 fun hd=>?_;have b0:=kH hl;obtain⟨o2,ho2⟩:=bX (.agg 4) (l.ts.map Tr.v);have C1:=fun h=>ho2▸ae l hl h;have C2:=fun h=>zN o2 l.ts or h;obtain⟨X,hX⟩:∃X,l.v=X:=⟨_,rfl⟩;have hf:=Li.aAC l;rw[hX] at C1 hf⊢;refine ZK ?_;refine aue hf ?_;exact aC h' (leo hd) ⟨rfl,rfl⟩
theorem BG(e:Ex)(he:xq e=true)(h:Hp):aM Tryz.prog 230 [e.v] h (lst .leaf ((nmL [] e.ts).map V.str)):=by
 refine aJ (fun L=>cV (fun L=>bF (f:=V.str) (fun x=>trivial) _) L) fun h' nx hh=>aB L.aWy fun hd=>?_;have b0:=oC he;obtain⟨o2,ho2⟩:=bX (.agg 4) (e.ts.map Tr.v);have C1:=fun h=>vO e h;have C2:=fun h=>ho2▸qP e he h;have C3:=fun h=>zN o2 e.ts or h;obtain⟨X,hX⟩:∃X,e.v=X:=⟨_,rfl⟩;have hf:=Ex.aAC e;rw[hX] at C1 C2 hf⊢;refine ZK ?_;refine aue hf ?_;exact aC h' (leo hd) ⟨rfl,rfl⟩
theorem AK(r:Ru)(hr:dF r=true)(h:Hp)(nx:Nat):aR Tryz.prog 183 [r.v] h nx fun v h' nx'=>OwL h' nx .leaf (r.vars.map V.str) v∧Kb nx h h':=by
 refine aB L.aXW fun hd=>?_;obtain⟨b1,b2,b3⟩:=dE hr;have hlen:=sf hr;refine ZK ?_;refine aue (e3 Ru.v.eq_1 trs.eq_1 (@jK Li V)) ?_;refine aV ((yD r.h.o r.h.l or [] Zm _ _ (nx+1) (nx+1) or (.inl ⟨rfl,rfl⟩)).dom.mono ?_);rintro v1 h1 nx1 hle1 ⟨⟨ho1,hs1⟩,hd1,_⟩;unfold bW;refine Zn ?_;have hb1:h1 nx=some (.arr (.agg 6) [.agg [.str r.h.r, .sl (.agg 4) r.h.o (r.h.l.map Tr.v), .int .i64 r.g, .int .i64 r.c, .sl (.agg 17) r.o (r.b.map Li.v), .int .i64 r.at_]]):=by rw[hs1 nx or];simp only[go_sem,reduceIte,jA,jB,jC,jD,reduceCtorEq,jE,jF]
 have n1:nx<nx1:=hd1 _ _ hb1;refine aue (e3 hb1 n1 (@jK Li V)) ?_;have hs0:Kb nx h h1:=fun m hm=>by rw[hs1 m or];simp only[Kc];rw[if_neg or]
 refine aP (fun q:Nat×V=>aD 23 0 [(3,q.2),(11, .sl (.agg 17) r.o (r.b.map Li.v)),(12, .int .i64 r.b.length),(13, .int .i64 q.1)])
  (fun q hp nx2=>q.1≤r.b.length∧nx1≤nx2∧aS hp nx2∧Kb nx h hp∧OwL hp (nx+1) .leaf ((zH (r.b.take q.1) (nmL [] r.h.l)).map V.str) q.2)
  (fun q=>r.b.length-q.1) (0,v1) ⟨Kk _,Zw,dmo hd1,hs0,ho1⟩ (by simp only[WkL,aD,jH,jI,jJ,jK,go_sem,reduceIte,jA,jB,jC,jD,reduceCtorEq,jE,jF]) ?_
 rintro⟨i,v⟩ hp nx2 ⟨hi,hnx,hdm,hsm,aA2⟩;generalize hQ:aZ _ _ _ _ _=Q0;dsimp only at hi aA2;refine Zk ?_;rcases Kf i r.b.length with hlt|hge
 ·have hc:decide ((i:Int)<(r.b.length:Int))=true:=dct;have hg:=aL Li.v r.b i hlt;have hw:IntKind.i64.wrap ((i:Int)+1)=((i+1:Nat):Int):=wrp;have aAW:=ym r.b (nmL [] r.h.l) i hlt;have hrl:=b3 r.b[i] (Kj _);have hlv:=hlen i;generalize r.b[i]=T at hg aAW hrl;have b0:=kH hrl;obtain⟨o2,ho2⟩:=bX (.agg 4) (T.ts.map Tr.v);have C1:=fun h=>ho2▸ae T hrl h;obtain⟨X,hX⟩:∃X,T.v=X:=⟨_,rfl⟩;have hTf:=Li.aAC T;rw[hX] at hg C1 hTf;refine aue (e6 hc hg hlt hTf (@jK Li V) jG) ?_;refine aV ((yD o2 T.ts or _ or v _ (nx2+2) (nx+1) or (aA2.le (leo hdm))).dom.mono ?_);rintro v2 h2 nx3 aAS ⟨⟨ho3,hs3⟩,hd3,_⟩;unfold bW;refine Zn ?_;refine aue hw ?_;rw[←hQ];refine aF (i+1,v2) Zw ⟨hlt,or,dmo hd3,fun m hm=>?_,by rw[aAW];exact ho3⟩ (by simp only[WkL,aD,jH,jI,jJ,go_sem,reduceIte,jA,jB,jC,jD,reduceCtorEq,jE,jF]);rw[hs3 m or,←hsm m hm];simp only[Kc];rw[if_neg or,if_neg or]
 have hc:decide ((i:Int)<(r.b.length:Int))=false:=dcf;refine aue hc ?_;rw[←hQ];refine au ?_;rw[Ke or] at aA2;refine aC hp (Ka _) ⟨aA2.imp id fun⟨a,i,b,c,d⟩=>⟨a,i,or,c,d⟩,hsm⟩
end Go.Proofs.YtlhedpgobaellaaGreatDoor
