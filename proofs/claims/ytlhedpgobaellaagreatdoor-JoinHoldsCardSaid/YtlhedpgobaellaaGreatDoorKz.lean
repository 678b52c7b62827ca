/-
Texts of this proof,one behind the other. No conditions.
-/
import Derived.Test.YtlhedpgobaellaaGreatDoorKev
import Derived.Test.YtlhedpgobaellaaGreatDoorKx
open Go.Proofs.YtlhedpgobaellaaGreatDoor.Hp renaming le_refl→Ka,set→Kb,none→Kd,same→Ke,del→Kf
open List renaming forall_mem_cons→Kc,take_succ_eq_append_getElem→Kg,length_nil→Ki,drop_eq_getElem_cons→Ko,length_cons→Kp,drop_of_length_le→Kq,take_of_length_le→Ks,getElem_mem→Kt,getD_eq_getElem?_getD→Ku,length_take→Ky,take_length→Kz,take_append_of_le_length→KA,replicate_succ→KB,replicate_zero→KC,getElem?_eq_getElem→KF,cons_append→KG,nil_append→KJ,length_append→KO,mem_map→KR,append_assoc→KU,not_mem_nil→KV,append_nil→KW,length_map→KX,drop_drop→Qa
open Nat renaming lt_or_ge→Kh,zero_le→Kk,le_refl→Km,reduceAdd→Kv,reduceSub→Kw,reduceLeDiff→KH,reduceEqDiff→KI,le_trans→KS,reduceLT→KT,add_zero→Qd,zero_add→Qe,mul_one→Qf
open Go.IntKind renaming wrap→Kj
open Bool renaming and_eq_true→Kx,false_eq_true→KQ,not_false→KZ,not_true→Qc
open Array renaming getD_eq_getD_getElem?→KD,getElem?_append_left→KE,getElem?_eq_none→KL,getElem?_modify→KN
open Int renaming reduceToNat→KK
open Go renaming undef→KM
open Option renaming isSome_none→KP
open Go.World renaming shape?→KY,cell?→Qb
open Nat renaming reduceAdd→jA,reduceSub→jB,reduceLT→jC,reduceLeDiff→jD,reduceEqDiff→jE
open Int renaming reduceToNat→jF,toNat_natCast→jG,natCast_add→jH,natCast_one→jI,natCast_zero→jJ
open List renaming length_map→jK
set_option linter.all false
set_option maxHeartbeats 8000000
namespace Go.Proofs.YtlhedpgobaellaaGreatDoor
open Go.RowKit
set_option maxRecDepth 100000
def evT:List (Nat×LFn):=[(38,L.g17),(84,L.g41),(85,L.g42),(132,L.g71),(131,L.g70),(133,L.g72),(134,L.g73),(135,L.g74),(136,L.g75),(195,L.aVl),(196,L.aVk),(198,L.aVi),(197,L.aVj),(200,L.aVg),(201,L.aVf),(202,L.aVe),(125,L.g64),(199,L.aVh),(243,L.aVX),(244,L.aVW),(142,L.g81),(242,L.aVY),(260,L.aVT),(204,L.aVd),(259,L.aVU),(276,L.aVP),(179,L.g88),(274,L.aVR),(275,L.aVQ),(94,L.g51),(225,L.aVZ),(269,L.aVS),(285,L.aVO),(143,L.g82),(144,L.g83),(205,L.aVc),(206,L.aVb),(207,L.aVa),(247,L.aVV)]
theorem Fi:∀p∈evT,aE Tryz.prog p.1=some p.2:=by
 refine Kc.2 ⟨L.aYM,?_⟩;refine Kc.2 ⟨L.aX0,?_⟩;refine Kc.2 ⟨L.aXz,?_⟩;refine Kc.2 ⟨L.aXG,?_⟩;refine Kc.2 ⟨L.aXH,?_⟩;refine Kc.2 ⟨L.aXF,?_⟩;refine Kc.2 ⟨L.aXE,?_⟩;refine Kc.2 ⟨L.aXD,?_⟩;refine Kc.2 ⟨L.aXC,?_⟩;refine Kc.2 ⟨L.aUU,?_⟩;refine Kc.2 ⟨L.aUT,?_⟩;refine Kc.2 ⟨L.aUR,?_⟩;refine Kc.2 ⟨L.aUS,?_⟩;refine Kc.2 ⟨L.aUP,?_⟩;refine Kc.2 ⟨L.aUO,?_⟩;refine Kc.2 ⟨L.aUN,?_⟩;refine Kc.2 ⟨L.aRT,?_⟩;refine Kc.2 ⟨L.aUQ,?_⟩;refine Kc.2 ⟨L.aT3,?_⟩;refine Kc.2 ⟨L.aTv,?_⟩;refine Kc.2 ⟨L.aVG,?_⟩;refine Kc.2 ⟨L.aD3,?_⟩;refine Kc.2 ⟨L.aTl,?_⟩;refine Kc.2 ⟨L.aF8,?_⟩;refine Kc.2 ⟨L.aTm,?_⟩;refine Kc.2 ⟨L.aTd,?_⟩;refine Kc.2 ⟨L.aVD,?_⟩;refine Kc.2 ⟨L.aTf,?_⟩;refine Kc.2 ⟨L.aTe,?_⟩;refine Kc.2 ⟨L.aVJ,?_⟩;refine Kc.2 ⟨L.aNp,?_⟩;refine Kc.2 ⟨L.aTh,?_⟩;refine Kc.2 ⟨L.aTc,?_⟩;refine Kc.2 ⟨L.aVF,?_⟩;refine Kc.2 ⟨L.aVE,?_⟩;refine Kc.2 ⟨L.aOA,?_⟩;refine Kc.2 ⟨L.aN9,?_⟩;refine Kc.2 ⟨L.aUI,?_⟩;refine Kc.2 ⟨L.aTs,?_⟩;exact fun _ h=>absurd h KV
def w8:ByteArray:=⟨#[112,40,88,44,32,90,41,32,58,45,32,101,40,88,44,32,89,41,44,32,101,40,89,44,32,90,41,46]⟩
def Fs:List Tk:=[⟨2,⟨#[112]⟩,0⟩,⟨5,⟨#[40]⟩,1⟩,⟨3,⟨#[88]⟩,2⟩,⟨5,⟨#[44]⟩,3⟩,⟨3,⟨#[90]⟩,5⟩,⟨5,⟨#[41]⟩,6⟩,⟨5,⟨#[58,45]⟩,8⟩,⟨2,⟨#[101]⟩,11⟩,⟨5,⟨#[40]⟩,12⟩,⟨3,⟨#[88]⟩,13⟩,⟨5,⟨#[44]⟩,14⟩,⟨3,⟨#[89]⟩,16⟩,⟨5,⟨#[41]⟩,17⟩,⟨5,⟨#[44]⟩,18⟩,⟨2,⟨#[101]⟩,20⟩,⟨5,⟨#[40]⟩,21⟩,⟨3,⟨#[89]⟩,22⟩,⟨5,⟨#[44]⟩,23⟩,⟨3,⟨#[90]⟩,25⟩,⟨5,⟨#[41]⟩,26⟩,⟨5,⟨#[46]⟩,27⟩]
theorem Fv:iX iH w8 (cG w8 0)=(Fs,none):=Zz
def FZ:Tr:=⟨⟨#[88]⟩,wV⟩
def FY:Tr:=⟨⟨#[89]⟩,wV⟩
def FX:Tr:=⟨⟨#[90]⟩,wV⟩
def Ev:Ex:= .mk 0 xi .nil []
def Bk:Ru:=⟨⟨⟨#[112]⟩, .tok 73,[FZ,FX]⟩,0,0, .tok 270,[⟨1,⟨⟨#[101]⟩, .tok 161,[FZ,FY]⟩,0,Ev,Ev,11⟩,⟨1,⟨⟨#[101]⟩, .tok 255,[FY,FX]⟩,0,Ev,Ev,20⟩],0⟩
def F2:s8:=[(130,[.str w8], .tup [.sl (.agg 3) .free (Fs.map Tk.v), .int .i64 0, .nilIface])]
theorem Ew:∀p∈F2,aL Tryz.prog p.1 p.2.1 Kd p.2.2:=by
 refine Kc.2 ⟨?_,fun _ h=>absurd h KV⟩;have h:=wD w8 Kd;have e:rI w8= .tup [.sl (.agg 3) .free (Fs.map Tk.v), .int .i64 0, .nilIface]:=by
  unfold rI;rw[if_neg ZM,Fv];rfl
 rw[e] at h;exact h
def F3:Bool:=match evF evT F2 1000 60 38 [.str w8] [] 0 with
 |some (.tup [r,_,e],_,_)=>fh [r,e] [Bk.v, .nilIface]
 |_=>false
theorem Fu:F3=true:=Zz
theorem Dn:∃x h a,aR Tryz.prog 38 [.str w8] Kd 0 fun v h' nx'=>v= .tup [Bk.v,x, .nilIface]∧h'=h∧nx'=a:=by
 have e:=Fu;unfold F3 at e;split at e
 ·rename_i r x e' l a he;have c:=CL Fi Ew 60 _ _ _ _ _ _ _ he;have q:=qT e;injection q with q1 q2;injection q2 with q2 q3;subst q1;subst q2;exact⟨x,lk l,a,c⟩
 cases e
end Go.Proofs.YtlhedpgobaellaaGreatDoor
namespace Go.Proofs.YtlhedpgobaellaaGreatDoor
open Go.RowKit Go.Sort
attribute [local irreducible] Kj
theorem Da{p:TR}(h:p.ok):cpO p=p:=by
 obtain⟨o,t⟩:=p;rcases h with⟨rfl,rfl⟩|rfl<;>rfl
theorem qb:aE Tryz.prog 111=some (LB.aEK .leaf 24):=Zz
theorem AH(v:V)(h:Hp):aL Tryz.prog 246 [v] h (.bool true):=by
 refine aI (fun L=>trivial) fun h' nx hh=>aB L.aTt fun hd=>?_;refine ZK ?_;refine au ?_;exact aC h' (Ka _) ⟨rfl,rfl⟩
abbrev kpV:V:= .fn (.func 246) [] []
abbrev Dm(v:V):List V:=[.ept .leaf [v] 0 0, .ept .leaf [kpV] 0 0]
theorem Ai(v:V)(hl:v.aAE=true)(hn:∀L,v.names L)(h:Hp):aL Tryz.prog 203 [v] h (.fn (.func 261) [] (Dm v)):=by
 have hK:∀h,aL Tryz.prog 245 [v,kpV] h (.fn (.func 261) [] (Dm v)):=fun h=>by
  refine tK (fun L _=>⟨trivial,⟨hn L,trivial⟩,⟨⟨trivial,trivial⟩,trivial⟩,trivial⟩) fun h' nx hh=>aB L.aTu fun hd=>?_;refine ZK ?_;have hf:v.fits .leaf=true:=by rw[gW];exact hl
  refine bK ?_;generalize hR:mT _ _=R;refine aue (e2 hf hl) ?_;rw[←hR];refine dO (lE (t:=2) (n:=nx) (k:= .leaf) (i:=0) (o:=0) (es:=[v]) rfl (by simp only[go_sem,reduceIte,jA,jB,jC,jD,reduceCtorEq,jE,jF])) ?_;refine dO (lE (t:=3) (n:=nx+1) (k:= .leaf) (i:=0) (o:=0) (es:=[kpV]) rfl (by simp only[go_sem,reduceIte,jA,jB,jC,jD,reduceCtorEq,jE,jF])) ?_;refine Zn ?_;refine au ?_;refine aC h' (fun m b e=>?_) ⟨rfl,rfl⟩;have:=hd _ _ e;simp only[Kf,Kb];repeat rw[if_neg or]
  exact e
 refine tK (fun L _=>⟨trivial,⟨hn L,trivial⟩,⟨⟨trivial,trivial⟩,trivial⟩,trivial⟩) fun h' nx hh=>aB L.aUM fun hd=>?_;have C1:=hK;refine ZK ?_;refine au ?_;exact aC h' (Ka _) ⟨rfl,rfl⟩
theorem BI(ar:Int)(zs:List TR)(hr:fB ar zs):s9 Tryz.prog 261 (Dm (vZ ar zs)) Kd (zs.map fun z=>[z.v]):=by
 intro yn J D hbJ hnJ hnD hJ h0 nx0 h0J hd0;simp only[jK];have hz:=hr.len;have hml:(zs.map TR.v).length=zs.length:=jK ..;refine aB L.aL0 fun hd=>?_;obtain⟨o,ho⟩:=fH .leaf (zs.map TR.v);have hnil:o= .nil→zs.map TR.v=[]:=fun e=>by
  rw[e] at ho;cases hm:zs.map TR.v with
  |nil=>rfl
  |cons a b=>rw[hm] at ho;cases ho
 have C1:=fun h=>dg qb or o (zs.map TR.v) (by rw[hml];omega) hnil (fun L=>iU.2 fun v hv=>by obtain⟨z,hz,rfl⟩:=KR.1 hv;exact TR.names (hr.row z hz).2.2 L) h;obtain⟨o2,ho2⟩:∃o2,(V.sl .leaf o (zs.map TR.v)).loose= .sl .leaf o2 (zs.map TR.v):=by cases o<;>exact⟨_,rfl⟩
 rw[ho2] at C1;unfold vZ;rw[ho];refine ZK ?_;refine aue hml ?_
 refine aP (fun i:Nat=>aD 29 0 [(0, .yld yn),(1, .ept .leaf [.ept (.agg 2) [.agg [.int .i64 ar, .sl .leaf o (zs.map TR.v)]] 0 0] 0 0),(2, .ept .leaf [kpV] 0 0),(12, .sl .leaf o2 (zs.map TR.v)),(13, .int .i64 zs.length),(14, .int .i64 i)])
  (fun i hp nx1=>i≤zs.length∧J i hp nx1∧aV hp nx1)
  (fun i=>zs.length-i) 0 ⟨Kk _,h0J,hd0⟩ (by simp only[WkL,aD,jH,jI,jJ,hml,go_sem,reduceIte,jA,jB,jC,jD,reduceCtorEq,jE,jF]) ?_
 rintro i hp nx1 ⟨hi,hj,hdm⟩;generalize hQ:bB _ _ _ _ _=Q0;refine Zk ?_;rcases Kh i zs.length with hlt|hge
 ·have hc:decide ((i:Int)<(zs.length:Int))=true:=dct;have hg:=aO TR.v zs i hlt;have hw:IntKind.i64.wrap ((i:Int)+1)=((i+1:Nat):Int):=wrp;have aCE:=hr.row zs[i] (Kt hlt);have hlen:zs[i].2.length≤6:=by have:=aCE.1;unfold oW at this;simp only[Kx,decide_eq_true_eq] at this;exact this.1
  have hy:=(hJ i (by simpa using hlt) hp nx1 hj hdm).dom;simp only[List.getElem_map] at hy;have C1:=fun h=>zC zs[i] or (fun e=>by rcases aCE.2.2 with⟨_,q⟩|q;exact q;rw[q] at e;cases e) h;rw[Da aCE.2.2] at C1;have hfz:=TR.aAD zs[i];generalize zs[i].v=Z at*;refine aue (e6 hc hg hlt hml jG hfz) ?_;refine cM rfl (AH Z _) rfl (aH _) ?_;refine aue hfz ?_;refine lU rfl ?_;refine(hy.weaken (Ka _)).mono ?_;rintro v h2 nx2 hnx ⟨hq,aGP,_⟩;unfold bT;rcases hq with⟨rfl,hj2⟩|⟨rfl,hD⟩
  ·refine Zn ?_;refine aue hw ?_;rw[←hQ];exact aG (i+1) or ⟨hlt,hj2,aGP⟩ (by simp only[WkL,aD,jH,jI,jJ,hw,go_sem,reduceIte,jA,jB,jC,jD,reduceCtorEq,jE,jF])
  refine Zn ?_;refine au ?_;rw[←hQ];refine au ?_;exact⟨h2,Ka _, .inr hD⟩
 have hc:decide ((i:Int)<(zs.length:Int))=false:=dcf;have hie:i=zs.length:=or;subst hie;refine aue hc ?_;rw[←hQ];refine au ?_;exact⟨hp,Ka _, .inl hj⟩
theorem Ah:s9 Tryz.prog 261 (Dm .nilPtr) Kd []:=by
 intro yn J D hbJ hnJ hnD hJ h0 nx0 h0J hd0;refine aB L.aL0 fun hd=>?_;refine ZK ?_;refine au ?_;exact⟨h0,Ka _, .inl h0J⟩
def ta(r:List (List Tr)×Int)(h:Hp)(nx:Nat)(v:V)(h':Hp):Prop:=∃o ms,v= .tup [.sl .leaf o ms,fM r.2]∧cR h' ms r.1∧∀k,k<nx→h' k=h k
theorem lz(a:Am)(S:List Sr)(x:ByteArray)(hS:∀s∈S,fB s.ar s.zs)(o:Own)(ms:List V)(ls:List (List Tr))(hls:ls.length≤20000)(h:Hp)(nx:Nat)(he:cR h ms ls):
 aR Tryz.prog 139 [a.v, .sl .leaf o ms,tL S x] h nx fun v h' _=>ta (pJ a (dJ S x) [] ls) h nx v h':=by
 refine aB L.aW9 fun hd=>?_;have hd:aV h nx:=hd;have hml:=he.len;have CM:=fun l n es c H hm hE=>sL a l n es c H hm hE;have CH:=fun p H=>rb S x hS p H;have hmk:=sG a (dJ S x);have hAf:a.v.fits (.agg 2)=true:=rfl;obtain⟨RES,aA1⟩:∃R,pJ a (dJ S x) [] ls=R:=⟨_,rfl⟩;rw[aA1];generalize a.v=A at*;generalize tL S x=PT at*;refine ZK ?_;refine aue (e2 hAf hml) ?_
 refine aP (fun q:Nat×Own×List V×List (List Tr)=>aD 38 0 [(1, .sl .leaf o ms),(2,PT),(3, .ptr nx (.agg 2) 0 0),(6, .sl .leaf .nil []),(7, .nilIface),(8, .sl .leaf q.2.1 q.2.2.1),(13, .sl .leaf o ms),(14, .int .i64 ls.length),(15, .int .i64 q.1)])
  (fun q hp nx1=>q.1≤ls.length∧nx<nx1∧aV hp nx1∧Ke nx h hp∧hp nx=some (.arr (.agg 2) [A])∧Acc hp (nx+1) q.2.1 q.2.2.1∧cR h q.2.2.1 q.2.2.2∧pJ a (dJ S x) q.2.2.2 (ls.drop q.1)=RES∧q.2.2.2.length≤q.1)
  (fun q=>ls.length-q.1) (0, .nil,[],[]) ⟨Kk _,Zw,dmo hd,by exact kep Hp.same.aA0,by simp only[go_sem,reduceIte,jA,jB,jC,jD,reduceCtorEq,jE,jF], .inl ⟨rfl,rfl⟩,trivial,aA1,Kk _⟩ (by simp only[WkL,aD,jH,jI,jJ,hml,go_sem,reduceIte,jA,jB,jC,jD,reduceCtorEq,jE,jF]) ?_
 rintro⟨i,oo,om,ol⟩ H nx1 ⟨hi,hnx,hdm,hk,hb,aAr,hE,hmt,hlen⟩;generalize hQ:bB _ _ _ _ _=Q0;dsimp only at hi aAr hE hmt hlen;refine Zk ?_;have hol:=hE.len;have hle:h.le H:=fun k b e=>(hk k (hd _ _ e)).trans e;rcases Kh i ls.length with hlt|hge
 ·have hc:decide ((i:Int)<(ls.length:Int))=true:=dct;obtain⟨n,es,c,hm1,hm2,hm3⟩:=he.get i hlt;have hm1:ms.getD i (.tup [])= .map n:=hm1;have hw:IntKind.i64.wrap ((i:Int)+1)=((i+1:Nat):Int):=wrp;have aCp:i<ms.length:=or;have hm4:H n=some (.mp es c):=hle _ _ hm2;have hn2:n<nx:=hd _ _ hm2;rw[Ko hlt,hmk] at hmt;have hEM:xd h (.map n) ls[i]:=⟨n,es,c,rfl,hm2,hm3⟩;generalize ls[i]=EE at*;have C5:=CM EE n es c H hm4 hm3.at
  have aDx:∀H:Hp,H.aBK oo nx=H nx:=fun H=>qV fun id e=>by have:=aAr.ge id e;omega
  obtain⟨vs,er,hP⟩:∃vs er,cY a EE=(vs,er):=⟨_,_,rfl⟩;rw[hP] at hmt C5;dsimp only at hmt C5;have hve:=eO er;have hn3:n<nx1:=or;by_cases hz:er=0
  ·subst hz;rw[decide_eq_true rfl] at hve;rw[if_neg Zm] at hmt;refine aue (e9 hc hm1 aCp hb hnx hAf hml jG hve) ?_;have C5:=fun H=>CH (okO 0 .free,vs) H;have hTR:TR.v (okO 0 .free,vs)= .sl (.agg 3) (okO 0 .free) (vs.map Vl.v):=rfl;rw[hTR] at C5;have C1:=C5;generalize hB:rB (dJ S x) vs=B at*;cases B with
   |true=>
    rw[if_pos rfl] at hmt;refine aue (e2 hve hw) ?_;rw[←hQ];exact aG (i+1,oo,om,ol) Zw ⟨hlt,hnx,hdm,hk,hb,aAr,hE,hmt,Zw⟩ (by simp only[WkL,aD,jH,jI,jJ,hw,go_sem,reduceIte,jA,jB,jC,jD,reduceCtorEq,jE,jF])
   |false=>
    rw[if_neg Zm] at hmt;have hom:om.length≤1000000:=or;refine aue (e4 hve hw hom aDx) ?_;rw[←hQ];exact aG (i+1,_,om++[.map n],ol++[EE]) Zw ⟨hlt,or,dmo hdm,Fb hk aAr,by simp only[aDx,hb,hnx,go_sem,reduceIte,jA,jB,jC,jD,reduceCtorEq,jE,jF],Acc.new _ Zm or,hE.snoc hEM,hmt,by dsimp only;simp;omega⟩ (by simp only[WkL,aD,jH,jI,jJ,hw,go_sem,reduceIte,jA,jB,jC,jD,reduceCtorEq,jE,jF])
  rw[decide_eq_false hz] at hve;rw[if_pos hz] at hmt;refine aue (e9 hc hm1 aCp hb hnx hAf hml jG hve) ?_;rw[←hQ];refine au ?_;refine aN H (Ka _) ⟨.nil,[],?_,?_,hk⟩
  ·rw[←hmt];rfl
  rw[←hmt];trivial
 have hc:decide ((i:Int)<(ls.length:Int))=false:=dcf;rw[Kq or] at hmt;refine aue hc ?_;rw[←hQ];refine au ?_;refine aN H (Ka _) ⟨oo,om,?_,?_,hk⟩
 ·rw[←hmt];rfl
 rw[←hmt];exact hE.keep hd hk
theorem cR.mp{h h':Hp}(hk:∀n es c,h n=some (.mp es c)→h' n=some (.mp es c)):∀{ms:List V} {ls:List (List Tr)},cR h ms ls→cR h' ms ls
 | [],[],_=>trivial
 |_::_,_::_,e=>by
  obtain⟨⟨n,es,c,p,q,r⟩,e2⟩:=e;exact⟨⟨n,es,c,p,hk _ _ _ q,r⟩,cR.mp hk e2⟩
theorem s6{h h2:Hp}{n0 nx:Nat}{o:Own}{es:List V}(a:Acc h n0 o es)(hd:aV h nx)(hk:∀m,m<nx→h2 m=h m):Acc h2 n0 o es:=by
 rcases a with a|⟨p,id,q,r,s⟩
 ·exact .inl a
 exact .inr ⟨p,id,q,r,(hk id (hd _ _ s)).trans s⟩
theorem Ej{h:Hp}{n0:Nat}{oo:Own}{om:List V}(a:Acc h n0 oo om){n:Nat}{es:List ME}{c:Nat}(e:h n=some (.mp es c)){H:Hp}{b:Option Blk}(hH:H n=b):H.aBK oo n=b:=by
 rw[qV fun id q hn=>?_]
 ·exact hH
 rcases a with⟨_,q2⟩|⟨_,id2,_,q2,q3⟩
 ·rw[q2] at q;cases q
 rw[q2] at q;injection q with q;rw[q,←hn,e] at q3;cases q3
theorem E5{h:Hp}{n0 nx:Nat}{oo:Own}{om:List V}(a:Acc h n0 oo om)(hd:aV h nx){b c:Blk}:∀(n:Nat) (es:List ME) (k:Nat),h n=some (.mp es k)→(((h.set nx b).aBK oo).set (nx+1) c) n=some (.mp es k):=fun n es k e=>by
 have:=hd _ _ e;have e2:=Ej a e (H:=h.set nx b) (b:=some (.mp es k)) (by simp only[Kb];rw[if_neg or];exact e);unfold Kb at e2⊢;rw[if_neg or];exact e2
theorem kg(x:Li)(hr:bW x=true)(h3:x.k=3)(o:Own)(ms:List V)(ls:List (List Tr))(hls:ls.length≤20000)(h:Hp)(nx:Nat)(he:cR h ms ls):
 aR Tryz.prog 140 [x.v, .sl .leaf o ms] h nx fun v h' _=>ta (mF x [] ls) h nx v h':=by
 refine aB L.aW8 fun hd=>?_;have hd:aV h nx:=hd;have hml:=he.len;have CS:=fun l n es c h nx hm he=>mz l x hr h3 n es c h nx hm he;have hmk:=rY x;have hf:=Li.aAD x;obtain⟨RES,aA1⟩:∃R,mF x [] ls=R:=⟨_,rfl⟩;rw[aA1];generalize x.v=X at*;refine ZK ?_;refine aue (e2 hf hml) ?_
 refine aP (fun q:Nat×Own×List V×List (List Tr)=>aD 35 0 [(1, .sl .leaf o ms),(2, .ptr nx (.agg 17) 0 0),(4, .sl .leaf .nil []),(5, .nilIface),(6, .sl .leaf q.2.1 q.2.2.1),(12, .sl .leaf o ms),(13, .int .i64 ls.length),(14, .int .i64 q.1)])
  (fun q hp nx1=>q.1≤ls.length∧nx<nx1∧aV hp nx1∧Ke nx h hp∧hp nx=some (.arr (.agg 17) [X])∧Acc hp (nx+1) q.2.1 q.2.2.1∧cR hp q.2.2.1 q.2.2.2∧mF x q.2.2.2 (ls.drop q.1)=RES∧q.2.2.2.length≤q.1)
  (fun q=>ls.length-q.1) (0, .nil,[],[]) ⟨Kk _,Zw,dmo hd,by exact kep Hp.same.aA0,by simp only[go_sem,reduceIte,jA,jB,jC,jD,reduceCtorEq,jE,jF], .inl ⟨rfl,rfl⟩,trivial,aA1,Kk _⟩ (by simp only[WkL,aD,jH,jI,jJ,hml,go_sem,reduceIte,jA,jB,jC,jD,reduceCtorEq,jE,jF]) ?_
 rintro⟨i,oo,om,ol⟩ H nx1 ⟨hi,hnx,hdm,hk,hb,aAr,hE,hmt,hlen⟩;generalize hQ:bB _ _ _ _ _=Q0;dsimp only at hi aAr hE hmt hlen;refine Zk ?_;have hol:=hE.len;have hle:h.le H:=fun k b e=>(hk k (hd _ _ e)).trans e;rcases Kh i ls.length with hlt|hge
 ·have hc:decide ((i:Int)<(ls.length:Int))=true:=dct;obtain⟨n,es,c,hm1,hm2,hm3⟩:=he.get i hlt;have hm1:ms.getD i (.tup [])= .map n:=hm1;have hw:IntKind.i64.wrap ((i:Int)+1)=((i+1:Nat):Int):=wrp;have aCp:i<ms.length:=or;have hm4:H n=some (.mp es c):=hle _ _ hm2;rw[Ko hlt,hmk] at hmt;generalize ls[i]=EE at*;refine aue (e8 hc hm1 aCp hb hnx hml jG hf) ?_;refine aU ((CS EE n es c H nx1 hm4 hm3).dom.mono ?_);rintro v h2 nx2 aAV ⟨⟨hR,hk2⟩,hd2,_⟩;unfold bT;obtain⟨P,hP⟩:∃P,nS EE x=P:=⟨_,rfl⟩;rw[hP] at hR hmt;have hb2:h2 nx=some (.arr (.agg 17) [X]):=(hk2 nx hnx).trans hb;have aAr:=s6 aAr hdm hk2;have hks:Ke nx h h2:=fun k hk'=>(hk2 k or).trans (hk k hk');have hE2:=hE.keep hdm hk2;have hdm:=hd2;have aGN:nx<nx2:=or;have hom:om.length≤1000000:=or;have aDx:∀H:Hp,H.aBK oo nx=H nx:=fun H=>qV fun id e=>by have:=aAr.ge id e;omega
  clear hE;obtain⟨Po,Pn⟩:=P;cases Po with
  |some l=>
   obtain⟨n2,es2,c2,rfl,q1,q2,q3,q4⟩:=hR;refine Zn ?_;refine aue (e3 hw hom aDx) ?_;rw[←hQ];refine aG (i+1,_,om++[.map n2],ol++[l]) Zw ⟨hlt,or,dmo hd2,Fb hks aAr,by simp only[aDx,hb2,aGN,go_sem,reduceIte,jA,jB,jC,jD,reduceCtorEq,jE,jF],Acc.new _ Zm or,?_,hmt,by dsimp only;simp;omega⟩ (by simp only[WkL,aD,jH,jI,jJ,hw,go_sem,reduceIte,jA,jB,jC,jD,reduceCtorEq,jE,jF]);refine cR.mp ?_ (hE2.snoc ⟨n2,es2,c2,rfl,q3,q4⟩);exact E5 aAr hdm
  |none=>
   have hR:v= .tup [.aAH, .bool false,fM Pn]:=hR;subst hR;have hve:=eO Pn;have hmt:(if Pn≠0 then ([],Pn) else mF x ol (ls.drop (i+1)))=RES:=hmt;refine Zn ?_;by_cases hz:Pn=0
   ·subst hz;rw[decide_eq_true rfl] at hve;rw[if_neg Zm] at hmt;refine aue (e2 hve hw) ?_;rw[←hQ];exact aG (i+1,oo,om,ol) Zw ⟨hlt,or,hd2,hks,hb2,aAr,hE2,hmt,Zw⟩ (by simp only[WkL,aD,jH,jI,jJ,hw,go_sem,reduceIte,jA,jB,jC,jD,reduceCtorEq,jE,jF])
   rw[decide_eq_false hz] at hve;rw[if_pos hz] at hmt;refine aue hve ?_;rw[←hQ];refine au ?_;refine aN h2 (Ka _) ⟨.nil,[],?_,?_,hks⟩
   ·rw[←hmt];rfl
   rw[←hmt];trivial
 have hc:decide ((i:Int)<(ls.length:Int))=false:=dcf;rw[Kq or] at hmt;refine aue hc ?_;rw[←hQ];refine au ?_;refine aN H (Ka _) ⟨oo,om,?_,?_,hk⟩
 ·rw[←hmt];rfl
 rw[←hmt];exact hE
end Go.Proofs.YtlhedpgobaellaaGreatDoor
namespace Go.Proofs.YtlhedpgobaellaaGreatDoor
open Go.RowKit Go.Sort
def qA{α:Type}(l:List α):List α:=l.take 20001
theorem Db{α:Type}(l:List α):(qA l).length≤20001:=by unfold qA;rw[Ky];omega
theorem Bc{α:Type}(l:List α)(x:α):qA (l++[x])=if (qA l).length≤20000 then qA l++[x] else qA l:=by
 unfold qA;rw[Ky];by_cases h:l.length≤20000
 ·rw[if_pos or,Ks (by simp;omega),Ks or]
 rw[if_neg or,KA or]
theorem Dc{α:Type}{l:List α}(h:(qA l).length≤20000):qA l=l:=by
 unfold qA at h⊢;rw[Ky] at h;exact Ks or
theorem Bd{α:Type}(l:List α):20000<(qA l).length↔20000<l.length:=by unfold qA;rw[Ky];omega
def jW(G:ByteArray→List (List Vl))(x:Li)(es:List (List Tr)):List (List Tr)×Int:=
 if x.k=1 then (qA (xS x.a (G x.a.r) es),0) else if x.k=2 then pJ x.a (G x.a.r) [] es else mF x [] es
theorem zx(G:ByteArray→List (List Vl))(x:Li)(es:List (List Tr)):(jW G x es).2=(nF G x es).2:=by
 unfold jW nF;split
 ·rfl
 rfl
theorem zE(G:ByteArray→List (List Vl))(x:Li)(es:List (List Tr)):20000<(jW G x es).1.length↔20000<(nF G x es).1.length:=by
 unfold jW nF;split
 ·exact Bd _
 exact Iff.rfl
theorem zy{G:ByteArray→List (List Vl)}{x:Li}{es:List (List Tr)}(h:¬20000<(jW G x es).1.length):(jW G x es).1=(nF G x es).1:=by
 unfold jW at h⊢;unfold nF;split
 ·rename_i h1;rw[if_pos h1] at h;exact Dc (by simpa using h)
 rfl
theorem b8(G:ByteArray→List (List Vl))(b:List Li)(k:Nat)(ks:List Nat)(es:List (List Tr)):lY G b (k::ks) es=if (jW G (b.getD k default) es).2≠0 then ([],(jW G (b.getD k default) es).2) else
 if 20000<(jW G (b.getD k default) es).1.length then ([],11) else lY G b ks (jW G (b.getD k default) es).1:=by
 conv=>lhs;unfold lY
 rw[zx];split
 ·rfl
 by_cases h:20000<(jW G (b.getD k default) es).1.length
 ·rw[if_pos h,if_pos ((zE _ _ _).1 h)]
 rw[if_neg h,if_neg (fun e=>h ((zE _ _ _).2 e)),zy h]
theorem vU(x:Li):∀(es acc:List (List Tr)),(mF x acc es).1.length≤acc.length+es.length
 | [],acc=>Km _
 |e::r,acc=>by
  rw[rY];split
  ·rename_i l n h;refine KS (vU x r _) ?_;simp only[KO,Kp,Ki];omega
  split
  ·simp
  exact KS (vU x r _) (by rw[Kp];omega)
theorem zw(G:ByteArray→List (List Vl))(x:Li){es:List (List Tr)}(h:es.length≤20000):(jW G x es).1.length≤20001:=by
 unfold jW;split
 ·exact Db _
 split
 ·have:=i6 x.a (G x.a.r) es [];simp only[Ki] at this;omega
 have:=vU x es [];simp only[Ki] at this;omega
def ag(r:Ru):Int:=if dW r=false then 2 else if dN r (fU r) false≠ [] then 8 else 0
def oJ(G:ByteArray→List (List Vl))(r:Ru):List (List Tr)×Int:=if ag r≠0 then ([],ag r) else lY G r.b (iS r) [[]]
end Go.Proofs.YtlhedpgobaellaaGreatDoor
namespace Go.Proofs.YtlhedpgobaellaaGreatDoor
open Go.RowKit Go.Sort
attribute [local irreducible] Kj
theorem dl{h:Hp}{r n:Nat}{b:Blk}(e:(h.del r) n=some b):h n=some b∧n≠r:=by
 unfold Kf at e;split at e
 ·cases e
 rename_i q;exact⟨e,q⟩
theorem dl'{h:Hp}{r n:Nat}{b:Blk}(e:h n=some b)(q:n≠r):(h.del r) n=some b:=by
 unfold Kf;rw[if_neg q];exact e
theorem xz{h:Hp}{r:Nat}{b:Blk}:(h.set r b).del r=h.del r:=by
 funext n;unfold Kf Kb;split<;>rfl
theorem EA{h:Hp}{r n0:Nat}{o:Own}{es:List V}(a:Acc (h.del r) n0 o es):Acc h n0 o es:=by
 rcases a with a|⟨p,id,q,r',s⟩
 ·exact .inl a
 exact .inr ⟨p,id,q,r',(dl s).1⟩
theorem Dr{h h':Hp}{n0:Nat}{o:Own}{es:List V}(a:Acc h n0 o es)(hk:∀m,h m=some .tip→h' m=some .tip):Acc h' n0 o es:=by
 rcases a with a|⟨p,id,q,r,s⟩
 ·exact .inl a
 exact .inr ⟨p,id,q,r,hk _ s⟩
theorem w7{h:Hp}{nx:Nat}{oo:Own}{b c:Blk}{n:Nat}(hn:n<nx)(hne:∀id,oo= .tok id→n≠id):(((h.set nx b).aBK oo).set (nx+1) c) n=h n:=by
 have e:=qV (h:=h.set nx b) hne;unfold Kb at e⊢;rw[if_neg or] at e⊢;exact e
theorem Fy{h:Hp}{n0:Nat}{oo:Own}{om:List V}(a:Acc h n0 oo om){n:Nat}{x:Blk}(e:h n=some x)(hx:x≠ .tip):∀id,oo= .tok id→n≠id:=fun id q hn=>by
 rcases a with⟨_,q2⟩|⟨_,id2,_,q2,q3⟩
 ·rw[q2] at q;cases q
 rw[q2] at q;injection q with q;rw[q,←hn,e] at q3;injection q3 with q3;exact hx q3
theorem BZ(a:Am)(L:List (List Vl))(e:List Tr):xS a L [e]=L.filterMap fun t=>pK a t e:=by simp[xS]
theorem Ag(S:List Sr)(x:ByteArray)(hS:∀s∈S,fB s.ar s.zs):∃zs:List TR,s9 Tryz.prog 261 (Dm (tL S x)) Kd (zs.map fun z=>[z.v])∧dJ S x=aQ zs∧(tL S x).aAE=true∧∀L,(tL S x).names L:=by
 have key:∀{l:List Sr} {s:Sr},lkS x l=some s→s∈l:=by
  intro l s h;induction l with
  |nil=>cases h
  |cons a l ih=>
   unfold lkS at h;split at h
   ·injection h with h;rw[←h];exact List.mem_cons_self
   exact List.mem_cons_of_mem _ (ih h)
 unfold tL dJ;cases k:lkS x S with
 |none=>exact⟨[],Ah,rfl,rfl,fun L=>trivial⟩
 |some s=>exact⟨s.zs,BI s.ar s.zs (hS s (key k)),rfl,rfl,zO fun z hz=>((hS s (key k)).row z hz).2.2⟩
theorem As(a:Am)(ha:a.l.length≤1000000)(S:List Sr)(x:ByteArray)(hS:∀s∈S,fB s.ar s.zs)(o:Own)(ms:List V)(ls:List (List Tr))(hls:ls.length≤20000)(h:Hp)(nx:Nat)(he:cR h ms ls):
 aR Tryz.prog 138 [a.v, .sl .leaf o ms,tL S x] h nx fun v h' _=>∃o ms',v= .sl .leaf o ms'∧cR h' ms' (qA (xS a (dJ S x) ls))∧∀k,k<nx→h' k=h k:=by
 refine aB L.aXA fun hd=>?_;have hd:aV h nx:=hd;have hml:=he.len;obtain⟨zs,hit,hzs,hlf,hnm⟩:=Ag S x hS;rw[hzs];have CB:=fun(p:TR) l n es c h nx hm he=>sk a ha p.1 p.2 l n es c h nx hm he;have hAf:a.v.fits (.agg 2)=true:=rfl;have C1:=Ai (tL S x) hlf hnm;generalize a.v=A at*;generalize tL S x=PT at*;refine ZK ?_;refine aue (e2 hAf hml) ?_
 refine aP (fun q:Nat=>aD 41 0 [(1, .sl .leaf o ms),(2,PT),(3, .ptr nx (.agg 2) 0 0),(6, .sl .leaf .nil []),(7, .ptr (nx+1) .leaf 0 0),(13, .sl .leaf o ms),(14, .int .i64 ls.length),(15, .int .i64 q)])
  (fun q hp nx1=>q≤ls.length∧nx+1<nx1∧aV hp nx1∧Ke nx h hp∧hp nx=some (.arr (.agg 2) [A])∧∃oo om,hp (nx+1)=some (.arr .leaf [.sl .leaf oo om])∧Acc hp (nx+2) oo om∧cR hp om (qA (xS a (aQ zs) (ls.take q))))
  (fun q=>ls.length-q) 0 ⟨Kk _,Zw,dmo hd,by exact kep Hp.same.aA0,by simp only[go_sem,reduceIte,jA,jB,jC,jD,reduceCtorEq,jE,jF], .nil,[],by simp only[go_sem,reduceIte,jA,jB,jC,jD,reduceCtorEq,jE,jF], .inl ⟨rfl,rfl⟩,trivial⟩ (by simp only[WkL,aD,jH,jI,jJ,hml,go_sem,reduceIte,jA,jB,jC,jD,reduceCtorEq,jE,jF]) ?_
 rintro i H nx1 ⟨hi,hnx,hdm,hk,hb,oo,om,hb1,aAr,hE⟩;generalize hQ:bB _ _ _ _ _=Q0;refine Zk ?_;have hle:h.le H:=fun k b e=>(hk k (hd _ _ e)).trans e;rcases Kh i ls.length with hlt|hge
 ·have hc:decide ((i:Int)<(ls.length:Int))=true:=dct;obtain⟨n,es,c,hm1,hm2,hm3⟩:=he.get i hlt;have hm1:ms.getD i (.tup [])= .map n:=hm1;have hw:IntKind.i64.wrap ((i:Int)+1)=((i+1:Nat):Int):=wrp;have aCp:i<ms.length:=or;have hn2:n<nx:=hd _ _ hm2;have htk:ls.take (i+1)=ls.take i++[ls[i]]:=Kg hlt;generalize ls[i]=EE at*;obtain⟨PRE,aVB⟩:∃P,xS a (aQ zs) (ls.take i)=P:=⟨_,rfl⟩;rw[aVB] at hE;refine aue (e5 hc hm1 aCp hml jG) ?_;obtain⟨J,hJ⟩:∃J:Nat→Hp→Prop,∀j g,J j g↔(Ke nx h g∧g nx=some (.arr (.agg 2) [A])∧g nx1=some (.arr .leaf [.map n])∧∃oo om,g (nx+1)=some (.arr .leaf [.sl .leaf oo om])∧Acc g (nx+2) oo om∧cR g om (qA (PRE++((aQ zs).take j).filterMap fun t=>pK a t EE))):=⟨_,fun _ _=>Iff.rfl⟩;have n1:nx<nx1:=or;have n2:(nx=nx1)=False:=fls;have n3:(nx1=nx1+2)=False:=fls;have n4:(nx=nx1+2)=False:=fls;have n5:(nx+1=nx1)=False:=fls;have n6:(nx+1=nx1+2)=False:=fls
  refine lR hit rfl (fun x hx=>by obtain⟨w,_,rfl⟩:=KR.1 hx;rfl) (by exact dmo hdm) (fun j g _=>J j (g.del (nx1+2))) (fun _ _ _=>False)
   (fun j g _ hI=>bA _) (fun j g n1 n2 hI _=>hI) (fun j g n1 b hI=>by dsimp only at hI⊢;rw[xz];exact hI) (fun e h n1 n2 hE _=>hE) (fun e h n1 b hE=>hE)
   ?_ ?_ ?_ (fun e h n hE=>hE.elim)
  ·refine(hJ _ _).2 ⟨by exact kep hk,by simp only[hb,n1,n2,n4,go_sem,reduceIte,jA,jB,jC,jD,reduceCtorEq,jE,jF],by simp only[n3,go_sem,reduceIte,jA,jB,jC,jD,reduceCtorEq,jE,jF],oo,om,by simp only[hb1,n5,n6,go_sem,reduceIte,jA,jB,jC,jD,reduceCtorEq,jE,jF],Dr aAr (fun m em=>?_),?_⟩
   ·have:=hdm _ _ em;simp only[Kb,Kf];repeat rw[if_neg or]
    exact em
   rw[List.take_zero,List.filterMap_nil,KW];refine cR.mp (fun m es3 c3 em=>?_) hE;have:=hdm _ _ em;simp only[Kb,Kf];repeat rw[if_neg or]
   exact em
  ·intro j hj g nx3 Y hji aE7 hY aGu;dsimp only at aE7 hY hji;rw[jK] at hj;obtain⟨k1,k2,k3,oo2,om2,k4,k5,k6⟩:=(hJ _ _).1 hji;have hx:(zs.map fun z=>[z.v])[j]'(by rw[jK];exact hj)=[(zs[j]).v]:=Zm;have htj:(aQ zs).take (j+1)=(aQ zs).take j++[(zs[j]).2]:=by rw[Kg (by simpa using hj)];simp
   have hfz:=TR.aAD zs[j];have CB:=CB zs[j];rw[show vls zs[j].1 zs[j].2=zs[j].v from rfl] at CB;simp only[aAQ,hx,List.set_cons_succ,List.set_cons_zero];generalize zs[j].v=Z at*;generalize zs[j].2=tt at*;refine aue hfz ?_;refine kH hY fun X'=>?_;dsimp only;have aO7:aV (g.set (nx1+2) X') nx3:=aGu.set aE7 (Km _) X';have eG:g.del (nx1+2)=(g.set (nx1+2) X').del (nx1+2):=xz.symm;have hGr:(g.set (nx1+2) X') (nx1+2)=some X':=by simp only[Kb,if_true]
   rw[eG] at k1 k2 k3 k4 k5 k6;generalize g.set (nx1+2) X'=G at*;have d2:=(dl k2).1;have d3:=(dl k3).1;have d4:=(dl k4).1;have hm4:G n=some (.mp es c):=(dl ((k1 n hn2).trans hm2)).1;have b1:nx<nx3:=or;have b2:nx+1<nx3:=or;have b3:nx1<nx3:=or;have b4:n<nx3:=or;refine aue (e8 hfz d2 d3 b1 b3 hAf b4 hm4) ?_;refine aU ((CB EE n es c G nx3 hm4 hm3).dom.mono ?_);rintro v h2 nx4 aAV ⟨⟨hR,hk2⟩,hd2,_⟩;unfold bT;have hdm:=hd2;have aAr:Acc h2 (nx+2) oo2 om2:=s6 (EA k5) aO7 hk2;have aFJ:Acc (h2.del (nx1+2)) (nx+2) oo2 om2:=Dr k5 fun m em=>by
    have q:=dl em;exact dl' ((hk2 m (aO7 _ _ q.1)).trans q.1) q.2
   have hE2:cR (h2.del (nx1+2)) om2 _:=cR.mp (fun m es3 c3 em=>by
    have q:=dl em;exact dl' ((hk2 m (aO7 _ _ q.1)).trans q.1) q.2) k6
   have f2:=(hk2 _ b1).trans d2;have f3:=(hk2 _ b3).trans d3;have f4:=(hk2 _ b2).trans d4;have fr:=(hk2 _ aE7).trans hGr;have hks:Ke nx h (h2.del (nx1+2)):=fun m hm=>by
    have e:=k1 m hm;unfold Kf at e⊢;rw[if_neg or] at e⊢;exact(hk2 m or).trans e
   have c1:nx<nx4:=or;have c2:nx+1<nx4:=or;have c3:nx1<nx4:=or;obtain⟨P,hP⟩:∃P,pK a tt EE=P:=⟨_,rfl⟩;rw[hP] at hR;have hfm:((aQ zs).take (j+1)).filterMap (fun t=>pK a t EE)=((aQ zs).take j).filterMap (fun t=>pK a t EE)++P.toList:=by
    rw[htj,List.filterMap_append];congr 1;cases P<;>simp[hP]
   generalize ((aQ zs).take j).filterMap (fun t=>pK a t EE)=FM at*;cases P with
   |none=>
    have hR:v= .tup [.aAH, .bool false]:=hR;subst hR;refine Zn ?_;refine aue (e3 f4 c2 c1) ?_;refine fD fr ((hJ _ _).2 ⟨hks,by exact dl' f2 or,by exact dl' f3 or,oo2,om2,by exact dl' f4 or,aFJ,?_⟩);rw[hfm];simpa using hE2
   |some l=>
    obtain⟨n7,es7,c7,rfl,q1,q2,q3,q4⟩:=hR;refine Zn ?_;have hfm:PRE++((aQ zs).take (j+1)).filterMap (fun t=>pK a t EE)=(PRE++FM)++[l]:=by rw[hfm];simp
    have hcs:=Bc (PRE++FM) l;rw[←hfm] at hcs;have hol:=hE2.len;by_cases aCq:(qA (PRE++FM)).length≤20000
    ·rw[if_pos aCq] at hcs;have g1:decide ((om2.length:Int)≤20000)=true:=dct;have hom:om2.length≤1000000:=or;have aDx:∀H:Hp,H.aBK oo2 (nx+1)=H (nx+1):=fun H=>qV fun id e=>by have:=aAr.ge id e;omega
     refine aue (e6 f4 c2 c1 g1 hom aDx) ?_;have hr4:nx1+2<nx4:=or;have aV5:∀id,oo2= .tok id→nx1+2≠id:=fun id q hn=>by
      rcases aFJ with⟨_,q2⟩|⟨_,id2,_,q2,q3⟩
      ·rw[q2] at q;cases q
      rw[q2] at q;injection q with q;exact(dl q3).2 (q.trans hn.symm)
     have st:∀m:Nat,m≠nx+1→∀{H:Hp} {b:Blk},(H.set (nx+1) b) m=H m:=fun m hm H b=>by simp only[Kb];rw[if_neg hm]
     have hal:∀{m:Nat} {x:Blk},(h2.del (nx1+2)) m=some x→x≠ .tip→m≠nx+1→(((((h2.set nx4 .tip).aBK oo2).set (nx4+1) .tip).set (nx+1) (.arr .leaf [.sl .leaf (.tok (nx4+1)) (om2++[.map n7])])).del (nx1+2)) m=some x:=fun{m x} e hx hm=>by
      have q:=dl e;refine dl' ?_ q.2;rw[st m hm,w7 (hdm _ _ q.1) (Fy aAr q.1 hx)];exact q.1
     refine fD ?_ ((hJ _ _).2 ⟨?_,hal (dl' f2 or) Zm or,hal (dl' f3 or) Zm or, .tok (nx4+1),om2++[.map n7],dl' (by simp only[Kb,if_true]) or,?_,?_⟩)
     ·dsimp only;rw[st _ or,w7 hr4 aV5];exact fr
     ·intro m hm;rw[←hks m hm];dsimp only[Kf];rw[if_neg or,if_neg or,st _ or,w7 or fun id q=>by have:=aAr.ge id q;omega]
     ·exact .inr ⟨Zm,nx4+1,or,rfl,by simp only[Kb,Kf];rw[if_neg or,if_neg or,if_pos trivial]⟩
     rw[hcs];refine cR.mp (fun m es3 c3 em=>hal em Zm fun e=>?_) (hE2.snoc ⟨n7,es7,c7,rfl,dl' q3 or,q4⟩);rw[e] at em;have:=(dl em).1;rw[f4] at this;cases this
    rw[if_neg aCq] at hcs;have g1:decide ((om2.length:Int)≤20000)=false:=dcf;refine aue (e4 f4 c2 c1 g1) ?_;refine fD fr ((hJ _ _).2 ⟨hks,by exact dl' f2 or,by exact dl' f3 or,oo2,om2,by exact dl' f4 or,aFJ,?_⟩);rw[hcs];exact hE2
  intro g nx3 hji aE7 aGu;dsimp only at aE7 hji;rw[jK,show zs.length=(aQ zs).length by simp,] at hji;obtain⟨k1,k2,k3,oo2,om2,k4,k5,k6⟩:=(hJ _ _).1 hji;rw[Kz] at k6;refine aue hw ?_;rw[←hQ];exact aG (i+1) or ⟨hlt,or,by exact dmo aGu,k1,k2,oo2,om2,k4,k5,by rw[htk,B0,BZ,aVB];exact k6⟩ (by simp only[WkL,aD,jH,jI,jJ,hw,go_sem,reduceIte,jA,jB,jC,jD,reduceCtorEq,jE,jF])
 have hc:decide ((i:Int)<(ls.length:Int))=false:=dcf;have hie:i=ls.length:=or;rw[hie,Kz] at hE;refine aue (e2 hc hb1) ?_;rw[←hQ];refine aue hb1 ?_;refine aC H (Ka _) ⟨oo,om,rfl,hE,hk⟩
end Go.Proofs.YtlhedpgobaellaaGreatDoor
namespace Go.Proofs.YtlhedpgobaellaaGreatDoor
open Go.RowKit Go.Sort
attribute [local irreducible] Kj
theorem um{x:Li}(h:bW x=true):x.a.l.length≤6:=by
 unfold bW at h;split at h
 ·unfold nZ at h;simp only[Kx,decide_eq_true_eq] at h;exact h.1.1.1.1.2
 simp only[Kx,decide_eq_true_eq] at h;rw[h.1.1.2.2.1];exact Kk _
theorem kw{x:Li}(h:bW x=true)(h1:x.k≠1)(h2:x.k≠2):x.k=3:=by
 unfold bW at h;rw[if_neg (by simp[h1,h2])] at h;simp only[Kx,decide_eq_true_eq] at h;exact h.1.1.1
theorem qr(x:Li)(hr:bW x=true)(S:List Sr)(hS:∀s∈S,fB s.ar s.zs)(o:Own)(ms:List V)(ls:List (List Tr))(hls:ls.length≤20000)(h:Hp)(nx:Nat)(he:cR h ms ls)(N:Nat)(es:List ME)(c:Nat)(hN:h N=some (.mp es c))(hst:gA es S):
 aR Tryz.prog 90 [x.v, .sl .leaf o ms, .map N] h nx fun v h' _=>ta (jW (dJ S) x ls) h nx v h':=by
 refine aB L.aXv fun hd=>?_;have hd:aV h nx:=hd;have hml:=he.len;have hf:=Li.aAD x;obtain⟨r,hr1,hr2⟩:=hst.get x.a.r;have hN2:N<nx:=hd _ _ hN;have h6:=um hr;have CM:=fun h nx he=>As x.a or S x.a.r hS o ms ls hls h nx he;have CN:=fun h nx he=>lz x.a S x.a.r hS o ms ls hls h nx he;have CV:=fun h3 h nx he=>kg x hr h3 o ms ls hls h nx he;obtain⟨T,hT,hta,htk,htr⟩:∃T,x.v= .agg T∧(.agg ((T.drop 1).take 2))=x.a.v∧T.getD 0 (.tup [])= .int .i64 x.k∧T.getD 1 (.tup [])= .str x.a.r:=⟨_,rfl,rfl,rfl,rfl⟩;have hla:bE (.agg 2) 1 (.agg T)=x.a.v:=hta;have hAf:x.a.v.fits (.agg 2)=true:=rfl;have hes:∀{h':Hp},(∀k,k<nx→h' k=h k)→cR h' ms ls:=fun hk=>he.keep hd hk;have hk0:∀{b:Blk} (k:Nat),k<nx→(h.set nx b) k=h k:=fun k hk=>by simp only[Kb];rw[if_neg or]
 rw[hT] at hf CV⊢;unfold jW;simp only[Kp,Ki,Kv,Kw,KB,KC,KG,KJ,V.undef];by_cases h1:x.k=1
 ·rw[if_pos h1];have g1:(x.k==1)=true:=bqt;generalize x.a.v=A at*;refine aue (e9 hf htk g1 hla hAf htr hN2 hN hr1) ?_;refine aU ((hr2▸CM _ _ (hes hk0)).dom.mono ?_);rintro v h2 nx2 aAV ⟨⟨o2,m2,rfl,q1,q2⟩,hd2,_⟩;unfold bT;simp only[go_sem,reduceIte,Kv,Kw,KT,KH,reduceCtorEq,KI,KK];refine au ?_;refine aN h2 (Ka _) ⟨o2,m2,rfl,q1,fun k hk=>(q2 k Zw).trans (hk0 k hk)⟩
 rw[if_neg h1];have g1:(x.k==1)=false:=bqf;by_cases h2:x.k=2
 ·rw[if_pos h2];have g2:(x.k==2)=true:=bqt;generalize x.a.v=A at*;refine aue (e10 hf htk g1 g2 hla hAf htr hN2 hN hr1) ?_;refine aU ((hr2▸CN _ _ (hes hk0)).dom.mono ?_);rintro v h2 nx2 aAV ⟨⟨o2,m2,rfl,q1,q2⟩,hd2,_⟩;unfold bT;simp only[go_sem,reduceIte,Kv,Kw,KT,KH,reduceCtorEq,KI,KK];refine au ?_;refine aN h2 (Ka _) ⟨o2,m2,rfl,q1,fun k hk=>(q2 k Zw).trans (hk0 k hk)⟩
 rw[if_neg h2];have g2:(x.k==2)=false:=bqf;have h3:=kw hr h1 h2;refine aue (e4 hf htk g1 g2) ?_;refine aU ((CV h3 _ _ (hes hk0)).dom.mono ?_);rintro v h2 nx2 aAV ⟨⟨o2,m2,rfl,q1,q2⟩,hd2,_⟩;unfold bT;simp only[go_sem,reduceIte,Kv,Kw,KT,KH,reduceCtorEq,KI,KK];refine au ?_;refine aN h2 (Ka _) ⟨o2,m2,rfl,q1,fun k hk=>(q2 k Zw).trans (hk0 k hk)⟩
theorem AI(r:Ru)(hl:r.b.length≤140737488355328)(h:Hp):aL Tryz.prog 42 [r.v] h (fM (ag r)):=by
 refine aI (fun L=>eV L _) fun h' nx hh=>aB L.aYI fun hd=>?_;have C1:=fun h=>ui r h;have hf:r.v.fits (.agg 6)=true:=by cases r;rfl
 unfold ag;have hU:=fun hr h=>j7 r hr h;generalize r.v=X at*;simp only[Kp,Ki,Kv,Kw,KB,KC,KG,KJ,V.undef];cases hr:dW r with
 |false=>
  rw[hr] at C1;refine aue hf ?_;refine aC h' (leo hd) ⟨rfl,rfl⟩
 |true=>
  rw[hr] at C1;have C2:=hU hr;rw[if_neg Zm];generalize dN r (fU r) false=L at*;have hl:(L.map V.str).length=L.length:=KX ..;by_cases hz:L=[]
  ·have g:decide ((L.length:Int)>0)=false:=by subst hz;rfl
   rw[if_neg (by simpa using hz)];refine aue (e3 hf hl g) ?_;refine aC h' (leo hd) ⟨rfl,rfl⟩
  have g:decide ((L.length:Int)>0)=true:=by rw[decide_eq_true];cases L;exact absurd rfl hz;simp
  rw[if_pos hz];refine aue (e3 hf hl g) ?_;refine aC h' (leo hd) ⟨rfl,rfl⟩
end Go.Proofs.YtlhedpgobaellaaGreatDoor
namespace Go.Proofs.YtlhedpgobaellaaGreatDoor
open Go.RowKit Go.Sort
attribute [local irreducible] Kj
theorem v8(a b:V)(h:Hp):aL Tryz.prog 44 [a,b] h (.bool true):=by
 refine aI (fun L=>trivial) fun h' nx hh=>aB L.aYG fun hd=>?_;refine ZK ?_;refine au ?_;exact aC h' (Ka _) ⟨rfl,rfl⟩
theorem qq(r:Ru)(hr:dW r=true)(S:List Sr)(hS:∀s∈S,fB s.ar s.zs)(h:Hp)(nx:Nat)(N:Nat)(es:List ME)(c:Nat)(hN:h N=some (.mp es c))(hst:gA es S):
 aR Tryz.prog 43 [r.v, .map N, .fn (.func 44) [] []] h nx fun v h' _=>ta (lY (dJ S) r.b (iS r) [[]]) h nx v h':=by
 refine aB L.aYH fun hd=>?_;have hd:aV h nx:=hd;have hN2:N<nx:=hd _ _ hN;have C1:=ur r hr;obtain⟨b1,b2,b3⟩:=dG hr;have hol:(iS r).length≤8:=by
  unfold iS rW;rw[jK];exact KS (rV ..) b2
 have aOt:=pr r;generalize iS r=O at*;obtain⟨oo,hoo⟩:=fH .leaf (O.map kV);rw[hoo] at C1;simp only[Ru.v] at C1;obtain⟨RES,aA1⟩:∃R,lY (dJ S) r.b O [[]]=R:=⟨_,rfl⟩;rw[aA1];have hfc:=b8 (dJ S) r.b;refine ZK ?_;refine aue (e3 Ru.v.eq_1 trs.eq_1 (@jK Nat V)) ?_;refine pN ?_;refine aue (@jK Nat V) ?_
 refine aP (fun q:Nat×Own×List V×List (List Tr)=>aD 52 0 [(1, .map N),(2, .fn (.func 44) [] []),(3, .ptr nx (.agg 6) 0 0),(6, .sl .leaf .nil []),(7, .nilIface),(8, .sl .leaf q.2.1 q.2.2.1),(16, .sl .leaf oo (O.map kV)),(17, .int .i64 O.length),(18, .int .i64 q.1)])
  (fun q hp nx1=>q.1≤O.length∧nx<nx1∧aV hp nx1∧Ke nx h hp∧hp nx=some (.arr (.agg 6) [.agg [.str r.h.r, .sl (.agg 4) r.h.o (r.h.l.map Tr.v), .int .i64 r.g, .int .i64 r.c, .sl (.agg 17) r.o (r.b.map Li.v), .int .i64 r.at_]])∧cR hp q.2.2.1 q.2.2.2∧q.2.2.2.length≤20000∧lY (dJ S) r.b (O.drop q.1) q.2.2.2=RES)
  (fun q=>O.length-q.1) (0, .tok (nx+2),[.map (nx+1)],[[]]) ⟨Kk _,Zw,by exact dmo hd,by exact kep Hp.same.aA0,by simp only[go_sem,reduceIte,jA,jB,jC,jD,reduceCtorEq,jE,jF],⟨⟨nx+1,[],0,rfl,by simp only[go_sem,reduceIte,jA,jB,jC,jD,reduceCtorEq,jE,jF],CO⟩,trivial⟩,Zm,aA1⟩ (by simp only[WkL,aD,jH,jI,jJ,jK,go_sem,reduceIte,jA,jB,jC,jD,reduceCtorEq,jE,jF]) ?_
 rintro⟨i,o,ms,ls⟩ H nx1 ⟨hi,hnx,hdm,hk,hb,hE,hlen,hmt⟩;generalize hQ:bB _ _ _ _ _=Q0;dsimp only at hi hE hmt hlen;refine Zk ?_;rcases Kh i O.length with hlt|hge
 ·have hc:decide ((i:Int)<(O.length:Int))=true:=dct;have hg:(O.map kV).getD i (.tup [])= .int .i64 O[i]:=aO kV O i hlt;have hw:IntKind.i64.wrap ((i:Int)+1)=((i+1:Nat):Int):=wrp;have hkb:=aOt O[i] (Kt _);rw[Ko hlt,hfc] at hmt;have hD:r.b.getD O[i] default=r.b[O[i]]:=by rw[Ku,KF hkb];rfl
  have hg2:=aO Li.v r.b O[i] hkb;have hrl:=b3 r.b[O[i]] (Kt _);rw[hD] at hmt;generalize r.b[O[i]]=l at hg2 hrl hmt;generalize O[i]=k at hg hkb hg2;have hf:=Li.aAD l;have CS:=qr l hrl S hS o ms ls hlen H nx1 hE N es c ((hk N hN2).trans hN) hst;generalize l.v=X at*;have F1:=fun a b=>v8 a b;have sl:=zw (dJ S) l hlen;refine aue (e9 hc hg hlt hb hnx hg2 hf hkb (e3 (@jK Nat V) (@jK Li V) jG)) ?_;refine aU (CS.dom.mono ?_);rintro v h2 nx2 aAV ⟨⟨o2,m2,rfl,q1,q2⟩,hd2,_⟩;unfold bT;refine Zn ?_;have hks:Ke nx h h2:=fun m hm=>(q2 m or).trans (hk m hm);have hb2:=(q2 nx hnx).trans hb;have hl2:=q1.len;generalize jW (dJ S) l ls=P at*;obtain⟨PL,Pn⟩:=P;dsimp only at q1 hl2 sl hmt;have hve:=eO Pn;by_cases hz:Pn=0
  ·subst hz;rw[decide_eq_true rfl] at hve;rw[if_neg Zm] at hmt;by_cases hm:20000<PL.length
   ·rw[if_pos hm] at hmt;have g1:decide ((m2.length:Int)>20000)=true:=dct;refine aue (e2 hve g1) ?_;rw[←hQ];refine au ?_;refine aN h2 (Ka _) ⟨.nil,[],?_,?_,hks⟩
    ·rw[←hmt];rfl
    rw[←hmt];trivial
   rw[if_neg hm] at hmt;have g1:decide ((m2.length:Int)>20000)=false:=dcf;refine aue (e2 hve g1) ?_;refine cM rfl (F1 _ _ _) rfl (aH _) ?_;refine aue hw ?_;rw[←hQ];exact aG (i+1,o2,m2,PL) Zw ⟨hlt,or,hd2,hks,hb2,q1,Zw,hmt⟩ (by simp only[WkL,aD,jH,jI,jJ,hw,go_sem,reduceIte,jA,jB,jC,jD,reduceCtorEq,jE,jF])
  rw[decide_eq_false hz] at hve;rw[if_pos hz] at hmt;refine aue hve ?_;rw[←hQ];refine au ?_;refine aN h2 (Ka _) ⟨.nil,[],?_,?_,hks⟩
  ·rw[←hmt];rfl
  rw[←hmt];trivial
 have hc:decide ((i:Int)<(O.length:Int))=false:=dcf;rw[Kq or] at hmt;refine aue hc ?_;rw[←hQ];refine au ?_;refine aN H (Ka _) ⟨o,ms,?_,?_,hk⟩
 ·rw[←hmt];rfl
 rw[←hmt];exact hE
theorem xI(r:Ru)(S:List Sr)(hS:∀s∈S,fB s.ar s.zs)(h:Hp)(nx:Nat)(N:Nat)(es:List ME)(c:Nat)(hN:h N=some (.mp es c))(hst:gA es S)(hl:r.b.length≤140737488355328):
 aR Tryz.prog 10 [r.v, .map N] h nx fun v h' _=>ta (oJ (dJ S) r) h nx v h':=by
 refine aB L.g4z fun hd=>?_;have hd:aV h nx:=hd;have hN2:N<nx:=hd _ _ hN;have C1:=AI r hl;have hf:r.v.fits (.agg 6)=true:=by cases r;rfl
 have hW:=fun hr h nx hN=>qq r hr S hS h nx N es c hN hst;have hmr:ag r=0→dW r=true:=fun e=>by
  unfold ag at e;cases hr:dW r with
  |true=>rfl
  |false=>rw[hr,if_pos rfl] at e;cases e
 unfold oJ;generalize r.v=X at*;generalize ag r=n at*;have hve:=eO n;refine ZK ?_;by_cases hz:n=0
 ·rw[decide_eq_true hz] at hve;rw[if_neg (by simp[hz])];refine aue (e2 hf hve) ?_;refine aU ((hW (hmr hz) _ _ ?_).dom.mono ?_)
  ·simp only[Kb];rw[if_neg or];exact hN
  rintro v h2 nx2 aAV ⟨⟨o2,m2,rfl,q1,q2⟩,hd2,_⟩;unfold bT;refine Zn ?_;refine au ?_;refine aN h2 (Ka _) ⟨o2,m2,rfl,q1,fun k hk=>(q2 k Zw).trans (by simp only[Kb];rw[if_neg or])⟩
 rw[decide_eq_false hz] at hve;rw[if_pos hz];refine aue (e2 hf hve) ?_;exact aN _ (Ka _) ⟨.nil,[],rfl,trivial,fun k hk=>by simp only[Kb];rw[if_neg or]⟩
end Go.Proofs.YtlhedpgobaellaaGreatDoor
namespace Go.Proofs.YtlhedpgobaellaaGreatDoor
open Go.RowKit Go.Sort
attribute [local irreducible] Kj
def tH(a:Am):List (List Vl)→List (List Tr)→List (List Vl)×Int
 |acc,[]=>(acc,0)
 |acc,l::r=>if (cY a l).2≠0 then ([],(cY a l).2) else tH a (acc++[(cY a l).1]) r
theorem uj(a:Am)(acc:List (List Vl))(l:List Tr)(r:List (List Tr)):tH a acc (l::r)=if (cY a l).2≠0 then ([],(cY a l).2) else tH a (acc++[(cY a l).1]) r:=rfl
theorem i8(l:List Tr):∀(ts:List Tr) (acc:List Vl),(lQ l acc ts).1.length≤acc.length+ts.length
 | [],acc=>by simp[lQ]
 |t::r,acc=>by
  rw[lP];split
  ·simp
  have:=i8 l r (acc++[(cQ t l).1]);simp only[KO,Kp,Ki] at this⊢;omega
theorem Aw(a:Am)(l:List Tr):(cY a l).1.length≤6:=by
 unfold cY;split
 ·simp
 have:=i8 l a.l [];simp only[Ki] at this;omega
end Go.Proofs.YtlhedpgobaellaaGreatDoor
namespace Go.Proofs.YtlhedpgobaellaaGreatDoor
open Go.RowKit Go.Sort
attribute [local irreducible] Kj
namespace LB
abbrev aBU(k:Sh):List aA:=[
 ⟨some 4,none, .val (.move (.const (.sl k .nil [])))⟩]
abbrev aBT:List aA:=[
 ⟨some 8,none, .val (.move (.slot 0))⟩,
 ⟨some 9,none, .val (.len (.slot 8))⟩,
 ⟨some 10,none, .val (.bin .lss (.slot 9) (.const (.int .i64 2)))⟩]
abbrev aBS:List aA:=[
 ⟨some 11,none, .val (.move (.slot 0))⟩,
 ⟨some 4,none, .val (.move (.slot 11))⟩]
abbrev aBR:List aA:=[
 ⟨some 5,none, .val (.move (.const (.int .i64 1)))⟩]
abbrev aBQ:List aA:=[
 ⟨some 12,none, .val (.move (.slot 5))⟩,
 ⟨some 13,none, .val (.move (.slot 0))⟩,
 ⟨some 14,none, .val (.len (.slot 13))⟩,
 ⟨some 15,none, .val (.bin .lss (.slot 12) (.slot 14))⟩]
abbrev aBP(k:Sh):List (aA×List Nat):=[
 (⟨some 18,none, .val (.move (.slot 1))⟩,[]),
 (⟨some 19,none, .val (.move (.slot 0))⟩,[]),
 (⟨some 20,none, .val (.move (.slot 5))⟩,[]),
 (⟨some 21,none, .val (.idxA k (.slot 19) (.slot 20))⟩,[1,2]),
 (⟨some 22,none, .val (.load k (.slot 21))⟩,[1,2,3]),
 (⟨some 23,none, .val (.move (.slot 0))⟩,[]),
 (⟨some 24,none, .val (.move (.slot 5))⟩,[]),
 (⟨some 25,none, .val (.bin .sub (.slot 24) (.const (.int .i64 1)))⟩,[6]),
 (⟨some 26,none, .val (.idxA k (.slot 23) (.slot 25))⟩,[5,6,7]),
 (⟨some 27,none, .val (.load k (.slot 26))⟩,[5,6,7,8]),
 (⟨some 28,none, .callv (.slot 18) [(.slot 22),(.slot 27)]⟩,[0,1,2,3,4,5,6,7,8,9])]
abbrev aBA:List aA:=[]
abbrev aBO(k:Sh):List aA:=[
 ⟨some 29,none, .val (.move (.slot 0))⟩,
 ⟨some 30,none, .val (.move (.slot 5))⟩,
 ⟨some 31,none, .val (.slc k (.slot 29) (.some (.slot 30)) .none .none)⟩,
 ⟨some 6,none, .val (.move (.slot 31))⟩]
abbrev aBN:List aA:=[
 ⟨some 7,none, .val (.move (.const (.int .i64 1)))⟩]
abbrev aBM:List aA:=[
 ⟨some 32,none, .val (.move (.slot 7))⟩,
 ⟨some 33,none, .val (.move (.slot 6))⟩,
 ⟨some 34,none, .val (.len (.slot 33))⟩,
 ⟨some 35,none, .val (.bin .lss (.slot 32) (.slot 34))⟩]
abbrev aBL(k:Sh):List (aA×List Nat):=[
 (⟨some 38,none, .val (.move (.slot 1))⟩,[]),
 (⟨some 39,none, .val (.move (.slot 6))⟩,[]),
 (⟨some 40,none, .val (.move (.slot 7))⟩,[]),
 (⟨some 41,none, .val (.idxA k (.slot 39) (.slot 40))⟩,[1,2]),
 (⟨some 42,none, .val (.load k (.slot 41))⟩,[1,2,3]),
 (⟨some 43,none, .val (.move (.slot 6))⟩,[]),
 (⟨some 44,none, .val (.move (.slot 7))⟩,[]),
 (⟨some 45,none, .val (.bin .sub (.slot 44) (.const (.int .i64 1)))⟩,[6]),
 (⟨some 46,none, .val (.idxA k (.slot 43) (.slot 45))⟩,[5,6,7]),
 (⟨some 47,none, .val (.load k (.slot 46))⟩,[5,6,7,8]),
 (⟨some 48,none, .callv (.slot 38) [(.slot 42),(.slot 47)]⟩,[0,1,2,3,4,5,6,7,8,9]),
 (⟨some 49,none, .val (.not (.slot 48))⟩,[0,1,2,3,4,5,6,7,8,9,10])]
abbrev aA9:List aA:=[]
abbrev aBH(k:Sh):List aA:=[
 ⟨some 50,none, .val (.move (.slot 0))⟩,
 ⟨some 51,none, .val (.move (.slot 5))⟩,
 ⟨some 52,none, .val (.move (.slot 6))⟩,
 ⟨some 53,none, .val (.move (.slot 7))⟩,
 ⟨some 54,none, .val (.idxA k (.slot 52) (.slot 53))⟩,
 ⟨some 55,none, .val (.load k (.slot 54))⟩,
 ⟨some 56,none, .val (.idxA k (.slot 50) (.slot 51))⟩,
 ⟨none,none, .store k (.slot 56) (.slot 55)⟩]
abbrev aBG:List aA:=[
 ⟨some 57,none, .val (.move (.slot 5))⟩,
 ⟨some 58,none, .val (.bin .add (.slot 57) (.const (.int .i64 1)))⟩,
 ⟨some 5,none, .val (.move (.slot 58))⟩]
abbrev aBF:List aA:=[
 ⟨some 36,none, .val (.move (.slot 7))⟩,
 ⟨some 37,none, .val (.bin .add (.slot 36) (.const (.int .i64 1)))⟩,
 ⟨some 7,none, .val (.move (.slot 37))⟩]
abbrev aBW(k:Sh):aS:=(.seq (.seq (.ops aBM) (.cond (.slot 35) .skip (.exit 2))) (.seq (.block 3 (.seq (.draw 12 (aBL k) aA9) (.cond (.slot 49) (.seq (.ops (aBH k)) (.ops aBG)) .skip))) (.ops aBF)))
abbrev aBE(k:Sh)(z:V):List aA:=[
 ⟨some 59,none, .val (.move (.slot 0))⟩,
 ⟨some 60,none, .val (.move (.slot 5))⟩,
 ⟨some 61,none, .val (.slc k (.slot 59) (.some (.slot 60)) .none .none)⟩,
 ⟨none,none, .clear k (.slot 61) z⟩]
abbrev aBD(k:Sh):List aA:=[
 ⟨some 62,none, .val (.move (.slot 0))⟩,
 ⟨some 63,none, .val (.move (.slot 5))⟩,
 ⟨some 64,none, .val (.slc k (.slot 62) .none (.some (.slot 63)) .none)⟩,
 ⟨some 4,none, .val (.move (.slot 64))⟩]
abbrev aBC:List aA:=[
 ⟨some 16,none, .val (.move (.slot 5))⟩,
 ⟨some 17,none, .val (.bin .add (.slot 16) (.const (.int .i64 1)))⟩,
 ⟨some 5,none, .val (.move (.slot 17))⟩]
abbrev aBV(k:Sh)(z:V):aS:=(.seq (.seq (.ops aBQ) (.cond (.slot 15) .skip (.exit 0))) (.seq (.block 1 (.seq (.draw 11 (aBP k) aBA) (.cond (.slot 28) (.seq (.ops (aBO k)) (.seq (.seq (.ops aBN) (.block 2 (.loop (aBW k)))) (.seq (.ops (aBE k z)) (.seq (.ops (aBD k)) .ret)))) .skip))) (.ops aBC)))
abbrev aBB:List aA:=[
 ⟨some 65,none, .val (.move (.slot 0))⟩,
 ⟨some 4,none, .val (.move (.slot 65))⟩]
def aAq(k:Sh)(z:V):LFn:=⟨(.seq (.ops (aBU k)) (.seq (.seq (.ops aBT) (.cond (.slot 10) (.seq (.ops aBS) .ret) .skip)) (.seq (.seq (.ops aBR) (.block 0 (.loop (aBV k z)))) (.seq (.ops aBB) .ret)))),66,[.slot 4]⟩
end LB
section
variable{P:Program}{α:Type} [Inhabited α](e:α→V){k:Sh}{z:V}
theorem sX(ds:List α)(j:Nat)(h1:0<j)(h2:j<ds.length):ds.take (j+1)=ds.take (j-1)++[ds[j-1],ds[j]]∧ds.take j=ds.take (j-1)++[ds[j-1]]:=by
 have e1:ds.take j=ds.take (j-1)++[ds[j-1]]:=by
  have:=Kg (i:=j-1) (l:=ds) or;rwa [show j-1+1=j by omega] at this
 refine⟨?_,e1⟩;rw[Kg h2,e1,KU];rfl
theorem r7{p:α→α→Bool}(ds:List α)(j:Nat)(h1:0<j)(h2:j<ds.length)(he:p ds[j] ds[j-1]=true):cpt p (ds.take (j+1))=cpt p (ds.take j):=by
 rw[(sX ds j h1 h2).1,(sX ds j h1 h2).2,rz,if_pos he,KW]
theorem za{p:α→α→Bool}(ds:List α)(j:Nat)(h1:0<j)(h2:j<ds.length)(he:p ds[j] ds[j-1]=false):cpt p (ds.take (j+1))=cpt p (ds.take j)++[ds[j]]:=by
 rw[(sX ds j h1 h2).1,(sX ds j h1 h2).2,rz,if_neg (by simp[he])]
theorem da{f:Nat}(hL:aE P f=some (LB.aAq k z))(hz:z.fits k=true)(hfit:∀x,(e x).fits k=true)(g:Nat)(caps:List V)(p:α→α→Bool)(hc0:Hp)(n:Nat)(ds:List α)
 (hp0:∀x∈ds,∀y∈ds,aL P g ([e x,e y]++caps) hc0 (.bool (p x y))) (hlen:ds.length≤1000000) (h:Hp) (nx:Nat) (hh:hc0.has h) (hcn:hc0 n=none) (hn:h n=some (.arr k (ds.map e))):
 aR P f [.rs n k 0 ds.length, .fn (.func g) [] caps] h nx fun v h' _=>∃es m,v= .rs n k 0 m∧m≤es.length∧h'=h.set n (.arr k es)∧es.take m=(cpt p ds).map e:=by
 have aE1:h.set n (.arr k (ds.map e))=h:=by
  funext x;unfold Kb;split
  ·rename_i hx;rw[hx,hn]
  rfl
 have aAZ:cpt p ds=ds→∃es m,V.rs n k 0 ds.length= .rs n k 0 m∧m≤es.length∧h=h.set n (.arr k es)∧es.take m=(cpt p ds).map e:=fun hc=>
  ⟨ds.map e,ds.length,rfl,Zm,aE1.symm,by rw[hc];exact Ks Zm⟩
 have aU7:∀H:Hp,(∀x,x≠n→H x=h x)→hc0.has H:=fun H hH m b e hb=>by
  have:m≠n:=by rintro rfl;rw[hcn] at e;cases e
  rw[hH m this];exact hh m b e hb
 have hpp:∀i j (hi:i<ds.length) (hj:j<ds.length),aL P g ([e ds[i],e ds[j]]++caps) hc0 (.bool (p ds[i] ds[j])):=fun i j hi hj=>hp0 _ (Kt _) _ (Kt _);clear hp0;refine aB hL fun hd=>?_;refine ZK ?_;rcases Kh ds.length 2 with h2|h2
 ·have hc:decide ((ds.length:Int)<2)=true:=dct;refine aue hc ?_;refine aC h (Ka _) ?_;refine Zn ?_;refine aAZ ?_;match ds,h2 with
  | [],_=>rfl
  | [x],_=>rfl
 have hc:decide ((ds.length:Int)<2)=false:=dcf;refine aue hc ?_;refine aP (fun i:Nat=>aD 66 0 [(0, .rs n k 0 ds.length),(1, .fn (.func g) [] caps),(5, .int .i64 i)]) (fun i hp _=>1≤i∧i≤ds.length∧hp=h∧cpt p (ds.take i)=ds.take i) (fun i=>ds.length-i) 1 ⟨Km _,or,rfl,?_⟩ ?_ ?_
 ·match ds,h2 with
  |x::l,_=>rfl
 ·simp only[WkL,aD,jH,jI,jJ,go_sem,reduceIte,jA,jB,jC,jD,reduceCtorEq,jE,jF]
 rintro i hp nx1 ⟨hi1,hi,rfl,hcs⟩;generalize hQ:bB _ _ _ _ _=Q0;refine Zk ?_;rcases Kh i ds.length with hlt|hge
 ·have hc:decide ((i:Int)<(ds.length:Int))=true:=dct;have hg:=aO e ds i hlt;have hg1:=aO e ds (i-1) or;have hw1:IntKind.i64.wrap ((i:Int)-1)=((i-1:Nat):Int):=wrp;have hw:IntKind.i64.wrap ((i:Int)+1)=((i+1:Nat):Int):=wrp;have aCA:i-1<ds.length:=or;have hne:(i=ds.length)=False:=eq_false or;have hq:=hpp i (i-1) hlt aCA;refine aue (e11 hc hg hg1 hw1 hw hlt aCA hn hne hfit (e2 (@jK α V) jG)) ?_;refine cr rfl hq rfl (aU7 _ fun _ _=>rfl) ?_;refine Zn ?_;cases hx:p ds[i] ds[i-1] with
  |true=>
   refine aue (e11 hc hg hg1 hw1 hw hlt aCA hn hne hfit (e2 (@jK α V) jG)) ?_
   refine aP (fun q:Nat×Nat×List α=>aD 66 0 [(0, .rs n k 0 ds.length),(1, .fn (.func g) [] caps),(5, .int .i64 q.1),(6, .rs n k i (ds.length-i)),(7, .int .i64 q.2.1)])
    (fun q hp2 _=>i≤q.1∧q.1+1≤i+q.2.1∧1≤q.2.1∧i+q.2.1≤ds.length∧q.2.2.length=ds.length∧q.2.2.take q.1=cpt p (ds.take (i+q.2.1))∧q.2.2.drop q.1=ds.drop q.1∧hp2 n=some (.arr k (q.2.2.map e))∧∀x,x≠n→hp2 x=hp x)
    (fun q=>ds.length-q.2.1) (i,1,ds) ⟨Km _,Km _,Km _,Zw,rfl,?_,rfl,hn,fun _ _=>rfl⟩ ?_ ?_
   ·dsimp only;rw[r7 ds i or hlt hx,hcs]
   ·simp only[WkL,aD,jH,jI,jJ,go_sem,reduceIte,jA,jB,jC,jD,reduceCtorEq,jE,jF]
   rintro⟨m,k2,xs⟩ hp2 nx2 ⟨a1,a2,a3,a4,a5,a6,a7,a8,a9⟩;generalize hQ2:bB _ _ _ _ _=Q2;dsimp only at a1 a2 a3 a4 a5 a6 a7 a8;refine Zk ?_;have hat:∀j,m≤j→(hj:j<ds.length)→xs[j]'or=ds[j]:=fun j hm hj=>by
    have e1:xs[j]'or=(xs.drop m)[j-m]'(by simp;omega):=by simp[show m+(j-m)=j by omega]
    have e2:ds[j]=(ds.drop m)[j-m]'(by simp;omega):=by simp[show m+(j-m)=j by omega]
    rw[e1,e2];congr 1
   rcases Kh k2 (ds.length-i) with aOM|aUy
   ·have hcc:decide ((k2:Int)<((ds.length-i:Nat):Int))=true:=dct;have hj:i+k2<ds.length:=or;have hj1:i+k2-1<ds.length:=or;have g1:(xs.map e).getD (i+k2) (.tup [])=e ds[i+k2]:=by rw[aO e xs (i+k2) or,hat _ or hj]
    have g2:(xs.map e).getD (i+(k2-1)) (.tup [])=e ds[i+k2-1]:=by
     rw[aO e xs (i+(k2-1)) or];rw[show e xs[i+(k2-1)]=e (xs[i+k2-1]'or) by congr 2;omega,hat _ or or]
    have w1:IntKind.i64.wrap ((k2:Int)-1)=((k2-1:Nat):Int):=wrp;have w2:IntKind.i64.wrap ((k2:Int)+1)=((k2+1:Nat):Int):=wrp;have w3:IntKind.i64.wrap ((m:Int)+1)=((m+1:Nat):Int):=wrp;have b1:i+(k2-1)<ds.length:=or;have b2:k2-1<ds.length-i:=or;have b3:m<ds.length:=or;have hq2:=hpp (i+k2) (i+k2-1) hj hj1;have E:=e14 hcc g1 g2 w1 w2 w3 hj b1 b2 b3 aOM a8 a5 (e3 hfit (@jK α V) jG);refine aue E ?_;refine cr rfl hq2 rfl (aU7 _ a9) ?_;refine Zn ?_;cases hy:p ds[i+k2] ds[i+k2-1] with
    |false=>
     refine aue (e3 E KZ Qc) ?_;rw[←hQ2];refine aG (m+1,k2+1,xs.set m ds[i+k2]) Zw ⟨Zw,Zw,Zw,Zw,by simpa using a5,?_,?_,?_,?_⟩ ?_
     ·dsimp only;rw[show i+(k2+1)=(i+k2)+1 by omega,za ds (i+k2) or hj hy,←a6,Kg (by simp;omega),List.getElem_set_self,List.take_set_of_le (Km _)]
     ·dsimp only;rw[List.drop_set_of_lt or];have:=congrArg (List.drop 1) a7;rwa [Qa,Qa] at this
     ·refine Zn ?_;rw[List.map_set,aO e xs m or,lF (hfit _) (hfit _)]
     ·intro x hx;simp only[hx,go_sem,reduceIte,jA,jB,jC,jD,reduceCtorEq,jE,jF];exact a9 x hx
     simp only[WkL,aD,jH,jI,jJ,w2,go_sem,reduceIte,jA,jB,jC,jD,reduceCtorEq,jE,jF]
    |true=>
     refine aue (e3 E KZ Qc) ?_;rw[←hQ2];refine aG (m,k2+1,xs) Zw ⟨a1,Zw,Zw,Zw,a5,?_,a7,a8,a9⟩ ?_
     ·dsimp only;rw[show i+(k2+1)=(i+k2)+1 by omega,r7 ds (i+k2) or hj hy,a6]
     simp only[WkL,aD,jH,jI,jJ,w2,go_sem,reduceIte,jA,jB,jC,jD,reduceCtorEq,jE,jF]
   have hcc:decide ((k2:Int)<((ds.length-i:Nat):Int))=false:=dcf;have aCJ:i+k2=ds.length:=or;rw[aCJ,Kz] at a6;have hm1:m<ds.length:=or;have hml:(m=ds.length)=False:=eq_false or;refine aue hcc ?_;rw[←hQ2];refine aue (ee5 hml hm1 a8 a5 hz) ?_;rw[←hQ];refine au ?_;refine aC _ (Ka _) ⟨(xs.map e).take m++List.replicate (ds.length-m) z++(xs.map e).drop (m+(ds.length-m)),m,?_,?_,?_,?_⟩
   ·simp only[Nat.sub_zero,go_sem,reduceIte,jA,jB,jC,jD,reduceCtorEq,jE,jF]
   ·simp;omega
   ·funext x;by_cases hx:x=n
    ·subst hx;simp only[go_sem,reduceIte,jA,jB,jC,jD,reduceCtorEq,jE,jF]
    simp only[hx,go_sem,reduceIte,jA,jB,jC,jD,reduceCtorEq,jE,jF];exact a9 x hx
   rw[KU,KA (by simp;omega),List.take_take,Nat.min_self,←List.map_take,a6]
  |false=>
   refine aue (e11 hc hg hg1 hw1 hw hlt aCA hn hne hfit (e2 (@jK α V) jG)) ?_;rw[←hQ];refine aG (i+1) or ⟨or,or,rfl,?_⟩ ?_
   ·rw[za ds i or hlt hx,hcs,←Kg hlt]
   simp only[WkL,aD,jH,jI,jJ,hw,go_sem,reduceIte,jA,jB,jC,jD,reduceCtorEq,jE,jF]
 have hc:decide ((i:Int)<(ds.length:Int))=false:=dcf;refine aue hc ?_;rw[←hQ];refine au ?_;refine aC hp (Ka _) ?_;refine Zn ?_;refine aAZ ?_;rw[show i=ds.length by omega,Kz] at hcs;exact hcs
end
end Go.Proofs.YtlhedpgobaellaaGreatDoor
namespace Go.Proofs.YtlhedpgobaellaaGreatDoor
open Go.RowKit Go.Sort Go.Shelf Go.Lib
theorem gM{α:Type} [Inhabited α](enc:α→Value)(w:World)(blk off m:Nat)(dk:Array α)(os:Array Obj)(b:Nat)(hb:b<w.heap.size)(hne:b≠blk):(sortWorld enc w blk off m dk os).heap[b]?=w.heap[b]?:=by
 unfold sortWorld putRow mapBlock grow;simp only[heap_ahead];rw[KE (by simpa using hb),KN,if_neg (fun e=>hne e.symm)]
theorem oZ{α:Type} [Inhabited α](enc:α→Value)(w:World)(blk off m:Nat)(dk:Array α)(os:Array Obj):w.heap.size≤(sortWorld enc w blk off m dk os).heap.size:=by
 unfold sortWorld putRow mapBlock grow;simp only[heap_ahead,Array.size_append,Array.size_modify];omega
theorem rD{α:Type} [Inhabited α](enc:α→Value)(w:World)(blk off m:Nat)(dk:Array α)(os:Array Obj){c:Array Value}{T:TypeId}{fr:Nat×Nat}(hh:w.heap[blk]?=some (.cells c T fr)):∃c':Array Value,(sortWorld enc w blk off m dk os).heap[blk]?=some (.cells c' T fr)∧c'.size=c.size:=by
 have hb:blk<w.heap.size:=by
  rcases Kh blk w.heap.size with hlt|hge
  ·exact hlt
  rw[KL hge] at hh;exact absurd hh Zm
 refine⟨putCells enc off dk c,?_,by simp[putCells]⟩;unfold sortWorld putRow mapBlock grow;simp only[heap_ahead];rw[KE (by simpa using hb),KN,if_pos rfl,hh];rfl
theorem tV{K:Ker}{α:Type} [Inhabited α](enc:α→Value)(blk off m:Nat)(dk:Array α)(os:Array Obj){c:Array Value}{T:TypeId}(hh:K.w.heap[blk]?=some (.cells c T (0,0)))(hf:¬K.fro blk)(hi:K.imm blk=0):
 K.le {K with w:=sortWorld enc K.w blk off m dk os} where
 live _ hn:=hn
 mu _ _:=rfl
 tp _ _:=rfl
 fro:=rfl
 imm _ _:=Km _
 cell b o hb hst:=by
  have hne:b≠blk:=by
   rintro rfl;rcases hst with h|h
   ·exact hf h
   omega
  exact fY (gM enc K.w blk off m dk os b hb hne)
 shape b hb:=by
  by_cases e:b=blk
  ·subst e;obtain⟨c',h1,h2⟩:=rD enc K.w b off m dk os hh;simp only[KY,h1,hh,h2]
  simp only[KY,gM enc K.w blk off m dk os b hb e]
 below:=⟨rfl,rfl,rfl,Nat.le_add_right _ _,oZ enc K.w blk off m dk os,fun b hb hF=>gM enc K.w blk off m dk os b hb (fun e=>hF.elim (fun hF=>hf (e▸hF)) fun hm=>by subst e;unfold fR at hm;rw[hh] at hm;cases hm)⟩
theorem tz{P:Program}{ρ:Ren}(L:SlLaysF.n6 P ρ)(hen:iY P (ρ.f 6)=true)
 {δ:Type} (e:δ→V) (hfit:∀d,(e d).fits .leaf=true) (cf:δ→δ→Int) (hO:SWO (ltOf cf)) (g:Nat) (caps:List V) (aU5:∀x y,aL P g ([e x,e y]++caps) Kd (.int .i64 (cf x y)))
 (n:Nat) (ds:List δ) (hne:ds≠ []) (h:Hp) (nx:Nat) (hn:h n=some (.arr .leaf (ds.map e))) (hlen:ds.length<4611686018427387904):
 aR P (ρ.f 6) [.rs n .leaf 0 ds.length, .fn (.func g) [] caps] h nx fun v h' nx'=>v= .tup []∧nx'=nx∧∃ds':List δ,ds'.Perm ds∧d9 cf ds'∧h'=h.set n (.arr .leaf (ds'.map e)):=by
 refine⟨hen,fun K cargs hlv hr hv=>?_⟩;obtain⟨hsz,hv⟩:=hv;have hsz:cargs.size=2:=by simpa using hsz.symm
 obtain⟨c1,c2,rfl⟩:∃c1 c2,cargs=#[c1,c2]:=⟨cargs[0],cargs[1],by
  apply Array.ext
  ·simp[hsz]
  intro i h1 h2;have:i=0∨i=1:=by simp at h2;omega
  rcases this with rfl|rfl<;>rfl⟩
 have v1:=hv 0 Zm;have v2:=hv 1 Zm;have hb:=hr.blk n _ hn;have aUz:=hr.base n _ hn;cases hb with
 |arr _ _ c T hh hcs himm hfit' hcv=>
  have v1:VR K (.rs n .leaf 0 ds.length) c1:=v1;have v2:VR K (.fn (.func g) [] caps) c2:=v2;cases v1 with
  |rs _ _ _ _ cap hl hcap hm=>
   cases v2 with
   |fn _ _ _ cfirst ccap q1 q2 w1 w2=>
    have hcf:cfirst=#[]:=by
     have:cfirst.size=0:=by simpa using q1.symm
     exact Array.eq_empty_of_size_eq_zero this
    subst hcf;have hcs:ds.length≤c.size:=by simpa [Sh.size] using hcs
    have hblk:K.mu n<K.w.heap.size:=by
     rcases Kh (K.mu n) K.w.heap.size with hlt|hge
     ·exact hlt
     rw[KL hge] at hh;exact absurd hh Zm
    let A:={p:δ×Value // VR K (e p.1) p.2}
    have hcell:∀i (hi:i<ds.length),VR K (e ds[i]) (c.getD i KM):=fun i hi=>by
     have h1:=hcv i (by simpa using hi) 0 (by simp[Sh.size]);simp only[Ku,List.getElem?_map,KF hi,Option.map_some,Option.getD_some,Sh.size,Qf,Qd] at h1;rwa [fZ (by simpa [V.fits] using hfit ds[i])] at h1
    have aAg:0<ds.length:=List.length_pos_iff.2 hne
    haveI:Inhabited A:=⟨⟨(ds[0],c.getD 0 KM),hcell 0 aAg⟩⟩
    let d:Array A:=Array.ofFn fun i:Fin ds.length=>(⟨(ds[i],c.getD i KM),hcell i i.2⟩:A)
    have hds:d.size=ds.length:=by simp[d]
    have hd:∀i (hi:i<ds.length),d[i]! =(⟨(ds[i],c.getD i KM),hcell i hi⟩:A):=fun i hi=>by
     rw[getElem!_pos d i (by rw[hds];exact hi)];simp[d]
    let enc:A→Value:=fun p=>p.1.2
    have h1:OneCell enc:=fun x=>x.2.aA3 (by simpa [V.fits] using hfit x.1.1);have hH:Holds enc K.w (K.mu n) 0 d:=by
     intro j hj;rw[hds] at hj;constructor
     ·rw[hd _ hj];simp only[Qb,hh,Qe,enc,KP,KQ,if_false];rw[KD,Array.getElem?_eq_getElem or];rfl
     simp only[World.frozen?,hh];simp
    have hC:CmpLays1 P g ccap enc (fun x y:A=>cf x.1.1 y.1.1) (K.mu n) 0 d.size K.w:=by
     intro m os dk _ x y;have hle:=tV enc (K.mu n) 0 m dk os hh aUz himm;generalize hW:sortWorld enc K.w (K.mu n) 0 m dk os=W at hle⊢;have hp:=(aU5 x.1.1 y.1.1) Kd nx (aH _);have up:∀{v cv},VR K v cv→VR {K with w:=W,fro:=fun b=>b<W.heap.size} v cv:=fun r=>VR.refro (K:={K with w:=W}) (fun b hb=>Nat.lt_of_lt_of_le (hr.size.lt b hb) (by rw[←hW];exact oZ enc K.w _ _ m dk os)) (r.mono hle)
     have c:=hp.2 {K with w:=W,fro:=fun b=>b<W.heap.size} (#[enc x,enc y]++ccap) hlv ⟨(fun n b e=>by cases e),(fun n b e=>by cases e),(fun n b e=>by cases e),(fun n n' b b' e=>by cases e),((hr.size.keep hle).all)⟩
      ((show VRs _ [e x.1.1,e y.1.1] #[enc x,enc y] from⟨rfl,fun i hi=>by
        have:i=0∨i=1:=by simp at hi;omega
        rcases this with rfl|rfl
        ·exact up x.2
        exact up y.2⟩).append ⟨q2,fun i hi=>up (w2 i hi)⟩)
     refine c.mono ?_;rintro e' w' ⟨K',v,cv,h',nx',rfl,rfl,a1,a2,a3,a4,a5,rfl,rfl,rfl⟩;cases a2;exact⟨rfl,AG a1.below⟩
    have key:=Any.slices_SortFunc L enc h1 (fun x y:A=>cf x.1.1 y.1.1) (oi (fun x:A=>x.1.1) hO) g ccap (K.mu n) 0 cap d K.w (fun args w=>iF (aU5 ds[0] ds[0] Kd 0 (aH _)).1 args w) hC hH hblk (by rw[hds];exact hlen);rw[hds] at key;have e0:(0:Nat)*Sh.leaf.size=0:=Nat.zero_mul _;rw[e0];refine key.mono ?_;rintro e' w' ⟨rfl,d',m,os,hp,hs,rfl⟩;obtain⟨hp1,_,hp3⟩:=hp;have hp1:d'.size=ds.length:=by rw[hp1,hds]
    have hle:=tV enc (K.mu n) 0 m d' os hh aUz himm;have hH':=holds_sortWorld enc K.w (K.mu n) 0 m d d' os hblk hH (by rw[hp1,hds]);obtain⟨c',hh',hcz⟩:=rD enc K.w (K.mu n) 0 m d' os hh;refine⟨{K with w:=sortWorld enc K.w (K.mu n) 0 m d' os}, .tup [], .tuple #[],h.set n (.arr .leaf ((d'.toList.map fun x=>x.1.1).map e)),nx,rfl,rfl,hle, .tup [] #[] rfl (fun i hi=>absurd hi Zm),?_,fun m hm=>⟨hlv m hm, .inl hm⟩,Km _,rfl,rfl,_,?_,?_,rfl⟩
    ·have aDo:∀m b,(h.set n (.arr .leaf ((d'.toList.map fun x=>x.1.1).map e))) m=some b→∃b',h m=some b':=fun m' b' e'=>by
      unfold Kb at e';split at e'
      ·rename_i em;subst em;exact⟨_,hn⟩
      exact⟨_,e'⟩
     refine⟨fun m' b' e'=>?_,fun m' b' e'=>?_,fun m' b' e'=>?_,fun m1 m2 b1 b2 e1 e2 em=>?_,hr.size.keep hle⟩
     ·obtain⟨b2,e2⟩:=aDo m' b' e';exact hr.lt m' b2 e2
     ·obtain⟨b2,e2⟩:=aDo m' b' e';exact hr.base m' b2 e2
     ·by_cases em:m'=n
      ·subst em;have eb:b'= .arr .leaf ((d'.toList.map fun x=>x.1.1).map e):=by simpa [Kb] using e'.symm
       subst eb;refine .arr _ _ c' T hh' (by
        have e0:((d'.toList.map fun x=>x.1.1).map e).length=ds.length:=by
         simp only[KX,Array.length_toList];omega
        rw[hcz,e0];simpa [Sh.size] using hcs) himm (fun v hv=>?_) fun i hi j hj=>?_
       ·obtain⟨x,_,rfl⟩:=KR.1 hv;exact hfit x
       have hi:i<d'.size:=by simpa using hi
       have hj:j=0:=by simp[Sh.size] at hj;exact hj
       subst hj;obtain⟨g1,_⟩:=hH' i hi;simp only[Qb,hh',KP,KQ,if_false,Qe] at g1;have:=(d'[i]!).2.mono hle;have e1:(((d'.toList.map fun x=>x.1.1).map e).getD i V.undef)=e (d'[i]!).1.1:=by
        rw[getElem!_pos d' i hi];simp[Ku,hi]
       rw[e1,fZ (by simpa [V.fits] using hfit _)];have e2:c'.getD (i*Sh.leaf.size+0) KM=(d'[i]!).1.2:=by
        show c'.getD (i*1+0) KM=_;rw[Qf,Qd,KD,g1];rfl
       rw[e2];exact this
      have e2:h m'=some b':=by unfold Kb at e';rw[if_neg em] at e';exact e'
      have hne:K.mu m'≠K.mu n:=fun e3=>em (hr.inj m' n _ _ e2 hn e3);exact(hr.blk m' b' e2).mono hle (hr.lt m' b' e2) (gM enc K.w (K.mu n) 0 m d' os _ (hr.blk m' b' e2).lt_size hne) rfl
     obtain⟨b3,e3⟩:=aDo m1 b1 e1;obtain⟨b4,e4⟩:=aDo m2 b2 e2;exact hr.inj m1 m2 b3 b4 e3 e4 em
    ·have p:=hp3.map fun x:A=>x.1.1;have ex:∀(x:Array A),x.size=ds.length→x.extract 0 ds.length=x:=fun x hx=>by rw[←hx];simp
     rw[ex d' hp1,ex d hds] at p;have:d.toList.map (fun x:A=>x.1.1)=ds:=by
      apply List.ext_getElem
      ·simp[hds]
      intro i h1 h2;simp[d]
     rw[this] at p;exact p
    unfold d9;rw[List.pairwise_map,List.pairwise_iff_getElem];intro i j hi hj hij;have:=hs i j (Kk _) hij (by simpa [hp1] using hj);rw[getElem!_pos d' i (by simpa using hi),getElem!_pos d' j (by simpa using hj)] at this;simpa [ltOf] using this
end Go.Proofs.YtlhedpgobaellaaGreatDoor
namespace Go.Proofs.YtlhedpgobaellaaGreatDoor
open Go.RowKit Go.Sort Go.Shelf Go.Lib
end Go.Proofs.YtlhedpgobaellaaGreatDoor
namespace Go.Proofs.YtlhedpgobaellaaGreatDoor
open Go.RowKit Go.Sort
attribute [local irreducible] Kj
namespace LB
end LB
section
variable{P:Program}{α:Type} [Inhabited α](e:α→V){k:Sh}{z:V}
theorem mt{f:Nat}(hL:aE P f=some (LB.aAq k z))(fv:V)(h:Hp)(nx:Nat):aR P f [.sl k .nil [],fv] h nx fun v h' _=>v= .sl k .nil []∧h'=h:=by
 refine aB hL fun hd=>?_;simp only[Kp,Ki,Kv,Kw,KB,KC,KG,KJ,V.undef];have hc:decide ((0:Int)<2)=true:=ZM;refine aue (e2 hc Int.natCast_zero) ?_;exact aC h (Ka _) ⟨rfl,rfl⟩
end
end Go.Proofs.YtlhedpgobaellaaGreatDoor
namespace Go.Proofs.YtlhedpgobaellaaGreatDoor
open Go.RowKit Go.Sort Go.Shelf Go.Lib
namespace LB
end LB
section
variable{P:Program}{α:Type}(e:α→V)(hfit:∀x,(e x).fits .leaf=true)
include hfit
end
end Go.Proofs.YtlhedpgobaellaaGreatDoor
namespace Go.Proofs.YtlhedpgobaellaaGreatDoor
open Go.Shelf
def t7:Go.Shelf.Ren:=⟨fun|6=>52|15=>98|14=>97|28=>153|29=>154|20=>145|21=>146|22=>147|23=>148|24=>149|25=>150|26=>151|27=>152|46=>208|47=>209|48=>210|49=>211|50=>212|57=>248|n=>n,fun|22=>69|24=>57|25=>145|3=>3|39=>84|0=>0|53=>261|55=>263|4=>4|46=>255|45=>254|50=>134|5=>5|9=>9|66=>315|70=>319|76=>345|77=>346|n=>n,fun|n=>n⟩
theorem By:Go.Proofs.SlLaysF.n6 Tryz.prog t7:={
 mixed:=Zz
 f6:=⟨Tryz.f52.name,ZM,Tryz.func52.trans (congrArg some Zz)⟩
 f14:=⟨Tryz.f97.name,ZM,Tryz.func97.trans (congrArg some Zz)⟩
 f15:=Tryz.func98.trans (congrArg some Zz)
 f20:=⟨Tryz.f145.name,ZM,Tryz.func145.trans (congrArg some Zz)⟩
 f21:=⟨Tryz.f146.name,ZM,Tryz.func146.trans (congrArg some Zz)⟩
 f22:=⟨Tryz.f147.name,ZM,Tryz.func147.trans (congrArg some Zz)⟩
 f23:=⟨Tryz.f148.name,ZM,Tryz.func148.trans (congrArg some Zz)⟩
 f24:=⟨Tryz.f149.name,ZM,Tryz.func149.trans (congrArg some Zz)⟩
 f25:=⟨Tryz.f150.name,ZM,Tryz.func150.trans (congrArg some Zz)⟩
 f26:=⟨Tryz.f151.name,ZM,Tryz.func151.trans (congrArg some Zz)⟩
 f27:=⟨Tryz.f152.name,ZM,Tryz.func152.trans (congrArg some Zz)⟩
 f28:=Tryz.func153.trans (congrArg some Zz)
 f29:=Tryz.func154.trans (congrArg some Zz)
 f46:=⟨Tryz.f208.name,ZM,Tryz.func208.trans (congrArg some Zz)⟩
 f47:=Tryz.func209.trans (congrArg some Zz)
 f48:=Tryz.func210.trans (congrArg some Zz)
 f49:=⟨Tryz.f211.name,ZM,Tryz.func211.trans (congrArg some Zz)⟩
 f50:=⟨Tryz.f212.name,ZM,Tryz.func212.trans (congrArg some Zz)⟩
 f57:=⟨Tryz.f248.name,ZM,Tryz.func248.trans (congrArg some Zz)⟩
 t0:=Tryz.underlying0
 a0:=Tryz.isAgg0
 z0:=Tryz.sizeOf0
 v0:=Tryz.zeroValue0
 t3:=Tryz.underlying3
 a3:=Tryz.isAgg3
 z3:=Tryz.sizeOf3
 v3:=Tryz.zeroValue3
 t4:=Tryz.underlying4
 a4:=Tryz.isAgg4
 z4:=Tryz.sizeOf4
 v4:=Tryz.zeroValue4
 t5:=Tryz.underlying5
 a5:=Tryz.isAgg5
 z5:=Tryz.sizeOf5
 v5:=Tryz.zeroValue5
 t9:=Tryz.underlying9
 a9:=Tryz.isAgg9
 z9:=Tryz.sizeOf9
 v9:=Tryz.zeroValue9
 t22:=Tryz.underlying69
 a22:=Tryz.isAgg69
 z22:=Tryz.sizeOf69
 v22:=Tryz.zeroValue69
 a24:=Tryz.isAgg57
 z24:=Tryz.sizeOf57
 t25:=Tryz.underlying145
 a25:=Tryz.isAgg145
 z25:=Tryz.sizeOf145
 v25:=Tryz.zeroValue145
 t39:=Tryz.underlying84
 a39:=Tryz.isAgg84
 z39:=Tryz.sizeOf84
 v39:=Tryz.zeroValue84
 t45:=Tryz.underlying254
 a45:=Tryz.isAgg254
 z45:=Tryz.sizeOf254
 v45:=Tryz.zeroValue254
 t46:=Tryz.underlying255
 a46:=Tryz.isAgg255
 z46:=Tryz.sizeOf255
 v46:=Tryz.zeroValue255
 t50:=Tryz.underlying134
 a50:=Tryz.isAgg134
 z50:=Tryz.sizeOf134
 v50:=Tryz.zeroValue134
 t53:=Tryz.underlying261
 a53:=Tryz.isAgg261
 z53:=Tryz.sizeOf261
 v53:=Tryz.zeroValue261
 t55:=Tryz.underlying263
 a55:=Tryz.isAgg263
 z55:=Tryz.sizeOf263
 v55:=Tryz.zeroValue263
 t66:=Tryz.underlying315
 a66:=Tryz.isAgg315
 z66:=Tryz.sizeOf315
 v66:=Tryz.zeroValue315
 t70:=Tryz.underlying319
 a70:=Tryz.isAgg319
 z70:=Tryz.sizeOf319
 v70:=Tryz.zeroValue319
 t76:=Tryz.underlying345
 a76:=Tryz.isAgg345
 z76:=Tryz.sizeOf345
 v76:=Tryz.zeroValue345
 t77:=Tryz.underlying346
 a77:=Tryz.isAgg346
 z77:=Tryz.sizeOf346
 v77:=Tryz.zeroValue346}
end Go.Proofs.YtlhedpgobaellaaGreatDoor
namespace Go.Proofs.YtlhedpgobaellaaGreatDoor
open Go.RowKit Go.Sort
attribute [local irreducible] Kj
def l9(G:ByteArray→List (List Vl))(r:Ru):List (List Vl)×Int:=if (oJ G r).2≠0 then ([],(oJ G r).2) else
 if (tH r.h [] (oJ G r).1).2≠0 then ([],(tH r.h [] (oJ G r).1).2) else (mS cP (tH r.h [] (oJ G r).1).1,0)
abbrev TF:Type:={t:List Vl // t.length≤6}
instance:Inhabited TF:=⟨⟨[],Zm⟩⟩
abbrev TF.v(t:TF):V:=vls .free t.1
theorem qa:aE Tryz.prog 54=some (LB.aAq .leaf (.sl (.agg 3) .nil [])):=Zz
theorem ra(a b:TF)(h:Hp):aL Tryz.prog 55 [a.v,b.v] h (.bool (decide (cP a.1 b.1=0))):=by
 refine aI (fun L=>trivial) fun h' nx hh=>aB L.aYA fun hd=>?_;have C1:=fun h=>qF .free a.1 b.1 (by have:=a.2;omega) b.v h (.inl ⟨.free,rfl⟩);refine ZK ?_;have hi:(cP a.1 b.1==0)=decide (cP a.1 b.1=0):=rfl;refine aue hi ?_;exact aC h' (leo hd) ⟨rfl,rfl⟩
theorem jo(G:ByteArray→List (List Vl))(b:List Li):∀(ks:List Nat) (es:List (List Tr)),es.length≤20000→(lY G b ks es).1.length≤20000
 | [],es,h=>h
 |k::ks,es,h=>by
  rw[b8];split
  ·simp
  split
  ·simp
  exact jo G b ks _ or
theorem su(G:ByteArray→List (List Vl))(r:Ru):(oJ G r).1.length≤20000:=by
 unfold oJ;split
 ·simp
 exact jo G _ _ _ Zm
def Gh(h:Hp)(n0:Nat)(M:V)(ac:List TF):Prop:=(ac=[]∧M= .sl .leaf .nil [])∨(ac≠ []∧∃id,n0≤id∧M= .rs id .leaf 0 ac.length∧h id=some (.arr .leaf (ac.map TF.v)))
theorem l7(r:Ru)(S:List Sr)(hS:∀s∈S,fB s.ar s.zs)(h:Hp)(nx:Nat)(N:Nat)(es:List ME)(c:Nat)(hN:h N=some (.mp es c))(hst:gA es S)(hl:r.b.length≤140737488355328):
 aR Tryz.prog 15 [r.v, .map N] h nx fun v h' _=>v= .tup [lst .leaf ((l9 (dJ S) r).1.map fun t=>vls .free t),fM (l9 (dJ S) r).2]∧∀k,k<nx→h' k=h k:=by
 refine aB L.g8z fun hd=>?_;have hd:aV h nx:=hd;have hN2:N<nx:=hd _ _ hN;have hf:r.v.fits (.agg 6)=true:=by cases r;rfl
 have hF:=fun h nx hN=>xI r S hS h nx N es c hN hst hl;obtain⟨P,hP⟩:∃P,oJ (dJ S) r=P:=⟨_,rfl⟩;unfold l9;have hPl:=su (dJ S) r;rw[hP] at hF hPl⊢;have aBp:bE (.agg 2) 0 r.v=r.h.v:=by cases r;rfl
 have hhf:r.h.v.fits (.agg 2)=true:=rfl;have CM:=fun l n es c h hm he=>sL r.h l n es c h hm he;have aFG:=uj r.h;have aOr:=Aw r.h;generalize r.v=X at*;generalize r.h.v=Y at*;refine ZK ?_;refine aue (e2 hf hN2) ?_;refine aU ((hF _ _ ?_).dom.mono ?_)
 ·simp only[Kb];rw[if_neg or];exact hN
 rintro v h2 nx2 aAV ⟨⟨o2,m2,rfl,q1,q2⟩,hd2,_⟩;unfold bT;refine Zn ?_;have hml:=q1.len;have hb2:h2 nx=some (.arr (.agg 6) [X]):=by rw[q2 nx Zw];simp only[go_sem,reduceIte,jA,jB,jC,jD,reduceCtorEq,jE,jF]
 have hk2:Ke nx h h2:=fun k hk=>(q2 k Zw).trans (by simp only[Kb];rw[if_neg or]);have hn2:nx<nx2:=hd2 _ _ hb2;clear q2 hF;obtain⟨ls,Pn⟩:=P;dsimp only at q1 hml hPl⊢;have hve:=eO Pn;by_cases hz:Pn=0
 ·rw[decide_eq_true hz] at hve;rw[if_neg (by simp[hz])];obtain⟨RES,aA1⟩:∃R,tH r.h [] ls=R:=⟨_,rfl⟩;rw[aA1];refine aue (e2 hve hml) ?_
  refine aP (fun q:Nat×V×List TF=>aD 47 0 [(1, .map N),(2, .ptr nx (.agg 6) 0 0),(4, .sl .leaf .nil []),(5, .nilIface),(8,q.2.1),(22, .sl .leaf o2 m2),(23, .int .i64 ls.length),(24, .int .i64 q.1)])
   (fun q hp nx1=>q.1≤ls.length∧nx2≤nx1∧aV hp nx1∧Ke nx2 h2 hp∧Gh hp nx2 q.2.1 q.2.2∧tH r.h (q.2.2.map Subtype.val) (ls.drop q.1)=RES∧q.2.2.length≤q.1)
   (fun q=>ls.length-q.1) (0, .sl .leaf .nil [],[]) ⟨Kk _,Km _,hd2,Hp.same.aA0, .inl ⟨rfl,rfl⟩,aA1,Kk _⟩ (by simp only[WkL,aD,jH,jI,jJ,hml,go_sem,reduceIte,jA,jB,jC,jD,reduceCtorEq,jE,jF]) ?_
  rintro⟨i,M,ac⟩ H nx1 ⟨hi,hnx,hdm,hk,hO,hmt,hlen⟩;generalize hQ:bB _ _ _ _ _=Q0;dsimp only at hi hO hmt hlen;refine Zk ?_;have hb:H nx=some (.arr (.agg 6) [X]):=(hk _ hn2).trans hb2;have hn1:nx<nx1:=or;have hkx:Ke nx h H:=fun k hk'=>(hk k or).trans (hk2 k hk');rcases Kh i ls.length with hlt|hge
  ·have hc:decide ((i:Int)<(ls.length:Int))=true:=dct;obtain⟨n,es,c,hm1,hm2,hm3⟩:=q1.get i hlt;have hm1:m2.getD i (.tup [])= .map n:=hm1;have hw:IntKind.i64.wrap ((i:Int)+1)=((i+1:Nat):Int):=wrp;have aCp:i<m2.length:=or;have hnn:n<nx2:=hd2 _ _ hm2;have hm4:H n=some (.mp es c):=(hk n hnn).trans hm2;have hn3:n<nx1:=or;rw[Ko hlt,aFG] at hmt;have aGi:=aOr ls[i];generalize ls[i]=EE at*;have C5:=CM EE n es c H hm4 hm3.at
   obtain⟨vs,er,hMA⟩:∃vs er,cY r.h EE=(vs,er):=⟨_,_,rfl⟩;rw[hMA] at hmt C5 aGi;dsimp only at hmt C5 aGi;have hve:=eO er;by_cases hz2:er=0
   ·subst hz2;rw[decide_eq_true rfl] at hve;rw[if_neg Zm] at hmt;have hTR:V.sl (.agg 3) (okO 0 .free) (vs.map Vl.v)=TF.v ⟨vs,aGi⟩:=rfl;have hmt:tH r.h ((ac++[(⟨vs,aGi⟩:TF)]).map Subtype.val) (ls.drop (i+1))=RES:=by rw[List.map_append];exact hmt
    rw[hTR] at C5;generalize (⟨vs,aGi⟩:TF)=tv at*;have hlf:(TF.v tv).aAE=true:=rfl;have hff:(TF.v tv).fits .leaf=true:=rfl;have hsn:(ac++[tv]).map TF.v=ac.map TF.v++[TF.v tv]:=Zm;generalize hTV:TF.v tv=TV at*;rcases hO with⟨rfl,rfl⟩|⟨hne,id,hid,rfl,h7⟩
    ·unfold L.aG2;generalize hDC:aS.ops L.aEW=DC;refine aue (e10 hc hm1 aCp hb hn1 hml jG hve aBp hhf) ?_;rw[←hDC];refine bS ?_;refine qO 3 rfl (by simp only[hlf,hff,go_sem,reduceIte,jA,jB,jC,jD,reduceCtorEq,jE,jF]) ?_;simp only[hlf,hff,go_sem,reduceIte,jA,jB,jC,jD,reduceCtorEq,jE,jF];refine eY rfl rfl Zm Zm ?_;refine aue hw ?_;rw[←hQ];exact aG (i+1, .rs (nx1+1) .leaf 0 1,[tv]) Zw ⟨hlt,or,dmo hdm,by exact kep hk, .inr ⟨Zm,nx1+1,or,rfl,by simp only[hTV,List.map_cons,List.map_nil,go_sem,reduceIte,jA,jB,jC,jD,reduceCtorEq,jE,jF]⟩,hmt,by dsimp only;simp⟩ (by simp only[WkL,aD,jH,jI,jJ,hw,go_sem,reduceIte,jA,jB,jC,jD,reduceCtorEq,jE,jF])
    have aWH:id<nx1:=hdm _ _ h7;have aPC:(ac.map TF.v).length=ac.length:=jK ..;refine aue (e12 hc hm1 aCp hb hn1 hml jG hve aBp hhf h7 (e5 hlf hff hw aPC aWH)) ?_;rw[←hQ];exact aG (i+1, .rs (nx1+1) .leaf 0 (ac.length+1),ac++[tv]) Zw ⟨hlt,or,dmo hdm,by exact kep hk, .inr ⟨Zm,nx1+1,or,Zm,by rw[hsn];simp only[go_sem,reduceIte,jA,jB,jC,jD,reduceCtorEq,jE,jF]⟩,hmt,by dsimp only;simp;omega⟩ (by simp only[WkL,aD,jH,jI,jJ,hw,go_sem,reduceIte,jA,jB,jC,jD,reduceCtorEq,jE,jF])
   rw[decide_eq_false hz2] at hve;rw[if_pos hz2] at hmt;refine aue (e10 hc hm1 aCp hb hn1 hml jG hve aBp hhf) ?_;rw[←hQ];refine au ?_;refine aN H (Ka _) ⟨?_,hkx⟩;rw[←hmt];dsimp only;rw[if_pos hz2];rfl
  have hc:decide ((i:Int)<(ls.length:Int))=false:=dcf;rw[Kq or] at hmt;refine aue hc ?_;rw[←hQ];have hRE:RES=(ac.map Subtype.val,0):=hmt.symm;rw[hRE];rcases hO with⟨rfl,rfl⟩|⟨hne,id,hid,rfl,h7⟩
  ·refine au ?_;refine aU ((show aR Tryz.prog 52 [.sl .leaf .nil [], .fn (.func 53) [] []] H nx1 _ from fa {By with} Zz .leaf _ _ _).mono ?_);rintro v h3 nx3 _ ⟨rfl,rfl⟩;unfold bT;refine Zn ?_;refine au ?_;refine aU ((mt qa _ _ _).mono ?_);rintro v h3 nx3 _ ⟨rfl,rfl⟩;unfold bT;refine Zn ?_;refine au ?_;exact aN h3 (Ka _) ⟨rfl,hkx⟩
  have hsw:SWO (ltOf fun x y:TF=>cP x.1 y.1):=oi Subtype.val c3T.swo;refine au ?_;refine aU ((show aR Tryz.prog 52 [.rs id .leaf 0 ac.length, .fn (.func 53) [] []] H nx1 _ from
   tz By Zz TF.v (fun x=>rfl) (fun x y:TF=>cP x.1 y.1) hsw _ [] (fun x y=>qF .free x.1 y.1 (by have:=x.2;omega) (TF.v y) Kd (.inl ⟨.free,rfl⟩)) id ac hne H nx1 h7 or).dom.mono ?_)
  rintro v h3 nx3 _ ⟨⟨rfl,rfl,ys,hp,hs,rfl⟩,hd3,_⟩;unfold bT;refine Zn ?_;have hyl:ys.length=ac.length:=hp.length_eq;rw[←hyl];refine au ?_;refine aU ((da TF.v qa rfl (fun x=>rfl) 55 [] (fun x y=>decide (cP x.1 y.1=0)) Kd id ys (fun x _ y _=>ra x y Kd) or _ _ (bA _) rfl (by simp[Kb])).mono ?_);rintro v h4 nx4 _ ⟨es4,m,rfl,hm4,rfl,htk⟩;unfold bT;refine Zn ?_;have hcs:(cpt (fun x y:TF=>decide (cP x.1 y.1=0)) ys).map Subtype.val=mS cP (ac.map Subtype.val):=by
   rw[Em c3T (fun x:TF=>x.1) ys (by unfold d9 at hs;exact hs.imp fun{x y} h=>by simpa [ltOf] using h)];exact BC c3T fun z=>(hp.map _).mem_iff
  refine qO 2 rfl (by simp only[go_sem,reduceIte,jA,jB,jC,jD,reduceCtorEq,jE,jF]) ?_;refine Zn ?_;refine dO (oY (t:=4) (n:=id) (k:= .leaf) (off:=0) (len:=m) (es:=es4) rfl (by simp[Kb]) or) ?_;rw[List.drop_zero,htk];refine au ?_;have aV6:cpt (fun x y:TF=>decide (cP x.1 y.1=0)) ys≠ []:=fun e=>by
   rw[e] at hcs;exact hne (List.map_eq_nil_iff.1 ((BB c3T _).1 hcs.symm))
  refine aN _ (Ka _) ⟨?_,fun k hk'=>?_⟩
  ·refine Zn ?_;rw[←hcs];generalize cpt (fun x y:TF=>decide (cP x.1 y.1=0)) ys=zs at*;cases zs with
   |nil=>exact absurd rfl aV6
   |cons a b=>simp[lst,fM]
  simp only[Kb,Kf];repeat rw[if_neg or]
  exact hkx k hk'
 rw[decide_eq_false hz] at hve;rw[if_pos hz];refine aue hve ?_;exact aN _ (Ka _) ⟨rfl,hk2⟩
end Go.Proofs.YtlhedpgobaellaaGreatDoor
