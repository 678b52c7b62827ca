/-
Texts of this proof,one behind the other. No conditions.
-/
import Derived.Test.YtlhedpgobaellaaGreatDoorKx
open Go.Proofs.YtlhedpgobaellaaGreatDoor.Hp renaming le_refl→Ka,set→Kb,same→Kc,del→Kd,none→Ke
open List renaming drop_eq_getElem_cons→Kf,drop_of_length_le→Kh,length_nil→Ki,take_of_length_le→Kj,take_succ_eq_append_getElem→Kk,length_take→Km,length_cons→Ko,replicate_succ→Ky,replicate_zero→Kz,take_length→KD,cons_append→KE,getElem_mem→KF,nil_append→KG
open Nat renaming zero_le→Kg,reduceAdd→Kp,reduceSub→Kq,lt_or_ge→Kt,reduceLeDiff→Kv,reduceEqDiff→Kw,le_trans→KA,reduceLT→KB,le_refl→KC
open Go.IntKind renaming wrap→Ks
open Bool renaming and_eq_true→Ku
open Int renaming reduceToNat→Kx
open Nat renaming reduceAdd→jA,reduceSub→jB,reduceLT→jC,reduceLeDiff→jD,reduceEqDiff→jE
open Int renaming reduceToNat→jF,toNat_natCast→jG,natCast_add→jH,natCast_one→jI,natCast_zero→jJ
open List renaming length_map→jK
set_option linter.all false
set_option maxHeartbeats 8000000
namespace Go.Proofs.YtlhedpgobaellaaGreatDoor
open Go.RowKit Go.Sort
attribute [local irreducible] Ks
def yd(r:List (List Tr)×Int)(h:Hp)(nx:Nat)(v:V)(h':Hp):Prop:=∃o ms,v= .tup [.sl .leaf o ms,dC r.2]∧dB h' ms r.1∧∀k,k<nx→h' k=h k
theorem qh(a:Am)(S:List Sr)(x:ByteArray)(hS:∀s∈S,fR s.ar s.zs)(o:Own)(ms:List V)(ls:List (List Tr))(hls:ls.length≤20000)(h:Hp)(nx:Nat)(he:dB h ms ls):
 aR Tryz.prog 139 [a.v, .sl .leaf o ms,yE S x] h nx fun v h' _=>yd (nX a (cD S x) [] ls) h nx v h':=by
 refine aB L.aZ3 fun hd=>?_;have hd:aS h nx:=hd;have hml:=he.len;have CM:=fun l n es c H hm hE=>qM a l n es c H hm hE;have CH:=fun p H=>Fd S x hS p H;have hmk:=qA a (cD S x);have hAf:a.v.fits (.agg 2)=true:=rfl;obtain⟨RES,aAi⟩:∃R,nX a (cD S x) [] ls=R:=⟨_,rfl⟩;rw[aAi];generalize a.v=A at*;generalize yE S x=PT at*;refine ZK ?_;refine aue (e2 hAf hml) ?_
 refine aP (fun q:Nat×Own×List V×List (List Tr)=>aD 38 0 [(1, .sl .leaf o ms),(2,PT),(3, .ptr nx (.agg 2) 0 0),(6, .sl .leaf .nil []),(7, .nilIface),(8, .sl .leaf q.2.1 q.2.2.1),(13, .sl .leaf o ms),(14, .int .i64 ls.length),(15, .int .i64 q.1)])
  (fun q hp nx1=>q.1≤ls.length∧nx<nx1∧aS hp nx1∧Kc nx h hp∧hp nx=some (.arr (.agg 2) [A])∧Acc hp (nx+1) q.2.1 q.2.2.1∧dB h q.2.2.1 q.2.2.2∧nX a (cD S x) q.2.2.2 (ls.drop q.1)=RES∧q.2.2.2.length≤q.1)
  (fun q=>ls.length-q.1) (0, .nil,[],[]) ⟨Kg _,Zw,dmo hd,by exact kep Hp.same.aAr,by simp only[go_sem,reduceIte,jA,jB,jC,jD,reduceCtorEq,jE,jF], .inl ⟨rfl,rfl⟩,trivial,aAi,Kg _⟩ (by simp only[WkL,aD,jH,jI,jJ,hml,go_sem,reduceIte,jA,jB,jC,jD,reduceCtorEq,jE,jF]) ?_
 rintro⟨i,oo,om,ol⟩ H nx1 ⟨hi,hnx,hdm,hk,hb,aAO,hE,hmt,hlen⟩;generalize hQ:aZ _ _ _ _ _=Q0;dsimp only at hi aAO hE hmt hlen;refine Zk ?_;have hol:=hE.len;have hle:h.le H:=fun k b e=>(hk k (hd _ _ e)).trans e;rcases Kt i ls.length with hlt|hge
 ·have hc:decide ((i:Int)<(ls.length:Int))=true:=dct;obtain⟨n,es,c,hm1,hm2,hm3⟩:=he.get i hlt;have hm1:ms.getD i (.tup [])= .map n:=hm1;have hw:IntKind.i64.wrap ((i:Int)+1)=((i+1:Nat):Int):=wrp;have aDt:i<ms.length:=or;have hm4:H n=some (.mp es c):=hle _ _ hm2;have hn2:n<nx:=hd _ _ hm2;rw[Kf hlt,hmk] at hmt;have hEM:AN h (.map n) ls[i]:=⟨n,es,c,rfl,hm2,hm3⟩;generalize ls[i]=EE at*;have C5:=CM EE n es c H hm4 hm3.at
  have aDB:∀H:Hp,H.aAy oo nx=H nx:=fun H=>kZ fun id e=>by have:=aAO.ge id e;omega
  obtain⟨vs,er,hP⟩:∃vs er,bY a EE=(vs,er):=⟨_,_,rfl⟩;rw[hP] at hmt C5;dsimp only at hmt C5;have hve:=dK er;have hn3:n<nx1:=or;by_cases hz:er=0
  ·subst hz;rw[decide_eq_true rfl] at hve;rw[if_neg Zm] at hmt;refine aue (e9 hc hm1 aDt hb hnx hAf hml jG hve) ?_;have C5:=fun H=>CH (okO 0 .free,vs) H;have hTR:TR.v (okO 0 .free,vs)= .sl (.agg 3) (okO 0 .free) (vs.map Vl.v):=rfl;rw[hTR] at C5;have C1:=C5;generalize hB:nL (cD S x) vs=B at*;cases B with
   |true=>
    rw[if_pos rfl] at hmt;refine aue (e2 hve hw) ?_;rw[←hQ];exact aF (i+1,oo,om,ol) Zw ⟨hlt,hnx,hdm,hk,hb,aAO,hE,hmt,Zw⟩ (by simp only[WkL,aD,jH,jI,jJ,hw,go_sem,reduceIte,jA,jB,jC,jD,reduceCtorEq,jE,jF])
   |false=>
    rw[if_neg Zm] at hmt;have hom:om.length≤1000000:=or;refine aue (e4 hve hw hom aDB) ?_;rw[←hQ];exact aF (i+1,_,om++[.map n],ol++[EE]) Zw ⟨hlt,or,dmo hdm,gm hk aAO,by simp only[aDB,hb,hnx,go_sem,reduceIte,jA,jB,jC,jD,reduceCtorEq,jE,jF],Acc.new _ Zm or,hE.snoc hEM,hmt,by dsimp only;simp;omega⟩ (by simp only[WkL,aD,jH,jI,jJ,hw,go_sem,reduceIte,jA,jB,jC,jD,reduceCtorEq,jE,jF])
  rw[decide_eq_false hz] at hve;rw[if_pos hz] at hmt;refine aue (e9 hc hm1 aDt hb hnx hAf hml jG hve) ?_;rw[←hQ];refine au ?_;refine aN H (Ka _) ⟨.nil,[],?_,?_,hk⟩
  ·rw[←hmt];rfl
  rw[←hmt];trivial
 have hc:decide ((i:Int)<(ls.length:Int))=false:=dcf;rw[Kh or] at hmt;refine aue hc ?_;rw[←hQ];refine au ?_;refine aN H (Ka _) ⟨oo,om,?_,?_,hk⟩
 ·rw[←hmt];rfl
 rw[←hmt];exact hE.keep hd hk
theorem dB.mp{h h':Hp}(hk:∀n es c,h n=some (.mp es c)→h' n=some (.mp es c)):∀{ms:List V} {ls:List (List Tr)},dB h ms ls→dB h' ms ls
 | [],[],_=>trivial
 |_::_,_::_,e=>by
  obtain⟨⟨n,es,c,p,q,r⟩,e2⟩:=e;exact⟨⟨n,es,c,p,hk _ _ _ q,r⟩,dB.mp hk e2⟩
theorem x9{h h2:Hp}{n0 nx:Nat}{o:Own}{es:List V}(a:Acc h n0 o es)(hd:aS h nx)(hk:∀m,m<nx→h2 m=h m):Acc h2 n0 o es:=by
 rcases a with a|⟨p,id,q,r,s⟩
 ·exact .inl a
 exact .inr ⟨p,id,q,r,(hk id (hd _ _ s)).trans s⟩
theorem GF{h:Hp}{n0:Nat}{oo:Own}{om:List V}(a:Acc h n0 oo om){n:Nat}{es:List ME}{c:Nat}(e:h n=some (.mp es c)){H:Hp}{b:Option Blk}(hH:H n=b):H.aAy oo n=b:=by
 rw[kZ fun id q hn=>?_]
 ·exact hH
 rcases a with⟨_,q2⟩|⟨_,id2,_,q2,q3⟩
 ·rw[q2] at q;cases q
 rw[q2] at q;injection q with q;rw[q,←hn,e] at q3;cases q3
theorem Hm{h:Hp}{n0 nx:Nat}{oo:Own}{om:List V}(a:Acc h n0 oo om)(hd:aS h nx){b c:Blk}:∀(n:Nat) (es:List ME) (k:Nat),h n=some (.mp es k)→(((h.set nx b).aAy oo).set (nx+1) c) n=some (.mp es k):=fun n es k e=>by
 have:=hd _ _ e;have e2:=GF a e (H:=h.set nx b) (b:=some (.mp es k)) (by simp only[Kb];rw[if_neg or];exact e);unfold Kb at e2⊢;rw[if_neg or];exact e2
theorem pm(x:Li)(hr:bO x=true)(h3:x.k=3)(o:Own)(ms:List V)(ls:List (List Tr))(hls:ls.length≤20000)(h:Hp)(nx:Nat)(he:dB h ms ls):
 aR Tryz.prog 140 [x.v, .sl .leaf o ms] h nx fun v h' _=>yd (kD x [] ls) h nx v h':=by
 refine aB L.aZs fun hd=>?_;have hd:aS h nx:=hd;have hml:=he.len;have CS:=fun l n es c h nx hm he=>xM l x hr h3 n es c h nx hm he;have hmk:=pR x;have hf:=Li.aAC x;obtain⟨RES,aAi⟩:∃R,kD x [] ls=R:=⟨_,rfl⟩;rw[aAi];generalize x.v=X at*;refine ZK ?_;refine aue (e2 hf hml) ?_
 refine aP (fun q:Nat×Own×List V×List (List Tr)=>aD 35 0 [(1, .sl .leaf o ms),(2, .ptr nx (.agg 17) 0 0),(4, .sl .leaf .nil []),(5, .nilIface),(6, .sl .leaf q.2.1 q.2.2.1),(12, .sl .leaf o ms),(13, .int .i64 ls.length),(14, .int .i64 q.1)])
  (fun q hp nx1=>q.1≤ls.length∧nx<nx1∧aS hp nx1∧Kc nx h hp∧hp nx=some (.arr (.agg 17) [X])∧Acc hp (nx+1) q.2.1 q.2.2.1∧dB hp q.2.2.1 q.2.2.2∧kD x q.2.2.2 (ls.drop q.1)=RES∧q.2.2.2.length≤q.1)
  (fun q=>ls.length-q.1) (0, .nil,[],[]) ⟨Kg _,Zw,dmo hd,by exact kep Hp.same.aAr,by simp only[go_sem,reduceIte,jA,jB,jC,jD,reduceCtorEq,jE,jF], .inl ⟨rfl,rfl⟩,trivial,aAi,Kg _⟩ (by simp only[WkL,aD,jH,jI,jJ,hml,go_sem,reduceIte,jA,jB,jC,jD,reduceCtorEq,jE,jF]) ?_
 rintro⟨i,oo,om,ol⟩ H nx1 ⟨hi,hnx,hdm,hk,hb,aAO,hE,hmt,hlen⟩;generalize hQ:aZ _ _ _ _ _=Q0;dsimp only at hi aAO hE hmt hlen;refine Zk ?_;have hol:=hE.len;have hle:h.le H:=fun k b e=>(hk k (hd _ _ e)).trans e;rcases Kt i ls.length with hlt|hge
 ·have hc:decide ((i:Int)<(ls.length:Int))=true:=dct;obtain⟨n,es,c,hm1,hm2,hm3⟩:=he.get i hlt;have hm1:ms.getD i (.tup [])= .map n:=hm1;have hw:IntKind.i64.wrap ((i:Int)+1)=((i+1:Nat):Int):=wrp;have aDt:i<ms.length:=or;have hm4:H n=some (.mp es c):=hle _ _ hm2;rw[Kf hlt,hmk] at hmt;generalize ls[i]=EE at*;refine aue (e8 hc hm1 aDt hb hnx hml jG hf) ?_;refine aV ((CS EE n es c H nx1 hm4 hm3).dom.mono ?_);rintro v h2 nx2 aAS ⟨⟨hR,hk2⟩,hd2,_⟩;unfold bW;obtain⟨P,hP⟩:∃P,cZ EE x=P:=⟨_,rfl⟩;rw[hP] at hR hmt;have hb2:h2 nx=some (.arr (.agg 17) [X]):=(hk2 nx hnx).trans hb;have aAO:=x9 aAO hdm hk2;have hks:Kc nx h h2:=fun k hk'=>(hk2 k or).trans (hk k hk');have hE2:=hE.keep hdm hk2;have hdm:=hd2;have aGd:nx<nx2:=or;have hom:om.length≤1000000:=or;have aDB:∀H:Hp,H.aAy oo nx=H nx:=fun H=>kZ fun id e=>by have:=aAO.ge id e;omega
  clear hE;obtain⟨Po,Pn⟩:=P;cases Po with
  |some l=>
   obtain⟨n2,es2,c2,rfl,q1,q2,q3,q4⟩:=hR;refine Zn ?_;refine aue (e3 hw hom aDB) ?_;rw[←hQ];refine aF (i+1,_,om++[.map n2],ol++[l]) Zw ⟨hlt,or,dmo hd2,gm hks aAO,by simp only[aDB,hb2,aGd,go_sem,reduceIte,jA,jB,jC,jD,reduceCtorEq,jE,jF],Acc.new _ Zm or,?_,hmt,by dsimp only;simp;omega⟩ (by simp only[WkL,aD,jH,jI,jJ,hw,go_sem,reduceIte,jA,jB,jC,jD,reduceCtorEq,jE,jF]);refine dB.mp ?_ (hE2.snoc ⟨n2,es2,c2,rfl,q3,q4⟩);exact Hm aAO hdm
  |none=>
   have hR:v= .tup [.aAG, .bool false,dC Pn]:=hR;subst hR;have hve:=dK Pn;have hmt:(if Pn≠0 then ([],Pn) else kD x ol (ls.drop (i+1)))=RES:=hmt;refine Zn ?_;by_cases hz:Pn=0
   ·subst hz;rw[decide_eq_true rfl] at hve;rw[if_neg Zm] at hmt;refine aue (e2 hve hw) ?_;rw[←hQ];exact aF (i+1,oo,om,ol) Zw ⟨hlt,or,hd2,hks,hb2,aAO,hE2,hmt,Zw⟩ (by simp only[WkL,aD,jH,jI,jJ,hw,go_sem,reduceIte,jA,jB,jC,jD,reduceCtorEq,jE,jF])
   rw[decide_eq_false hz] at hve;rw[if_pos hz] at hmt;refine aue hve ?_;rw[←hQ];refine au ?_;refine aN h2 (Ka _) ⟨.nil,[],?_,?_,hks⟩
   ·rw[←hmt];rfl
   rw[←hmt];trivial
 have hc:decide ((i:Int)<(ls.length:Int))=false:=dcf;rw[Kh or] at hmt;refine aue hc ?_;rw[←hQ];refine au ?_;refine aN H (Ka _) ⟨oo,om,?_,?_,hk⟩
 ·rw[←hmt];rfl
 rw[←hmt];exact hE
end Go.Proofs.YtlhedpgobaellaaGreatDoor
namespace Go.Proofs.YtlhedpgobaellaaGreatDoor
open Go.RowKit Go.Sort
def sE{α:Type}(l:List α):List α:=l.take 20001
theorem Fw{α:Type}(l:List α):(sE l).length≤20001:=by unfold sE;rw[Km];omega
theorem Dy{α:Type}(l:List α)(x:α):sE (l++[x])=if (sE l).length≤20000 then sE l++[x] else sE l:=by
 unfold sE;rw[Km];by_cases h:l.length≤20000
 ·rw[if_pos or,Kj (by simp;omega),Kj or]
 rw[if_neg or,List.take_append_of_le_length or]
theorem Fx{α:Type}{l:List α}(h:(sE l).length≤20000):sE l=l:=by
 unfold sE at h⊢;rw[Km] at h;exact Kj or
theorem Dz{α:Type}(l:List α):20000<(sE l).length↔20000<l.length:=by unfold sE;rw[Km];omega
def lC(G:ByteArray→List (List Vl))(x:Li)(es:List (List Tr)):List (List Tr)×Int:=
 if x.k=1 then (sE (yL x.a (G x.a.r) es),0) else if x.k=2 then nX x.a (G x.a.r) [] es else kD x [] es
theorem BW(G:ByteArray→List (List Vl))(x:Li)(es:List (List Tr)):(lC G x es).2=(gX G x es).2:=by
 unfold lC gX;split
 ·rfl
 rfl
theorem da(G:ByteArray→List (List Vl))(x:Li)(es:List (List Tr)):20000<(lC G x es).1.length↔20000<(gX G x es).1.length:=by
 unfold lC gX;split
 ·exact Dz _
 exact Iff.rfl
theorem BX{G:ByteArray→List (List Vl)}{x:Li}{es:List (List Tr)}(h:¬20000<(lC G x es).1.length):(lC G x es).1=(gX G x es).1:=by
 unfold lC at h⊢;unfold gX;split
 ·rename_i h1;rw[if_pos h1] at h;exact Fx (by simpa using h)
 rfl
theorem ib(G:ByteArray→List (List Vl))(b:List Li)(k:Nat)(ks:List Nat)(es:List (List Tr)):jY G b (k::ks) es=if (lC G (b.getD k default) es).2≠0 then ([],(lC G (b.getD k default) es).2) else
 if 20000<(lC G (b.getD k default) es).1.length then ([],11) else jY G b ks (lC G (b.getD k default) es).1:=by
 conv=>lhs;unfold jY
 rw[BW];split
 ·rfl
 by_cases h:20000<(lC G (b.getD k default) es).1.length
 ·rw[if_pos h,if_pos ((da _ _ _).1 h)]
 rw[if_neg h,if_neg (fun e=>h ((da _ _ _).2 e)),BX h]
theorem xV(x:Li):∀(es acc:List (List Tr)),(kD x acc es).1.length≤acc.length+es.length
 | [],acc=>KC _
 |e::r,acc=>by
  rw[pR];split
  ·rename_i l n h;refine KA (xV x r _) ?_;simp only[List.length_append,Ko,Ki];omega
  split
  ·simp
  exact KA (xV x r _) (by rw[Ko];omega)
theorem BU(G:ByteArray→List (List Vl))(x:Li){es:List (List Tr)}(h:es.length≤20000):(lC G x es).1.length≤20001:=by
 unfold lC;split
 ·exact Fw _
 split
 ·have:=mv x.a (G x.a.r) es [];simp only[Ki] at this;omega
 have:=xV x es [];simp only[Ki] at this;omega
def qB(r:Ru):Int:=if dF r=false then 2 else if eF r (kC r) false≠ [] then 8 else 0
def oN(G:ByteArray→List (List Vl))(r:Ru):List (List Tr)×Int:=if qB r≠0 then ([],qB r) else jY G r.b (bA r) [[]]
end Go.Proofs.YtlhedpgobaellaaGreatDoor
namespace Go.Proofs.YtlhedpgobaellaaGreatDoor
open Go.RowKit Go.Sort
attribute [local irreducible] Ks
theorem dl{h:Hp}{r n:Nat}{b:Blk}(e:(h.del r) n=some b):h n=some b∧n≠r:=by
 unfold Kd at e;split at e
 ·cases e
 rename_i q;exact⟨e,q⟩
theorem dl'{h:Hp}{r n:Nat}{b:Blk}(e:h n=some b)(q:n≠r):(h.del r) n=some b:=by
 unfold Kd;rw[if_neg q];exact e
theorem AZ{h:Hp}{r:Nat}{b:Blk}:(h.set r b).del r=h.del r:=by
 funext n;unfold Kd Kb;split<;>rfl
theorem GV{h:Hp}{r n0:Nat}{o:Own}{es:List V}(a:Acc (h.del r) n0 o es):Acc h n0 o es:=by
 rcases a with a|⟨p,id,q,r',s⟩
 ·exact .inl a
 exact .inr ⟨p,id,q,r',(dl s).1⟩
theorem FP{h h':Hp}{n0:Nat}{o:Own}{es:List V}(a:Acc h n0 o es)(hk:∀m,h m=some .tip→h' m=some .tip):Acc h' n0 o es:=by
 rcases a with a|⟨p,id,q,r,s⟩
 ·exact .inl a
 exact .inr ⟨p,id,q,r,hk _ s⟩
theorem AH{h:Hp}{nx:Nat}{oo:Own}{b c:Blk}{n:Nat}(hn:n<nx)(hne:∀id,oo= .tok id→n≠id):(((h.set nx b).aAy oo).set (nx+1) c) n=h n:=by
 have e:=kZ (h:=h.set nx b) hne;unfold Kb at e⊢;rw[if_neg or] at e⊢;exact e
theorem HL{h:Hp}{n0:Nat}{oo:Own}{om:List V}(a:Acc h n0 oo om){n:Nat}{x:Blk}(e:h n=some x)(hx:x≠ .tip):∀id,oo= .tok id→n≠id:=fun id q hn=>by
 rcases a with⟨_,q2⟩|⟨_,id2,_,q2,q3⟩
 ·rw[q2] at q;cases q
 rw[q2] at q;injection q with q;rw[q,←hn,e] at q3;injection q3 with q3;exact hx q3
theorem Ey(a:Am)(L:List (List Vl))(e:List Tr):yL a L [e]=L.filterMap fun t=>gY a t e:=by simp[yL]
theorem B8(S:List Sr)(x:ByteArray)(hS:∀s∈S,fR s.ar s.zs):∃zs:List TR,yc Tryz.prog 261 (FJ (yE S x)) Ke (zs.map fun z=>[z.v])∧cD S x=aQ zs∧(yE S x).aAE=true∧∀L,(yE S x).names L:=by
 have key:∀{l:List Sr} {s:Sr},lkS x l=some s→s∈l:=by
  intro l s h;induction l with
  |nil=>cases h
  |cons a l ih=>
   unfold lkS at h;split at h
   ·injection h with h;rw[←h];exact List.mem_cons_self
   exact List.mem_cons_of_mem _ (ih h)
 unfold yE cD;cases k:lkS x S with
 |none=>exact⟨[],B9,rfl,rfl,fun L=>trivial⟩
 |some s=>exact⟨s.zs,Ei s.ar s.zs (hS s (key k)),rfl,rfl,dy fun z hz=>((hS s (key k)).row z hz).2.2⟩
theorem Cn(a:Am)(ha:a.l.length≤1000000)(S:List Sr)(x:ByteArray)(hS:∀s∈S,fR s.ar s.zs)(o:Own)(ms:List V)(ls:List (List Tr))(hls:ls.length≤20000)(h:Hp)(nx:Nat)(he:dB h ms ls):
 aR Tryz.prog 138 [a.v, .sl .leaf o ms,yE S x] h nx fun v h' _=>∃o ms',v= .sl .leaf o ms'∧dB h' ms' (sE (yL a (cD S x) ls))∧∀k,k<nx→h' k=h k:=by
 refine aB L.aZ4 fun hd=>?_;have hd:aS h nx:=hd;have hml:=he.len;obtain⟨zs,hit,hzs,hlf,hnm⟩:=B8 S x hS;rw[hzs];have CB:=fun(p:TR) l n es c h nx hm he=>zZ a ha p.1 p.2 l n es c h nx hm he;have hAf:a.v.fits (.agg 2)=true:=rfl;have C1:=Ca (yE S x) hlf hnm;generalize a.v=A at*;generalize yE S x=PT at*;refine ZK ?_;refine aue (e2 hAf hml) ?_
 refine aP (fun q:Nat=>aD 41 0 [(1, .sl .leaf o ms),(2,PT),(3, .ptr nx (.agg 2) 0 0),(6, .sl .leaf .nil []),(7, .ptr (nx+1) .leaf 0 0),(13, .sl .leaf o ms),(14, .int .i64 ls.length),(15, .int .i64 q)])
  (fun q hp nx1=>q≤ls.length∧nx+1<nx1∧aS hp nx1∧Kc nx h hp∧hp nx=some (.arr (.agg 2) [A])∧∃oo om,hp (nx+1)=some (.arr .leaf [.sl .leaf oo om])∧Acc hp (nx+2) oo om∧dB hp om (sE (yL a (aQ zs) (ls.take q))))
  (fun q=>ls.length-q) 0 ⟨Kg _,Zw,dmo hd,by exact kep Hp.same.aAr,by simp only[go_sem,reduceIte,jA,jB,jC,jD,reduceCtorEq,jE,jF], .nil,[],by simp only[go_sem,reduceIte,jA,jB,jC,jD,reduceCtorEq,jE,jF], .inl ⟨rfl,rfl⟩,trivial⟩ (by simp only[WkL,aD,jH,jI,jJ,hml,go_sem,reduceIte,jA,jB,jC,jD,reduceCtorEq,jE,jF]) ?_
 rintro i H nx1 ⟨hi,hnx,hdm,hk,hb,oo,om,hb1,aAO,hE⟩;generalize hQ:aZ _ _ _ _ _=Q0;refine Zk ?_;have hle:h.le H:=fun k b e=>(hk k (hd _ _ e)).trans e;rcases Kt i ls.length with hlt|hge
 ·have hc:decide ((i:Int)<(ls.length:Int))=true:=dct;obtain⟨n,es,c,hm1,hm2,hm3⟩:=he.get i hlt;have hm1:ms.getD i (.tup [])= .map n:=hm1;have hw:IntKind.i64.wrap ((i:Int)+1)=((i+1:Nat):Int):=wrp;have aDt:i<ms.length:=or;have hn2:n<nx:=hd _ _ hm2;have htk:ls.take (i+1)=ls.take i++[ls[i]]:=Kk hlt;generalize ls[i]=EE at*;obtain⟨PRE,aX6⟩:∃P,yL a (aQ zs) (ls.take i)=P:=⟨_,rfl⟩;rw[aX6] at hE;refine aue (e5 hc hm1 aDt hml jG) ?_;obtain⟨J,hJ⟩:∃J:Nat→Hp→Prop,∀j g,J j g↔(Kc nx h g∧g nx=some (.arr (.agg 2) [A])∧g nx1=some (.arr .leaf [.map n])∧∃oo om,g (nx+1)=some (.arr .leaf [.sl .leaf oo om])∧Acc g (nx+2) oo om∧dB g om (sE (PRE++((aQ zs).take j).filterMap fun t=>gY a t EE))):=⟨_,fun _ _=>Iff.rfl⟩;have n1:nx<nx1:=or;have n2:(nx=nx1)=False:=fls;have n3:(nx1=nx1+2)=False:=fls;have n4:(nx=nx1+2)=False:=fls;have n5:(nx+1=nx1)=False:=fls;have n6:(nx+1=nx1+2)=False:=fls
  refine nC hit rfl (fun x hx=>by obtain⟨w,_,rfl⟩:=List.mem_map.1 hx;rfl) (by exact dmo hdm) (fun j g _=>J j (g.del (nx1+2))) (fun _ _ _=>False)
   (fun j g _ hI=>bH _) (fun j g n1 n2 hI _=>hI) (fun j g n1 b hI=>by dsimp only at hI⊢;rw[AZ];exact hI) (fun e h n1 n2 hE _=>hE) (fun e h n1 b hE=>hE)
   ?_ ?_ ?_ (fun e h n hE=>hE.elim)
  ·refine(hJ _ _).2 ⟨by exact kep hk,by simp only[hb,n1,n2,n4,go_sem,reduceIte,jA,jB,jC,jD,reduceCtorEq,jE,jF],by simp only[n3,go_sem,reduceIte,jA,jB,jC,jD,reduceCtorEq,jE,jF],oo,om,by simp only[hb1,n5,n6,go_sem,reduceIte,jA,jB,jC,jD,reduceCtorEq,jE,jF],FP aAO (fun m em=>?_),?_⟩
   ·have:=hdm _ _ em;simp only[Kb,Kd];repeat rw[if_neg or]
    exact em
   rw[List.take_zero,List.filterMap_nil,List.append_nil];refine dB.mp (fun m es3 c3 em=>?_) hE;have:=hdm _ _ em;simp only[Kb,Kd];repeat rw[if_neg or]
   exact em
  ·intro j hj g nx3 Y hji aD3 hY aFS;dsimp only at aD3 hY hji;rw[jK] at hj;obtain⟨k1,k2,k3,oo2,om2,k4,k5,k6⟩:=(hJ _ _).1 hji;have hx:(zs.map fun z=>[z.v])[j]'(by rw[jK];exact hj)=[(zs[j]).v]:=Zm;have htj:(aQ zs).take (j+1)=(aQ zs).take j++[(zs[j]).2]:=by rw[Kk (by simpa using hj)];simp
   have hfz:=TR.aAC zs[j];have CB:=CB zs[j];rw[show vls zs[j].1 zs[j].2=zs[j].v from rfl] at CB;simp only[aAR,hx,List.set_cons_succ,List.set_cons_zero];generalize zs[j].v=Z at*;generalize zs[j].2=tt at*;refine aue hfz ?_;refine lP hY fun X'=>?_;dsimp only;have aPt:aS (g.set (nx1+2) X') nx3:=aFS.set aD3 (KC _) X';have eG:g.del (nx1+2)=(g.set (nx1+2) X').del (nx1+2):=AZ.symm;have hGr:(g.set (nx1+2) X') (nx1+2)=some X':=by simp only[Kb,if_true]
   rw[eG] at k1 k2 k3 k4 k5 k6;generalize g.set (nx1+2) X'=G at*;have d2:=(dl k2).1;have d3:=(dl k3).1;have d4:=(dl k4).1;have hm4:G n=some (.mp es c):=(dl ((k1 n hn2).trans hm2)).1;have b1:nx<nx3:=or;have b2:nx+1<nx3:=or;have b3:nx1<nx3:=or;have b4:n<nx3:=or;refine aue (e8 hfz d2 d3 b1 b3 hAf b4 hm4) ?_;refine aV ((CB EE n es c G nx3 hm4 hm3).dom.mono ?_);rintro v h2 nx4 aAS ⟨⟨hR,hk2⟩,hd2,_⟩;unfold bW;have hdm:=hd2;have aAO:Acc h2 (nx+2) oo2 om2:=x9 (GV k5) aPt hk2;have aFX:Acc (h2.del (nx1+2)) (nx+2) oo2 om2:=FP k5 fun m em=>by
    have q:=dl em;exact dl' ((hk2 m (aPt _ _ q.1)).trans q.1) q.2
   have hE2:dB (h2.del (nx1+2)) om2 _:=dB.mp (fun m es3 c3 em=>by
    have q:=dl em;exact dl' ((hk2 m (aPt _ _ q.1)).trans q.1) q.2) k6
   have f2:=(hk2 _ b1).trans d2;have f3:=(hk2 _ b3).trans d3;have f4:=(hk2 _ b2).trans d4;have fr:=(hk2 _ aD3).trans hGr;have hks:Kc nx h (h2.del (nx1+2)):=fun m hm=>by
    have e:=k1 m hm;unfold Kd at e⊢;rw[if_neg or] at e⊢;exact(hk2 m or).trans e
   have c1:nx<nx4:=or;have c2:nx+1<nx4:=or;have c3:nx1<nx4:=or;obtain⟨P,hP⟩:∃P,gY a tt EE=P:=⟨_,rfl⟩;rw[hP] at hR;have hfm:((aQ zs).take (j+1)).filterMap (fun t=>gY a t EE)=((aQ zs).take j).filterMap (fun t=>gY a t EE)++P.toList:=by
    rw[htj,List.filterMap_append];congr 1;cases P<;>simp[hP]
   generalize ((aQ zs).take j).filterMap (fun t=>gY a t EE)=FM at*;cases P with
   |none=>
    have hR:v= .tup [.aAG, .bool false]:=hR;subst hR;refine Zn ?_;refine aue (e3 f4 c2 c1) ?_;refine fV fr ((hJ _ _).2 ⟨hks,by exact dl' f2 or,by exact dl' f3 or,oo2,om2,by exact dl' f4 or,aFX,?_⟩);rw[hfm];simpa using hE2
   |some l=>
    obtain⟨n7,es7,c7,rfl,q1,q2,q3,q4⟩:=hR;refine Zn ?_;have hfm:PRE++((aQ zs).take (j+1)).filterMap (fun t=>gY a t EE)=(PRE++FM)++[l]:=by rw[hfm];simp
    have hcs:=Dy (PRE++FM) l;rw[←hfm] at hcs;have hol:=hE2.len;by_cases aCu:(sE (PRE++FM)).length≤20000
    ·rw[if_pos aCu] at hcs;have g1:decide ((om2.length:Int)≤20000)=true:=dct;have hom:om2.length≤1000000:=or;have aDB:∀H:Hp,H.aAy oo2 (nx+1)=H (nx+1):=fun H=>kZ fun id e=>by have:=aAO.ge id e;omega
     refine aue (e6 f4 c2 c1 g1 hom aDB) ?_;have hr4:nx1+2<nx4:=or;have aY6:∀id,oo2= .tok id→nx1+2≠id:=fun id q hn=>by
      rcases aFX with⟨_,q2⟩|⟨_,id2,_,q2,q3⟩
      ·rw[q2] at q;cases q
      rw[q2] at q;injection q with q;exact(dl q3).2 (q.trans hn.symm)
     have st:∀m:Nat,m≠nx+1→∀{H:Hp} {b:Blk},(H.set (nx+1) b) m=H m:=fun m hm H b=>by simp only[Kb];rw[if_neg hm]
     have hal:∀{m:Nat} {x:Blk},(h2.del (nx1+2)) m=some x→x≠ .tip→m≠nx+1→(((((h2.set nx4 .tip).aAy oo2).set (nx4+1) .tip).set (nx+1) (.arr .leaf [.sl .leaf (.tok (nx4+1)) (om2++[.map n7])])).del (nx1+2)) m=some x:=fun{m x} e hx hm=>by
      have q:=dl e;refine dl' ?_ q.2;rw[st m hm,AH (hdm _ _ q.1) (HL aAO q.1 hx)];exact q.1
     refine fV ?_ ((hJ _ _).2 ⟨?_,hal (dl' f2 or) Zm or,hal (dl' f3 or) Zm or, .tok (nx4+1),om2++[.map n7],dl' (by simp only[Kb,if_true]) or,?_,?_⟩)
     ·dsimp only;rw[st _ or,AH hr4 aY6];exact fr
     ·intro m hm;rw[←hks m hm];dsimp only[Kd];rw[if_neg or,if_neg or,st _ or,AH or fun id q=>by have:=aAO.ge id q;omega]
     ·exact .inr ⟨Zm,nx4+1,or,rfl,by simp only[Kb,Kd];rw[if_neg or,if_neg or,if_pos trivial]⟩
     rw[hcs];refine dB.mp (fun m es3 c3 em=>hal em Zm fun e=>?_) (hE2.snoc ⟨n7,es7,c7,rfl,dl' q3 or,q4⟩);rw[e] at em;have:=(dl em).1;rw[f4] at this;cases this
    rw[if_neg aCu] at hcs;have g1:decide ((om2.length:Int)≤20000)=false:=dcf;refine aue (e4 f4 c2 c1 g1) ?_;refine fV fr ((hJ _ _).2 ⟨hks,by exact dl' f2 or,by exact dl' f3 or,oo2,om2,by exact dl' f4 or,aFX,?_⟩);rw[hcs];exact hE2
  intro g nx3 hji aD3 aFS;dsimp only at aD3 hji;rw[jK,show zs.length=(aQ zs).length by simp,] at hji;obtain⟨k1,k2,k3,oo2,om2,k4,k5,k6⟩:=(hJ _ _).1 hji;rw[KD] at k6;refine aue hw ?_;rw[←hQ];exact aF (i+1) or ⟨hlt,or,by exact dmo aFS,k1,k2,oo2,om2,k4,k5,by rw[htk,Ez,Ey,aX6];exact k6⟩ (by simp only[WkL,aD,jH,jI,jJ,hw,go_sem,reduceIte,jA,jB,jC,jD,reduceCtorEq,jE,jF])
 have hc:decide ((i:Int)<(ls.length:Int))=false:=dcf;have hie:i=ls.length:=or;rw[hie,KD] at hE;refine aue (e2 hc hb1) ?_;rw[←hQ];refine aue hb1 ?_;refine aC H (Ka _) ⟨oo,om,rfl,hE,hk⟩
end Go.Proofs.YtlhedpgobaellaaGreatDoor
namespace Go.Proofs.YtlhedpgobaellaaGreatDoor
open Go.RowKit Go.Sort
attribute [local irreducible] Ks
theorem ze{x:Li}(h:bO x=true):x.a.l.length≤6:=by
 unfold bO at h;split at h
 ·unfold mU at h;simp only[Ku,decide_eq_true_eq] at h;exact h.1.1.1.1.2
 simp only[Ku,decide_eq_true_eq] at h;rw[h.1.1.2.2.1];exact Kg _
theorem pu{x:Li}(h:bO x=true)(h1:x.k≠1)(h2:x.k≠2):x.k=3:=by
 unfold bO at h;rw[if_neg (by simp[h1,h2])] at h;simp only[Ku,decide_eq_true_eq] at h;exact h.1.1.1
theorem vw(x:Li)(hr:bO x=true)(S:List Sr)(hS:∀s∈S,fR s.ar s.zs)(o:Own)(ms:List V)(ls:List (List Tr))(hls:ls.length≤20000)(h:Hp)(nx:Nat)(he:dB h ms ls)(N:Nat)(es:List ME)(c:Nat)(hN:h N=some (.mp es c))(hst:gW es S):
 aR Tryz.prog 90 [x.v, .sl .leaf o ms, .map N] h nx fun v h' _=>yd (lC (cD S) x ls) h nx v h':=by
 refine aB L.bAq fun hd=>?_;have hd:aS h nx:=hd;have hml:=he.len;have hf:=Li.aAC x;obtain⟨r,hr1,hr2⟩:=hst.get x.a.r;have hN2:N<nx:=hd _ _ hN;have h6:=ze hr;have CM:=fun h nx he=>Cn x.a or S x.a.r hS o ms ls hls h nx he;have CN:=fun h nx he=>qh x.a S x.a.r hS o ms ls hls h nx he;have CV:=fun h3 h nx he=>pm x hr h3 o ms ls hls h nx he;obtain⟨T,hT,hta,htk,htr⟩:∃T,x.v= .agg T∧(.agg ((T.drop 1).take 2))=x.a.v∧T.getD 0 (.tup [])= .int .i64 x.k∧T.getD 1 (.tup [])= .str x.a.r:=⟨_,rfl,rfl,rfl,rfl⟩;have hla:bB (.agg 2) 1 (.agg T)=x.a.v:=hta;have hAf:x.a.v.fits (.agg 2)=true:=rfl;have hes:∀{h':Hp},(∀k,k<nx→h' k=h k)→dB h' ms ls:=fun hk=>he.keep hd hk;have hk0:∀{b:Blk} (k:Nat),k<nx→(h.set nx b) k=h k:=fun k hk=>by simp only[Kb];rw[if_neg or]
 rw[hT] at hf CV⊢;unfold lC;simp only[Ko,Ki,Kp,Kq,Ky,Kz,KE,KG,V.undef];by_cases h1:x.k=1
 ·rw[if_pos h1];have g1:(x.k==1)=true:=bqt;generalize x.a.v=A at*;refine aue (e9 hf htk g1 hla hAf htr hN2 hN hr1) ?_;refine aV ((hr2▸CM _ _ (hes hk0)).dom.mono ?_);rintro v h2 nx2 aAS ⟨⟨o2,m2,rfl,q1,q2⟩,hd2,_⟩;unfold bW;simp only[go_sem,reduceIte,Kp,Kq,KB,Kv,reduceCtorEq,Kw,Kx];refine au ?_;refine aN h2 (Ka _) ⟨o2,m2,rfl,q1,fun k hk=>(q2 k Zw).trans (hk0 k hk)⟩
 rw[if_neg h1];have g1:(x.k==1)=false:=bqf;by_cases h2:x.k=2
 ·rw[if_pos h2];have g2:(x.k==2)=true:=bqt;generalize x.a.v=A at*;refine aue (e10 hf htk g1 g2 hla hAf htr hN2 hN hr1) ?_;refine aV ((hr2▸CN _ _ (hes hk0)).dom.mono ?_);rintro v h2 nx2 aAS ⟨⟨o2,m2,rfl,q1,q2⟩,hd2,_⟩;unfold bW;simp only[go_sem,reduceIte,Kp,Kq,KB,Kv,reduceCtorEq,Kw,Kx];refine au ?_;refine aN h2 (Ka _) ⟨o2,m2,rfl,q1,fun k hk=>(q2 k Zw).trans (hk0 k hk)⟩
 rw[if_neg h2];have g2:(x.k==2)=false:=bqf;have h3:=pu hr h1 h2;refine aue (e4 hf htk g1 g2) ?_;refine aV ((CV h3 _ _ (hes hk0)).dom.mono ?_);rintro v h2 nx2 aAS ⟨⟨o2,m2,rfl,q1,q2⟩,hd2,_⟩;unfold bW;simp only[go_sem,reduceIte,Kp,Kq,KB,Kv,reduceCtorEq,Kw,Kx];refine au ?_;refine aN h2 (Ka _) ⟨o2,m2,rfl,q1,fun k hk=>(q2 k Zw).trans (hk0 k hk)⟩
theorem CU(r:Ru)(hl:r.b.length≤140737488355328)(h:Hp):aM Tryz.prog 42 [r.v] h (dC (qB r)):=by
 refine aJ (fun L=>dS L _) fun h' nx hh=>aB L.bBU fun hd=>?_;have C1:=fun h=>dw r h;have hf:r.v.fits (.agg 6)=true:=by cases r;rfl
 unfold qB;have hU:=fun hr h=>vQ r hr h;generalize r.v=X at*;simp only[Ko,Ki,Kp,Kq,Ky,Kz,KE,KG,V.undef];cases hr:dF r with
 |false=>
  rw[hr] at C1;refine aue hf ?_;refine aC h' (leo hd) ⟨rfl,rfl⟩
 |true=>
  rw[hr] at C1;have C2:=hU hr;rw[if_neg Zm];generalize eF r (kC r) false=L at*;have hl:(L.map V.str).length=L.length:=List.length_map ..;by_cases hz:L=[]
  ·have g:decide ((L.length:Int)>0)=false:=by subst hz;rfl
   rw[if_neg (by simpa using hz)];refine aue (e3 hf hl g) ?_;refine aC h' (leo hd) ⟨rfl,rfl⟩
  have g:decide ((L.length:Int)>0)=true:=by rw[decide_eq_true];cases L;exact absurd rfl hz;simp
  rw[if_pos hz];refine aue (e3 hf hl g) ?_;refine aC h' (leo hd) ⟨rfl,rfl⟩
end Go.Proofs.YtlhedpgobaellaaGreatDoor
namespace Go.Proofs.YtlhedpgobaellaaGreatDoor
open Go.RowKit Go.Sort
attribute [local irreducible] Ks
theorem Ak(a b:V)(h:Hp):aM Tryz.prog 44 [a,b] h (.bool true):=by
 refine aJ (fun L=>trivial) fun h' nx hh=>aB L.bBS fun hd=>?_;refine ZK ?_;refine au ?_;exact aC h' (Ka _) ⟨rfl,rfl⟩
theorem vt(r:Ru)(hr:dF r=true)(S:List Sr)(hS:∀s∈S,fR s.ar s.zs)(h:Hp)(nx:Nat)(N:Nat)(es:List ME)(c:Nat)(hN:h N=some (.mp es c))(hst:gW es S):
 aR Tryz.prog 43 [r.v, .map N, .fn (.func 44) [] []] h nx fun v h' _=>yd (jY (cD S) r.b (bA r) [[]]) h nx v h':=by
 refine aB L.bBT fun hd=>?_;have hd:aS h nx:=hd;have hN2:N<nx:=hd _ _ hN;have C1:=ed r hr;obtain⟨b1,b2,b3⟩:=dE hr;have hol:(bA r).length≤8:=by
  unfold bA pP;rw[jK];exact KA (mP ..) b2
 have aCt:=rO r;generalize bA r=O at*;obtain⟨oo,hoo⟩:=bX .leaf (O.map kV);rw[hoo] at C1;simp only[Ru.v] at C1;obtain⟨RES,aAi⟩:∃R,jY (cD S) r.b O [[]]=R:=⟨_,rfl⟩;rw[aAi];have hfc:=ib (cD S) r.b;refine ZK ?_;refine aue (e3 Ru.v.eq_1 trs.eq_1 (@jK Nat V)) ?_;refine pF ?_;refine aue (@jK Nat V) ?_
 refine aP (fun q:Nat×Own×List V×List (List Tr)=>aD 52 0 [(1, .map N),(2, .fn (.func 44) [] []),(3, .ptr nx (.agg 6) 0 0),(6, .sl .leaf .nil []),(7, .nilIface),(8, .sl .leaf q.2.1 q.2.2.1),(16, .sl .leaf oo (O.map kV)),(17, .int .i64 O.length),(18, .int .i64 q.1)])
  (fun q hp nx1=>q.1≤O.length∧nx<nx1∧aS hp nx1∧Kc nx h hp∧hp nx=some (.arr (.agg 6) [.agg [.str r.h.r, .sl (.agg 4) r.h.o (r.h.l.map Tr.v), .int .i64 r.g, .int .i64 r.c, .sl (.agg 17) r.o (r.b.map Li.v), .int .i64 r.at_]])∧dB hp q.2.2.1 q.2.2.2∧q.2.2.2.length≤20000∧jY (cD S) r.b (O.drop q.1) q.2.2.2=RES)
  (fun q=>O.length-q.1) (0, .tok (nx+2),[.map (nx+1)],[[]]) ⟨Kg _,Zw,by exact dmo hd,by exact kep Hp.same.aAr,by simp only[go_sem,reduceIte,jA,jB,jC,jD,reduceCtorEq,jE,jF],⟨⟨nx+1,[],0,rfl,by simp only[go_sem,reduceIte,jA,jB,jC,jD,reduceCtorEq,jE,jF],wu⟩,trivial⟩,Zm,aAi⟩ (by simp only[WkL,aD,jH,jI,jJ,jK,go_sem,reduceIte,jA,jB,jC,jD,reduceCtorEq,jE,jF]) ?_
 rintro⟨i,o,ms,ls⟩ H nx1 ⟨hi,hnx,hdm,hk,hb,hE,hlen,hmt⟩;generalize hQ:aZ _ _ _ _ _=Q0;dsimp only at hi hE hmt hlen;refine Zk ?_;rcases Kt i O.length with hlt|hge
 ·have hc:decide ((i:Int)<(O.length:Int))=true:=dct;have hg:(O.map kV).getD i (.tup [])= .int .i64 O[i]:=aL kV O i hlt;have hw:IntKind.i64.wrap ((i:Int)+1)=((i+1:Nat):Int):=wrp;have hkb:=aCt O[i] (KF _);rw[Kf hlt,hfc] at hmt;have hD:r.b.getD O[i] default=r.b[O[i]]:=by rw[List.getD_eq_getElem?_getD,List.getElem?_eq_getElem hkb];rfl
  have hg2:=aL Li.v r.b O[i] hkb;have hrl:=b3 r.b[O[i]] (KF _);rw[hD] at hmt;generalize r.b[O[i]]=l at hg2 hrl hmt;generalize O[i]=k at hg hkb hg2;have hf:=Li.aAC l;have CS:=vw l hrl S hS o ms ls hlen H nx1 hE N es c ((hk N hN2).trans hN) hst;generalize l.v=X at*;have F1:=fun a b=>Ak a b;have sl:=BU (cD S) l hlen;refine aue (e9 hc hg hlt hb hnx hg2 hf hkb (e3 (@jK Nat V) (@jK Li V) jG)) ?_;refine aV (CS.dom.mono ?_);rintro v h2 nx2 aAS ⟨⟨o2,m2,rfl,q1,q2⟩,hd2,_⟩;unfold bW;refine Zn ?_;have hks:Kc nx h h2:=fun m hm=>(q2 m or).trans (hk m hm);have hb2:=(q2 nx hnx).trans hb;have hl2:=q1.len;generalize lC (cD S) l ls=P at*;obtain⟨PL,Pn⟩:=P;dsimp only at q1 hl2 sl hmt;have hve:=dK Pn;by_cases hz:Pn=0
  ·subst hz;rw[decide_eq_true rfl] at hve;rw[if_neg Zm] at hmt;by_cases hm:20000<PL.length
   ·rw[if_pos hm] at hmt;have g1:decide ((m2.length:Int)>20000)=true:=dct;refine aue (e2 hve g1) ?_;rw[←hQ];refine au ?_;refine aN h2 (Ka _) ⟨.nil,[],?_,?_,hks⟩
    ·rw[←hmt];rfl
    rw[←hmt];trivial
   rw[if_neg hm] at hmt;have g1:decide ((m2.length:Int)>20000)=false:=dcf;refine aue (e2 hve g1) ?_;refine eA rfl (F1 _ _ _) rfl (aI _) ?_;refine aue hw ?_;rw[←hQ];exact aF (i+1,o2,m2,PL) Zw ⟨hlt,or,hd2,hks,hb2,q1,Zw,hmt⟩ (by simp only[WkL,aD,jH,jI,jJ,hw,go_sem,reduceIte,jA,jB,jC,jD,reduceCtorEq,jE,jF])
  rw[decide_eq_false hz] at hve;rw[if_pos hz] at hmt;refine aue hve ?_;rw[←hQ];refine au ?_;refine aN h2 (Ka _) ⟨.nil,[],?_,?_,hks⟩
  ·rw[←hmt];rfl
  rw[←hmt];trivial
 have hc:decide ((i:Int)<(O.length:Int))=false:=dcf;rw[Kh or] at hmt;refine aue hc ?_;rw[←hQ];refine au ?_;refine aN H (Ka _) ⟨o,ms,?_,?_,hk⟩
 ·rw[←hmt];rfl
 rw[←hmt];exact hE
theorem v6(r:Ru)(S:List Sr)(hS:∀s∈S,fR s.ar s.zs)(h:Hp)(nx:Nat)(N:Nat)(es:List ME)(c:Nat)(hN:h N=some (.mp es c))(hst:gW es S)(hl:r.b.length≤140737488355328):
 aR Tryz.prog 10 [r.v, .map N] h nx fun v h' _=>yd (oN (cD S) r) h nx v h':=by
 refine aB L.g3z fun hd=>?_;have hd:aS h nx:=hd;have hN2:N<nx:=hd _ _ hN;have C1:=CU r hl;have hf:r.v.fits (.agg 6)=true:=by cases r;rfl
 have hW:=fun hr h nx hN=>vt r hr S hS h nx N es c hN hst;have hmr:qB r=0→dF r=true:=fun e=>by
  unfold qB at e;cases hr:dF r with
  |true=>rfl
  |false=>rw[hr,if_pos rfl] at e;cases e
 unfold oN;generalize r.v=X at*;generalize qB r=n at*;have hve:=dK n;refine ZK ?_;by_cases hz:n=0
 ·rw[decide_eq_true hz] at hve;rw[if_neg (by simp[hz])];refine aue (e2 hf hve) ?_;refine aV ((hW (hmr hz) _ _ ?_).dom.mono ?_)
  ·simp only[Kb];rw[if_neg or];exact hN
  rintro v h2 nx2 aAS ⟨⟨o2,m2,rfl,q1,q2⟩,hd2,_⟩;unfold bW;refine Zn ?_;refine au ?_;refine aN h2 (Ka _) ⟨o2,m2,rfl,q1,fun k hk=>(q2 k Zw).trans (by simp only[Kb];rw[if_neg or])⟩
 rw[decide_eq_false hz] at hve;rw[if_pos hz];refine aue (e2 hf hve) ?_;exact aN _ (Ka _) ⟨.nil,[],rfl,trivial,fun k hk=>by simp only[Kb];rw[if_neg or]⟩
def kO(G:ByteArray→List (List Vl))(r:Ru):List (List Vl)×Int:=if (oN G r).2≠0 then ([],(oN G r).2) else
 if (lY r.h [] (oN G r).1).2≠0 then ([],(lY r.h [] (oN G r).1).2) else (lD cP (lY r.h [] (oN G r).1).1,0)
abbrev TF:Type:={t:List Vl // t.length≤6}
instance:Inhabited TF:=⟨⟨[],Zm⟩⟩
abbrev TF.v(t:TF):V:=vls .free t.1
theorem ux:aE Tryz.prog 54=some (LB.aAx .leaf (.sl (.agg 3) .nil [])):=Zz
theorem wh(a b:TF)(h:Hp):aM Tryz.prog 55 [a.v,b.v] h (.bool (decide (cP a.1 b.1=0))):=by
 refine aJ (fun L=>trivial) fun h' nx hh=>aB L.bBM fun hd=>?_;have C1:=fun h=>oW .free a.1 b.1 (by have:=a.2;omega) b.v h (.inl ⟨.free,rfl⟩);refine ZK ?_;have hi:(cP a.1 b.1==0)=decide (cP a.1 b.1=0):=rfl;refine aue hi ?_;exact aC h' (leo hd) ⟨rfl,rfl⟩
theorem nz(G:ByteArray→List (List Vl))(b:List Li):∀(ks:List Nat) (es:List (List Tr)),es.length≤20000→(jY G b ks es).1.length≤20000
 | [],es,h=>h
 |k::ks,es,h=>by
  rw[ib];split
  ·simp
  split
  ·simp
  exact nz G b ks _ or
theorem FD(G:ByteArray→List (List Vl))(r:Ru):(oN G r).1.length≤20000:=by
 unfold oN;split
 ·simp
 exact nz G _ _ _ Zm
def Ix(h:Hp)(n0:Nat)(M:V)(ac:List TF):Prop:=(ac=[]∧M= .sl .leaf .nil [])∨(ac≠ []∧∃id,n0≤id∧M= .rs id .leaf 0 ac.length∧h id=some (.arr .leaf (ac.map TF.v)))
theorem ql(r:Ru)(S:List Sr)(hS:∀s∈S,fR s.ar s.zs)(h:Hp)(nx:Nat)(N:Nat)(es:List ME)(c:Nat)(hN:h N=some (.mp es c))(hst:gW es S)(hl:r.b.length≤140737488355328):
 aR Tryz.prog 15 [r.v, .map N] h nx fun v h' _=>v= .tup [lst .leaf ((kO (cD S) r).1.map fun t=>vls .free t),dC (kO (cD S) r).2]∧∀k,k<nx→h' k=h k:=by
 refine aB L.g7z fun hd=>?_;have hd:aS h nx:=hd;have hN2:N<nx:=hd _ _ hN;have hf:r.v.fits (.agg 6)=true:=by cases r;rfl
 have hF:=fun h nx hN=>v6 r S hS h nx N es c hN hst hl;obtain⟨P,hP⟩:∃P,oN (cD S) r=P:=⟨_,rfl⟩;unfold kO;have hPl:=FD (cD S) r;rw[hP] at hF hPl⊢;have aBr:bB (.agg 2) 0 r.v=r.h.v:=by cases r;rfl
 have hhf:r.h.v.fits (.agg 2)=true:=rfl;have CM:=fun l n es c h hm he=>qM r.h l n es c h hm he;have aFU:=uU r.h;have aPd:=yO r.h;generalize r.v=X at*;generalize r.h.v=Y at*;refine ZK ?_;refine aue (e2 hf hN2) ?_;refine aV ((hF _ _ ?_).dom.mono ?_)
 ·simp only[Kb];rw[if_neg or];exact hN
 rintro v h2 nx2 aAS ⟨⟨o2,m2,rfl,q1,q2⟩,hd2,_⟩;unfold bW;refine Zn ?_;have hml:=q1.len;have hb2:h2 nx=some (.arr (.agg 6) [X]):=by rw[q2 nx Zw];simp only[go_sem,reduceIte,jA,jB,jC,jD,reduceCtorEq,jE,jF]
 have hk2:Kc nx h h2:=fun k hk=>(q2 k Zw).trans (by simp only[Kb];rw[if_neg or]);have hn2:nx<nx2:=hd2 _ _ hb2;clear q2 hF;obtain⟨ls,Pn⟩:=P;dsimp only at q1 hml hPl⊢;have hve:=dK Pn;by_cases hz:Pn=0
 ·rw[decide_eq_true hz] at hve;rw[if_neg (by simp[hz])];obtain⟨RES,aAi⟩:∃R,lY r.h [] ls=R:=⟨_,rfl⟩;rw[aAi];refine aue (e2 hve hml) ?_
  refine aP (fun q:Nat×V×List TF=>aD 47 0 [(1, .map N),(2, .ptr nx (.agg 6) 0 0),(4, .sl .leaf .nil []),(5, .nilIface),(8,q.2.1),(22, .sl .leaf o2 m2),(23, .int .i64 ls.length),(24, .int .i64 q.1)])
   (fun q hp nx1=>q.1≤ls.length∧nx2≤nx1∧aS hp nx1∧Kc nx2 h2 hp∧Ix hp nx2 q.2.1 q.2.2∧lY r.h (q.2.2.map Subtype.val) (ls.drop q.1)=RES∧q.2.2.length≤q.1)
   (fun q=>ls.length-q.1) (0, .sl .leaf .nil [],[]) ⟨Kg _,KC _,hd2,Hp.same.aAr, .inl ⟨rfl,rfl⟩,aAi,Kg _⟩ (by simp only[WkL,aD,jH,jI,jJ,hml,go_sem,reduceIte,jA,jB,jC,jD,reduceCtorEq,jE,jF]) ?_
  rintro⟨i,M,ac⟩ H nx1 ⟨hi,hnx,hdm,hk,hO,hmt,hlen⟩;generalize hQ:aZ _ _ _ _ _=Q0;dsimp only at hi hO hmt hlen;refine Zk ?_;have hb:H nx=some (.arr (.agg 6) [X]):=(hk _ hn2).trans hb2;have hn1:nx<nx1:=or;have hkx:Kc nx h H:=fun k hk'=>(hk k or).trans (hk2 k hk');rcases Kt i ls.length with hlt|hge
  ·have hc:decide ((i:Int)<(ls.length:Int))=true:=dct;obtain⟨n,es,c,hm1,hm2,hm3⟩:=q1.get i hlt;have hm1:m2.getD i (.tup [])= .map n:=hm1;have hw:IntKind.i64.wrap ((i:Int)+1)=((i+1:Nat):Int):=wrp;have aDt:i<m2.length:=or;have hnn:n<nx2:=hd2 _ _ hm2;have hm4:H n=some (.mp es c):=(hk n hnn).trans hm2;have hn3:n<nx1:=or;rw[Kf hlt,aFU] at hmt;have aGy:=aPd ls[i];generalize ls[i]=EE at*;have C5:=CM EE n es c H hm4 hm3.at
   obtain⟨vs,er,hMA⟩:∃vs er,bY r.h EE=(vs,er):=⟨_,_,rfl⟩;rw[hMA] at hmt C5 aGy;dsimp only at hmt C5 aGy;have hve:=dK er;by_cases hz2:er=0
   ·subst hz2;rw[decide_eq_true rfl] at hve;rw[if_neg Zm] at hmt;have hTR:V.sl (.agg 3) (okO 0 .free) (vs.map Vl.v)=TF.v ⟨vs,aGy⟩:=rfl;have hmt:lY r.h ((ac++[(⟨vs,aGy⟩:TF)]).map Subtype.val) (ls.drop (i+1))=RES:=by rw[List.map_append];exact hmt
    rw[hTR] at C5;generalize (⟨vs,aGy⟩:TF)=tv at*;have hlf:(TF.v tv).aAE=true:=rfl;have hff:(TF.v tv).fits .leaf=true:=rfl;have hsn:(ac++[tv]).map TF.v=ac.map TF.v++[TF.v tv]:=Zm;generalize hTV:TF.v tv=TV at*;rcases hO with⟨rfl,rfl⟩|⟨hne,id,hid,rfl,h7⟩
    ·unfold L.aHM;generalize hDC:aT.ops L.aEk=DC;refine aue (e10 hc hm1 aDt hb hn1 hml jG hve aBr hhf) ?_;rw[←hDC];refine cG ?_;refine sV 3 rfl (by simp only[hlf,hff,go_sem,reduceIte,jA,jB,jC,jD,reduceCtorEq,jE,jF]) ?_;simp only[hlf,hff,go_sem,reduceIte,jA,jB,jC,jD,reduceCtorEq,jE,jF];refine fO rfl rfl Zm Zm ?_;refine aue hw ?_;rw[←hQ];exact aF (i+1, .rs (nx1+1) .leaf 0 1,[tv]) Zw ⟨hlt,or,dmo hdm,by exact kep hk, .inr ⟨Zm,nx1+1,or,rfl,by simp only[hTV,List.map_cons,List.map_nil,go_sem,reduceIte,jA,jB,jC,jD,reduceCtorEq,jE,jF]⟩,hmt,by dsimp only;simp⟩ (by simp only[WkL,aD,jH,jI,jJ,hw,go_sem,reduceIte,jA,jB,jC,jD,reduceCtorEq,jE,jF])
    have aZM:id<nx1:=hdm _ _ h7;have aHC:(ac.map TF.v).length=ac.length:=jK ..;refine aue (e12 hc hm1 aDt hb hn1 hml jG hve aBr hhf h7 (e5 hlf hff hw aHC aZM)) ?_;rw[←hQ];exact aF (i+1, .rs (nx1+1) .leaf 0 (ac.length+1),ac++[tv]) Zw ⟨hlt,or,dmo hdm,by exact kep hk, .inr ⟨Zm,nx1+1,or,Zm,by rw[hsn];simp only[go_sem,reduceIte,jA,jB,jC,jD,reduceCtorEq,jE,jF]⟩,hmt,by dsimp only;simp;omega⟩ (by simp only[WkL,aD,jH,jI,jJ,hw,go_sem,reduceIte,jA,jB,jC,jD,reduceCtorEq,jE,jF])
   rw[decide_eq_false hz2] at hve;rw[if_pos hz2] at hmt;refine aue (e10 hc hm1 aDt hb hn1 hml jG hve aBr hhf) ?_;rw[←hQ];refine au ?_;refine aN H (Ka _) ⟨?_,hkx⟩;rw[←hmt];dsimp only;rw[if_pos hz2];rfl
  have hc:decide ((i:Int)<(ls.length:Int))=false:=dcf;rw[Kh or] at hmt;refine aue hc ?_;rw[←hQ];have hRE:RES=(ac.map Subtype.val,0):=hmt.symm;rw[hRE];rcases hO with⟨rfl,rfl⟩|⟨hne,id,hid,rfl,h7⟩
  ·refine au ?_;refine aV ((show aR Tryz.prog 52 [.sl .leaf .nil [], .fn (.func 53) [] []] H nx1 _ from jq {D8 with} Zz .leaf _ _ _).mono ?_);rintro v h3 nx3 _ ⟨rfl,rfl⟩;unfold bW;refine Zn ?_;refine au ?_;refine aV ((rg ux _ _ _).mono ?_);rintro v h3 nx3 _ ⟨rfl,rfl⟩;unfold bW;refine Zn ?_;refine au ?_;exact aN h3 (Ka _) ⟨rfl,hkx⟩
  have hsw:SWO (ltOf fun x y:TF=>cP x.1 y.1):=sx Subtype.val c3T.swo;refine au ?_;refine aV ((show aR Tryz.prog 52 [.rs id .leaf 0 ac.length, .fn (.func 53) [] []] H nx1 _ from
   yy D8 Zz TF.v (fun x=>rfl) (fun x y:TF=>cP x.1 y.1) hsw _ [] (fun x y=>oW .free x.1 y.1 (by have:=x.2;omega) (TF.v y) Ke (.inl ⟨.free,rfl⟩)) id ac hne H nx1 h7 or).dom.mono ?_)
  rintro v h3 nx3 _ ⟨⟨rfl,rfl,ys,hp,hs,rfl⟩,hd3,_⟩;unfold bW;refine Zn ?_;have hyl:ys.length=ac.length:=hp.length_eq;rw[←hyl];refine au ?_;refine aV ((iv TF.v ux rfl (fun x=>rfl) 55 [] (fun x y=>decide (cP x.1 y.1=0)) Ke id ys (fun x _ y _=>wh x y Ke) or _ _ (bH _) rfl (by simp[Kb])).mono ?_);rintro v h4 nx4 _ ⟨es4,m,rfl,hm4,rfl,htk⟩;unfold bW;refine Zn ?_;have hcs:(cpt (fun x y:TF=>decide (cP x.1 y.1=0)) ys).map Subtype.val=lD cP (ac.map Subtype.val):=by
   rw[GJ c3T (fun x:TF=>x.1) ys (by unfold jj at hs;exact hs.imp fun{x y} h=>by simpa [ltOf] using h)];exact Ec c3T fun z=>(hp.map _).mem_iff
  refine sV 2 rfl (by simp only[go_sem,reduceIte,jA,jB,jC,jD,reduceCtorEq,jE,jF]) ?_;refine Zn ?_;refine dA (lB (t:=4) (n:=id) (k:= .leaf) (off:=0) (len:=m) (es:=es4) rfl (by simp[Kb]) or) ?_;rw[List.drop_zero,htk];refine au ?_;have aY8:cpt (fun x y:TF=>decide (cP x.1 y.1=0)) ys≠ []:=fun e=>by
   rw[e] at hcs;exact hne (List.map_eq_nil_iff.1 ((Eb c3T _).1 hcs.symm))
  refine aN _ (Ka _) ⟨?_,fun k hk'=>?_⟩
  ·refine Zn ?_;rw[←hcs];generalize cpt (fun x y:TF=>decide (cP x.1 y.1=0)) ys=zs at*;cases zs with
   |nil=>exact absurd rfl aY8
   |cons a b=>simp[lst,dC]
  simp only[Kb,Kd];repeat rw[if_neg or]
  exact hkx k hk'
 rw[decide_eq_false hz] at hve;rw[if_pos hz];refine aue hve ?_;exact aN _ (Ka _) ⟨rfl,hk2⟩
end Go.Proofs.YtlhedpgobaellaaGreatDoor
