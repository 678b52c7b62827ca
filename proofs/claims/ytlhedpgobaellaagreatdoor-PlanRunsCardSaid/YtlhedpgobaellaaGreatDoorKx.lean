/-
Texts of this proof,one behind the other. No conditions.
-/
import Derived.Test.YtlhedpgobaellaaGreatDoorKv
open Go.Proofs.YtlhedpgobaellaaGreatDoor.Hp renaming le_refl→Ka,set→Kb
open Go.Proofs.YtlhedpgobaellaaGreatDoor.V renaming undef→Kc,loose→Kf,cells→Kg,cell→Kh
open List renaming getD_eq_getElem?_getD→Kd,length_cons→Ke,getElem_mem→Ki,replicate_succ→Km,replicate_zero→Ko,cons_append→Kp,length_nil→Kq,nil_append→Ks,length_map→Kt,take_succ_eq_append_getElem→Kv,length_append→Kw,take_of_length_le→Kx,length_take→Kz,getElem?_eq_getElem→KC,mem_singleton→KD,mem_iff_getElem→KI,mem_cons_of_mem→KJ,map_append→KK,mem_cons_self→KM,mem_cons→KN,map_cons→KO,map_take→KP,pairwise_iff_getElem→KQ,length_drop→KR,getElem_map→KS,mem_map→KU,mem_append→KW,countP_eq_zero→KY,map_drop→KZ,all_eq_true→Qd,not_mem_nil→Qe,take→Qk
open Nat renaming reduceAdd→Kj,reduceSub→Kk,le_refl→Ku,reduceEqDiff→KB,lt_or_ge→KE,zero_le→KG,reduceLeDiff→KH,reduceLT→KV,lt_or_eq_of_le→Qa,le_succ_of_le→Qb,not_lt_zero→Qh,le_of_lt→Qm
open Go.IntKind renaming wrap→Ky
open Bool renaming and_eq_true→KA,eq_iff_iff→KX,not_false→Qi,not_true→Qj,true_and→Ql
open Int renaming toNat_natCast→KF,reduceToNat→KL,natCast_zero→Qc,natCast_add→Qf,natCast_one→Qg
open Nat renaming reduceAdd→jA,reduceSub→jB,reduceLT→jC,reduceLeDiff→jD,reduceEqDiff→jE
open Int renaming reduceToNat→jF,toNat_natCast→jG,natCast_add→jH,natCast_one→jI,natCast_zero→jJ
open List renaming length_map→jK
set_option linter.all false
set_option maxHeartbeats 8000000
namespace Go.Proofs.YtlhedpgobaellaaGreatDoor
open Go.RowKit Go.Sort
attribute [local irreducible] Ky
def nL(L:List (List Vl))(t:List Vl):Bool:=L.any fun s=>decide (s=t)
def nX(a:Am)(L:List (List Vl)):List (List Tr)→List (List Tr)→List (List Tr)×Int
 |acc,[]=>(acc,0)
 |acc,e::r=>if (bY a e).2≠0 then ([],(bY a e).2) else nX a L (if nL L (bY a e).1=true then acc else acc++[e]) r
def kD(x:Li):List (List Tr)→List (List Tr)→List (List Tr)×Int
 |acc,[]=>(acc,0)
 |acc,e::r=>match cZ e x with
  |(some l,_)=>kD x (acc++[l]) r
  |(none,n)=>if n≠0 then ([],n) else kD x acc r
def yL(a:Am)(L:List (List Vl))(es:List (List Tr)):List (List Tr):=es.flatMap fun e=>L.filterMap fun t=>gY a t e
def gX(G:ByteArray→List (List Vl))(x:Li)(es:List (List Tr)):List (List Tr)×Int:=
 if x.k=1 then (yL x.a (G x.a.r) es,0) else if x.k=2 then nX x.a (G x.a.r) [] es else kD x [] es
def jY(G:ByteArray→List (List Vl))(b:List Li):List Nat→List (List Tr)→List (List Tr)×Int
 | [],es=>(es,0)
 |k::ks,es=>if (gX G (b.getD k default) es).2≠0 then ([],(gX G (b.getD k default) es).2) else
  if 20000<(gX G (b.getD k default) es).1.length then ([],11) else jY G b ks (gX G (b.getD k default) es).1
theorem qA(a:Am)(L:List (List Vl))(acc:List (List Tr))(e:List Tr)(r:List (List Tr)):nX a L acc (e::r)=if (bY a e).2≠0 then ([],(bY a e).2) else nX a L (if nL L (bY a e).1=true then acc else acc++[e]) r:=rfl
theorem pR(x:Li)(acc:List (List Tr))(e:List Tr)(r:List (List Tr)):kD x acc (e::r)=match cZ e x with
 |(some l,_)=>kD x (acc++[l]) r
 |(none,n)=>if n≠0 then ([],n) else kD x acc r:=rfl
theorem Ez(a:Am)(L:List (List Vl))(es fs:List (List Tr)):yL a L (es++fs)=yL a L es++yL a L fs:=by
 unfold yL;rw[List.flatMap_append]
theorem mv(a:Am)(L:List (List Vl)):∀(es acc:List (List Tr)),(nX a L acc es).1.length≤acc.length+es.length
 | [],acc=>Ku _
 |e::r,acc=>by
  rw[qA];split
  ·simp
  refine Nat.le_trans (mv a L r _) ?_;rw[Ke];split
  ·omega
  rw[Kw,Ke,Kq];omega
end Go.Proofs.YtlhedpgobaellaaGreatDoor
namespace Go.Proofs.YtlhedpgobaellaaGreatDoor
open Go.RowKit Go.Sort
def cpO(p:TR):TR:=(if p.1= .nil then .nil else .free,p.2)
def loT(t:List Vl)(zs:List TR):Nat:=zs.countP fun z=>decide (cP z.2 t<0)
def gn(p:TR)(zs:List TR):List TR:=zs.take (loT p.2 zs)++cpO p::zs.drop (loT p.2 zs)
def qV(t:List Vl):Bool:=decide (t.length≤6)&&t.all bU
def qY(ar:Int)(zs:List TR)(p:TR):List TR×Bool×Int:=
 if (p.2.length:Int)≠ar then (zs,false,6) else if qV p.2=false then (zs,false,2) else if nL (aQ zs) p.2=true then (zs,false,0) else if 2000≤zs.length then (zs,false,11) else (gn p zs,true,0)
def ofT(ar:Int):List TR→List TR→List TR×Int
 |acc,[]=>(acc,0)
 |acc,p::r=>if (qY ar acc p).2.2≠0 then ([],(qY ar acc p).2.2) else ofT ar (qY ar acc p).1 r
def dZ(ar:Int)(l:List TR):List TR×Int:=if ar<0∨6<ar then ([],6) else ofT ar [] l
theorem G3{t:List Vl}{zs:List TR}{i:Nat}(hi:i≤zs.length)(h1:∀k (h:k<zs.length),k<i→cP zs[k].2 t<0)(h2:∀k (h:k<zs.length),i≤k→¬cP zs[k].2 t<0):loT t zs=i:=by
 unfold loT;conv=>lhs;rw[←List.take_append_drop i zs]
 rw[List.countP_append,List.countP_eq_length.2,KY.2,Kz]
 ·omega
 ·intro x hx;obtain⟨k,hk,rfl⟩:=KI.1 hx;rw[List.getElem_drop];simpa using h2 (i+k) (by simp at hk;omega) or
 intro x hx;obtain⟨k,hk,rfl⟩:=KI.1 hx;rw[List.getElem_take];simp only[Kz] at hk;simpa using h1 k or or
theorem G2(t:List Vl)(zs:List TR):loT t zs≤zs.length:=List.countP_le_length
theorem Bq{α:Type}{c:α→α→Int}(h:C3 c)(x:α):∀l:List α,Str c l→x∉l→iW c x l=l.take (l.countP fun y=>decide (c y x<0))++x::l.drop (l.countP fun y=>decide (c y x<0))
 | [],_,_=>rfl
 |y::l,hs,hn=>by
  have⟨h1,h2⟩:=List.pairwise_cons.1 hs;unfold iW;by_cases k:c x y<0
  ·have hz:((y::l).countP fun z=>decide (c z x<0))=0:=KY.2 fun z hz=>by
    have:c x z<0:=by
     rcases KN.1 hz with rfl|hz
     ·exact k
     exact h.trans _ _ _ k (h1 z hz)
    have:=(h.aCE _ _).1 this;simp only[decide_eq_true_eq];omega
   rw[if_pos k,hz];rfl
  rw[if_neg k];by_cases k2:c x y=0
  ·exact absurd ((h.eq _ _).1 k2) (fun e=>hn (e▸KM))
  rw[if_neg k2,Bq h x l h2 (fun e=>hn (KJ _ e)),List.countP_cons_of_pos (by simpa using h.pos k2 k)];rfl
theorem pJ{L:List (List Vl)}{t:List Vl}:nL L t=true↔t∈L:=by simp[nL]
theorem ns{p:TR}{zs:List TR}(hs:Str cP (aQ zs))(hn:p.2∉aQ zs):aQ (gn p zs)=iW cP p.2 (aQ zs):=by
 rw[Bq c3T _ _ hs hn];have e:((aQ zs).countP fun y=>decide (cP y p.2<0))=loT p.2 zs:=by unfold loT aQ;rw[List.countP_map];rfl
 rw[e];simp only[gn,aQ,KK,KO,KP,KZ];rfl
structure fR(ar:Int)(zs:List TR):Prop where
 str:Str cP (aQ zs)
 row:∀z∈zs,qV z.2=true∧(z.2.length:Int)=ar∧z.ok
 len:zs.length≤2000
theorem oX(ar:Int):fR ar []:=⟨List.Pairwise.nil,Zm,Zm⟩
theorem HE{p:TR}(h:p.1= .nil→p.2=[]):(cpO p).ok:=by
 unfold cpO TR.ok;by_cases e:p.1= .nil
 ·rw[if_pos e];exact .inl ⟨rfl,h e⟩
 rw[if_neg e];exact .inr rfl
theorem fR.add{ar:Int}{zs:List TR}(r:fR ar zs){p:TR}(hp:p.1= .nil→p.2=[]):fR ar (qY ar zs p).1:=by
 unfold qY;split
 ·exact r
 rename_i h1;split
 ·exact r
 rename_i h2;split
 ·exact r
 rename_i h3;split
 ·exact r
 rename_i h4;refine⟨by rw[ns r.str (fun e=>h3 (pJ.2 e))];exact wR c3T _ _ r.str,fun z hz=>?_,?_⟩
 ·unfold gn at hz;rcases KW.1 hz with q|q
  ·exact r.row z (List.mem_of_mem_take q)
  rcases KN.1 q with rfl|q
  ·exact⟨show qV p.2=true by simpa using h2,show(p.2.length:Int)=ar by simpa using h1,HE hp⟩
  exact r.row z (List.mem_of_mem_drop q)
 have:=G2 p.2 zs;simp only[gn,Kw,Ke,Kz,KR];omega
theorem En{ar:Int}:∀(l acc:List TR),fR ar acc→(∀p∈l,p.1= .nil→p.2=[])→fR ar (ofT ar acc l).1
 | [],acc,h,_=>h
 |p::r,acc,h,hl=>by
  unfold ofT;split
  ·exact oX ar
  exact En r _ (h.add (hl p KM)) fun q hq=>hl q (KJ _ hq)
theorem A3{ar:Int}{l:List TR}(hl:∀p∈l,p.1= .nil→p.2=[]):fR ar (dZ ar l).1:=by
 unfold dZ;split
 ·exact oX ar
 exact En l [] (oX ar) hl
theorem Hv{t:List Vl}{zs:List TR}(hs:Str cP (aQ zs)):(decide (loT t zs<zs.length)&&decide (cP (zs.getD (loT t zs) (.nil,[])).2 t=0))=nL (aQ zs) t:=by
 rw[KX,pJ];simp only[KA,decide_eq_true_eq];constructor
 ·rintro⟨h1,h2⟩;rw[Kd,KC h1] at h2;have:=(c3T.eq _ _).1 h2;exact KU.2 ⟨_,Ki h1,this⟩
 intro h;obtain⟨z,hz,e⟩:=KU.1 h;obtain⟨k,hk,rfl⟩:=KI.1 hz;have hp:=KQ.1 hs;have el:loT t zs=k:=G3 (Qm hk) (fun j hj hlt=>by
  have:=hp j k (by simpa using hj) (by simpa using hk) hlt;simpa [e] using this) (fun j hj hle=>by
  rcases Qa hle with hlt|rfl
  ·have:=hp k j (by simpa using hk) (by simpa using hj) hlt;simp only[aQ,KS] at this;rw[show(zs[k]).2=t from e] at this;have:=(c3T.aCE _ _).1 this;omega
  rw[show(zs[k]).2=t from e,c3T.self];omega)
 rw[el];refine⟨hk,?_⟩;rw[Kd,KC hk];show cP (zs[k]).2 t=0;rw[show(zs[k]).2=t from e,c3T.self]
end Go.Proofs.YtlhedpgobaellaaGreatDoor
namespace Go.Proofs.YtlhedpgobaellaaGreatDoor
open Go.RowKit Go.Sort
attribute [local irreducible] Ky
theorem p8(o:Own)(t:List Vl)(hl:t.length≤1000000)(hz:∀v∈t,v.s.size≤9223372036854775807)(h:Hp):aM Tryz.prog 137 [vls o t] h (.bool (qV t)):=by
 refine aJ (fun L=>trivial) fun h' nx hh=>aB L.aZ5 fun hd=>?_;simp only[Ke,Kq,Kj,Kk,Km,Ko,Kp,Ks,Kc];have hml:=@Kt Vl V t Vl.v;refine au ?_
 refine aP (fun i:Nat=>aD 20 0 [(0,vls o t),(3, .int .i64 i)])
  (fun i hp nx1=>i≤t.length∧i≤6∧hp=h'∧(t.take i).all bU=true)
  (fun i=>t.length-i) 0 ⟨KG _,or,rfl,rfl⟩ (by simp only[WkL,aD,Qf,Qg,Qc,go_sem,reduceIte,Kj,Kk,KV,KH,reduceCtorEq,KB,KL]) ?_
 rintro i hp nx1 ⟨hi,hi6,rfl,aAc⟩;generalize hQ:aZ _ _ _ _ _=Q0;simp only[aD,go_sem,reduceIte,Kj,Kk,KV,KH,reduceCtorEq,KB,KL];have hw:IntKind.i64.wrap ((i:Int)+1)=((i+1:Nat):Int):=wrp;rcases KE i t.length with hlt|hge
 ·have hc:decide ((i:Int)<(t.length:Int))=true:=dct;have hg:=aL Vl.v t i hlt;have C1:=fun h=>pf t[i] (hz _ (Ki hlt)) h;have hf:=Vl.aAC t[i];have htk:(t.take (i+1)).all bU=((t.take i).all bU&&bU t[i]):=by rw[Kv hlt,List.all_append];simp
  have hno:bU t[i]=false→qV t=false:=fun e=>by
   unfold qV;rw[List.all_eq_false.2 ⟨_,Ki hlt,by simp[e]⟩,Bool.and_false]
  generalize t[i]=x at*;by_cases h6:i=6
  ·have g:decide (5<(i:Int))=true:=dct;refine aue (e6 hc hg hlt hml g KF) ?_;rw[←hQ];refine au ?_;refine aC hp (leo hd) ⟨?_,rfl⟩;unfold qV;rw[decide_eq_false or];rfl
  have g:decide (5<(i:Int))=false:=dcf;cases hr:bU x with
  |true=>
   rw[hr] at C1 htk;refine aue (e8 hc hg hlt hml g KF hf hw) ?_;rw[←hQ];exact aF (i+1) or ⟨hlt,or,rfl,by rw[htk,aAc];rfl⟩ (by simp only[WkL,aD,Qf,Qg,Qc,hw,go_sem,reduceIte,Kj,Kk,KV,KH,reduceCtorEq,KB,KL])
  |false=>
   rw[hr] at C1;refine aue (e8 hc hg hlt hml g KF hf hw) ?_;rw[←hQ];refine au ?_;refine aC hp (leo hd) ⟨?_,rfl⟩;rw[hno hr];rfl
 have hc:decide ((i:Int)<(t.length:Int))=false:=dcf;rw[Kx hge] at aAc;refine aue (e2 hc hml) ?_;rw[←hQ];refine au ?_;refine aC hp (leo hd) ⟨?_,rfl⟩;unfold qV;rw[aAc,decide_eq_true or];rfl
end Go.Proofs.YtlhedpgobaellaaGreatDoor
namespace Go.Proofs.YtlhedpgobaellaaGreatDoor
open Go.RowKit Go.Sort
attribute [local irreducible] Ky
theorem zM(o1 o2:Own)(a b:List Vl)(ha:a.length≤1000000000)(hb:b.length≤1000000000)(h:Hp):aM Tryz.prog 36 [vls o1 a,vls o2 b] h (.bool (decide (a=b))):=by
 refine aJ (fun L=>trivial) fun h' nx hh=>aB L.bBZ fun hd=>?_;refine ZK ?_;have C1:=fun h=>tW o1 o2 a b ha h;have C2:=fun h=>tW o2 o1 b a hb h;have he:decide (a=b)=(!qS a b&& !qS b a):=by
  rw[KX];simp only[qS,decide_eq_true_eq,KA,Bool.not_eq_true',decide_eq_false_iff_not];constructor
  ·rintro rfl;simp[cP,c3T.self]
  rintro⟨h1,h2⟩;rw[c3T.aCE] at h2;exact(c3T.eq a b).1 or
 rw[he];cases h1:qS a b with
 |true=>
  rw[h1] at C1;refine aue (e2 Qj Qi) ?_;exact aC h' (leo hd) ⟨rfl,rfl⟩
 |false=>
  rw[h1] at C1;refine aue (e2 Qj Qi) ?_;refine aC h' (leo hd) ⟨?_,rfl⟩;simp
abbrev lsV(ls:List (List Vl)):List V:=ls.map fun t=>vls .free t
def dG(ar:Int)(ls:List (List Vl)):V:= .agg [.int .i64 ar,lst .leaf (lsV ls)]
theorem mz(ls:List (List Vl))(L:Nat→Prop):bM L (lsV ls):=by
 induction ls with
 |nil=>trivial
 |cons x xs ih=>exact⟨j6 x Zm L,ih⟩
theorem pY(ar:Int)(ls:List (List Vl))(L:Nat→Prop):(dG ar ls).names L:=⟨trivial,cV (fun L=>mz ls L) L,trivial⟩
theorem fU(ar:Int)(ls:List (List Vl)):(dG ar ls).fits (.agg 2)=true:=by
 unfold dG;cases ls<;>rfl
theorem yA(ar:Int)(ls:List (List Vl))(hl:ls.length≤1000000000)(hr:∀t∈ls,t.length≤1000000000)(o2:Own)(t:List Vl)(ht:t.length≤1000000000)(h:Hp):aM Tryz.prog 33 [dG ar ls,vls o2 t] h (.bool (decide (t∈ls))):=by
 refine aJ (fun L=>trivial) fun h' nx hh=>aB L.bBc fun hd=>?_;refine ZK ?_;obtain⟨ow,how⟩:=bX .leaf (lsV ls);have hrv:dG ar ls= .agg [.int .i64 ar, .sl .leaf ow (lsV ls)]:=by rw[dG,how]
 rw[hrv];refine au ?_
 refine aP (fun i:Nat=>aD 20 0 [(1,vls o2 t),(2, .ptr nx (.agg 2) 0 0),(5, .int .i64 i)])
  (fun i hp nx1=>i≤ls.length∧nx+1≤nx1∧aS hp nx1∧Hp.same nx h' hp∧hp nx=some (.arr (.agg 2) [.agg [.int .i64 ar, .sl .leaf ow (lsV ls)]])∧t∉ls.take i) (fun i=>ls.length-i) 0 ⟨KG _,ZN,dmo hd,kep Hp.same.aAr,by simp[Kb],Zm⟩ (by simp only[WkL,aD,jH,jI,jJ,go_sem,reduceIte,jA,jB,jC,jD,reduceCtorEq,jE,jF]) ?_
 rintro i hp nx1 ⟨hi,hnx,hdm,hsm,hbx,hno⟩;generalize hQ:aZ _ _ _ _ _=Q0;refine Zk ?_;have hle:=hsm.le hd (Ka _);have hn0:nx<nx1:=or;have aDu:(lsV ls).length=ls.length:=jK ..;rcases KE i ls.length with hlt|hge
 ·have hc:decide ((i:Int)<(ls.length:Int))=true:=dct;have hw:IntKind.i64.wrap ((i:Int)+1)=((i+1:Nat):Int):=wrp;have hg:(lsV ls).getD i (.tup [])=vls .free ls[i]:=aL (fun t=>vls .free t) ls i hlt;have C1:=fun h=>zM .free o2 ls[i] t (hr _ (Ki _)) ht h;have E:=e8 hc hw hg hlt aDu hbx hn0 jG;cases he:decide (ls[i]=t) with
  |true=>
   rw[he] at C1;have hin:t∈ls:=(of_decide_eq_true he)▸Ki hlt;refine aue E ?_;rw[←hQ];refine au ?_;exact aC h' (lef hd hle) ⟨by rw[decide_eq_true hin]<;>rfl,rfl⟩
  |false=>
   rw[he] at C1;refine aue E ?_;rw[←hQ];refine aF (i+1) or ⟨hlt,or,dmo hdm,kep hsm,hbx,fun hm=>?_⟩ (by simp only[WkL,aD,jH,jI,jJ,hw,go_sem,reduceIte,jA,jB,jC,jD,reduceCtorEq,jE,jF]);rw[Kv hlt] at hm;rcases KW.1 hm with hm|hm
   ·exact hno hm
   exact(of_decide_eq_false he) (KD.1 hm).symm
 have hc:decide ((i:Int)<(ls.length:Int))=false:=dcf;rw[Kx hge] at hno;refine aue (e4 hc aDu hbx hn0) ?_;rw[←hQ];refine au ?_;exact aC h' (lef hd hle) ⟨by rw[decide_eq_false hno]<;>rfl,rfl⟩
theorem Gk(ls:List (List Vl))(h:ls≠ []):lst .leaf (lsV ls)= .sl .leaf .free (lsV ls):=by
 cases ls with
 |nil=>exact absurd rfl h
 |cons a b=>rfl
theorem l5(ar:Int)(ls:List (List Vl))(hs:Str cP ls)(hl:ls.length≤1000000)(hr:∀t∈ls,t.length≤1000000)(o2:Own)(t:List Vl)(ht:t.length≤1000000)(h:Hp):aM Tryz.prog 35 [dG ar ls,vls o2 t] h (dG ar (iW cP t ls)):=by
 refine fW (fun L=>pY _ _ L) fun h' nx hh=>aB L.bBa fun hd=>?_;refine ZK ?_;obtain⟨ow,how⟩:=bX .leaf (lsV ls);have hrv:dG ar ls= .agg [.int .i64 ar, .sl .leaf ow (lsV ls)]:=by rw[dG,how]
 have hlo:(dG ar ls).loose=dG ar ls:=by
  unfold dG;cases ls<;>rfl
 have C1:=fun h=>yA ar ls or (fun q hq=>by have:=hr q hq;omega) o2 t or h;rw[hrv] at C1 hlo⊢;have hfz:V.fits (.agg 2) (.agg [.int .i64 ar, .sl .leaf ow (lsV ls)])=true:=rfl;cases hm:decide (t∈ls) with
 |true=>
  rw[hm] at C1;have hin:=qm c3T hs (of_decide_eq_true hm);refine aue hfz ?_;refine mW (by simp only[go_sem,reduceIte,jA,jB,jC,jD,reduceCtorEq,jE,jF]) _ (Ka _) ⟨?_,leo hd⟩;refine Zn ?_;rw[hin,hrv];exact hlo
 |false=>
 rw[hm] at C1;have hni:t∉ls:=of_decide_eq_false hm;have aDu:(lsV ls).length=ls.length:=jK ..;refine aue hfz ?_
 refine aP (fun k:Nat=>aD 48 0 [(1,vls o2 t),(2, .ptr nx (.agg 2) 0 0),(4, .ptr (nx+1) (.agg 2) 0 0),(5, .int .i64 k)])
  (fun k hp nx1=>k≤ls.length∧nx+2≤nx1∧aS hp nx1∧Hp.same nx h' hp∧hp nx=some (.arr (.agg 2) [.agg [.int .i64 ar, .sl .leaf ow (lsV ls)]])∧hp (nx+1)=some (.arr (.agg 2) [.agg [.int .i64 0, .sl .leaf .nil []]])∧∀y∈ls.take k,cP y t<0) (fun k=>ls.length-k) 0 ⟨KG _,ZN,dmo hd,kep Hp.same.aAr,by simp[Kb],by simp[Kb],Zm⟩ (by simp only[WkL,aD,jH,jI,jJ,go_sem,reduceIte,jA,jB,jC,jD,reduceCtorEq,jE,jF]) ?_
 rintro k hp nx1 ⟨hk,hnx,hdm,hsm,hbx,aPB,aAc⟩;generalize hQ:aZ _ _ _ _ _=Q0;refine Zk ?_;have hle:=hsm.le hd (Ka _);have n0:nx<nx1:=or;have n1:nx+1<nx1:=or;have out:(∀hk:k<ls.length,¬cP ls[k] t<0)→∀sl,WkL sl (aD 48 0 [(1,vls o2 t),(2, .ptr nx (.agg 2) 0 0),(4, .ptr (nx+1) (.agg 2) 0 0),(5, .int .i64 k)])→Q0 (.exit 0) ⟨sl,hp,nx1⟩:=fun aPO sl hsl=>by
  have aD5:=Br c3T hk aAc aPO hni;rw[←hQ];refine iR (dY (wB ⟨aD 48 0 [(1,vls o2 t),(2, .ptr nx (.agg 2) 0 0),(4, .ptr (nx+1) (.agg 2) 0 0),(5, .int .i64 k)],hp,nx1⟩ ⟨hsl,Ka _,Ku _⟩ ?_));refine Zk ?_;have hkt:((lsV ls).take k).length=k:=by rw[Kz,aDu];omega
  have hml:(t.map Vl.v).length=t.length:=jK ..;have htk:(lsV ls).take ls.length=lsV ls:=Kx or;have hdk:((lsV ls).drop k).length=ls.length-k:=by rw[KR,aDu]
  refine bS (cG ?_);generalize hR:lwp _ (aT.seq (aT.ops L.aEv) _)=R;refine aue (e8 hbx aPB n0 n1 aDu jG hkt hml) ?_;rw[←hR];refine bS ?_;generalize hR2:mD _ _=R2;refine aue (e8 hbx aPB n0 n1 aDu jG hkt hml) ?_;rw[←hR2];refine dA (BS 6 rfl) ?_;have hco:∀h0 aAF aAK cons b,sC h0 (nx1+6) aAF aAK cons (nx1+5) b=(eK (nx1+5) cons∧h0 (nx1+5)=some b):=fun h0 aAF aAK cons b=>by
   unfold sC;rw[eq_iff_iff];constructor
   ·rintro⟨h1,⟨_,h2⟩|⟨d,_,h3,_⟩⟩
    ·exact⟨h1,h2⟩
    omega
   rintro⟨h1,h2⟩;exact⟨h1, .inl ⟨or,h2⟩⟩
  have aZE:∀q:List (List Vl),(lsV q).map Kf=lsV q:=fun q=>by
   simp[lsV,vls,Kf,Function.comp_def]
  have hl6:(Qk k (lsV ls)++[V.sl (.agg 3) (.tok (nx1+3)) (t.map Vl.v)]).map Kf=Qk k (lsV ls)++[vls .free t]:=by
   have:((lsV ls).take k).map Kf=(lsV ls).take k:=by rw[KP,aZE]
   rw[KK,this];rfl
  rw[hl6];refine Zn ?_;refine aue (e12 hbx aPB n0 n1 aDu jG hkt hml hco htk hdk (@Kw V)) ?_;refine mW (by simp only[go_sem,reduceIte,jA,jB,jC,jD,reduceCtorEq,jE,jF]) _ (Ka _) ⟨?_,lef hd hle⟩;refine Zn ?_;have hne:ls.take k++t::ls.drop k≠ []:=Zm;have hlv:lsV (ls.take k++t::ls.drop k)=Qk k (lsV ls)++[vls .free t]++List.drop k (lsV ls):=by
   simp[lsV,KK,KP,KZ]
  rw[aD5,dG,Gk _ hne,hlv];rfl
 rcases KE k ls.length with hlt|hge
 ·have hc:decide ((k:Int)<(ls.length:Int))=true:=dct;have hw:IntKind.i64.wrap ((k:Int)+1)=((k+1:Nat):Int):=wrp;have hg:(lsV ls).getD k (.tup [])=vls .free ls[k]:=aL (fun t=>vls .free t) ls k hlt;have C1:=fun h=>tW .free o2 ls[k] t (by have:=hr _ (Ki hlt);omega) h;have E:=e8 hc hw hg hlt aDu hbx n0 jG;cases he:qS ls[k] t with
  |true=>
   rw[he] at C1;refine aue E ?_;rw[←hQ];refine aF (k+1) or ⟨hlt,or,dmo hdm,kep hsm,hbx,aPB,fun y hy=>?_⟩ (by simp only[WkL,aD,jH,jI,jJ,hw,go_sem,reduceIte,jA,jB,jC,jD,reduceCtorEq,jE,jF]);rw[Kv hlt] at hy;rcases KW.1 hy with hy|hy
   ·exact aAc y hy
   rw[KD.1 hy];exact of_decide_eq_true he
  |false=>
   rw[he] at C1;refine aue E ?_;exact out (fun _=>of_decide_eq_false he) _ (by simp only[WkL,aD,jH,jI,jJ,go_sem,reduceIte,jA,jB,jC,jD,reduceCtorEq,jE,jF])
 have hc:decide ((k:Int)<(ls.length:Int))=false:=dcf;refine aue (e4 hc aDu hbx n0) ?_;exact out (fun k=>absurd k or) _ (by simp only[WkL,aD,jH,jI,jJ,go_sem,reduceIte,jA,jB,jC,jD,reduceCtorEq,jE,jF])
end Go.Proofs.YtlhedpgobaellaaGreatDoor
namespace Go.Proofs.YtlhedpgobaellaaGreatDoor
open Go.RowKit Go.Sort
def AN(h:Hp)(v:V)(l:List Tr):Prop:=∃n es c,v= .map n∧h n=some (.mp es c)∧sI es c l
def dB(h:Hp):List V→List (List Tr)→Prop
 | [],[]=>True
 |m::ms,l::ls=>AN h m l∧dB h ms ls
 |_,_=>False
theorem dB.len{h:Hp}:∀{ms:List V} {ls:List (List Tr)},dB h ms ls→ms.length=ls.length
 | [],[],_=>rfl
 |_::ms,_::ls,e=>by rw[Ke,Ke,dB.len e.2]
theorem AN.keep{h h':Hp}{nx:Nat}(hd:aS h nx)(hk:∀k,k<nx→h' k=h k){v:V}{l:List Tr}(e:AN h v l):AN h' v l:=by
 obtain⟨n,es,c,p,q,r⟩:=e;exact⟨n,es,c,p,(hk n (hd _ _ q)).trans q,r⟩
theorem dB.keep{h h':Hp}{nx:Nat}(hd:aS h nx)(hk:∀k,k<nx→h' k=h k):∀{ms:List V} {ls:List (List Tr)},dB h ms ls→dB h' ms ls
 | [],[],_=>trivial
 |_::_,_::_,e=>⟨e.1.keep hd hk,dB.keep hd hk e.2⟩
theorem dB.snoc{h:Hp}{v:V}{l:List Tr}(e1:AN h v l):∀{ms:List V} {ls:List (List Tr)},dB h ms ls→dB h (ms++[v]) (ls++[l])
 | [],[],_=>⟨e1,trivial⟩
 |_::_,_::_,e=>⟨e.1,dB.snoc e1 e.2⟩
theorem dB.get{h:Hp}:∀{ms:List V} {ls:List (List Tr)},dB h ms ls→∀(i:Nat) (h2:i<ls.length),AN h (ms.getD i Kc) ls[i]
 | [],[],_,i,h2=>absurd h2 (Qh i)
 |_::_,_::_,e,0,_=>e.1
 |_::_,_::_,e,i+1,h2=>dB.get e.2 i (by simpa using h2)
def yC(ar:Int)(zs:List TR):V:= .ept (.agg 2) [.agg [.int .i64 ar,lst .leaf (zs.map TR.v)]] 0 0
structure Sr where
 r:ByteArray
 ar:Int
 zs:List TR
def Sr.v(s:Sr):V:=yC s.ar s.zs
def lkS(x:ByteArray):List Sr→Option Sr
 | []=>none
 |s::r=>if s.r=x then some s else lkS x r
def cD(S:List Sr)(x:ByteArray):List (List Vl):=match lkS x S with
 |some s=>aQ s.zs
 |none=>[]
def yE(S:List Sr)(x:ByteArray):V:=match lkS x S with
 |some s=>s.v
 |none=> .nilPtr
def gW(es:List ME)(S:List Sr):Prop:=∀x:ByteArray,match lkS x S with
 |none=>bT (.plain .leaf [.str]) (.str x) es=some none
 |some s=>∃j,bT (.plain .leaf [.str]) (.str x) es=some (some j)∧(es.getD j default).v=s.v∧j<es.length
theorem s6:gW [] []:=fun x=>rfl
theorem Bk(x:ByteArray)(t:Sr):∀l:List Sr,lkS x (l++[t])=(match lkS x l with
 |some w=>some w
 |none=>if t.r=x then some t else none)
 | []=>by simp[lkS]
 |a::l=>by
  simp only[Kp,lkS];split
  ·rfl
  exact Bk x t l
theorem gW.add{es:List ME}{S:List Sr}(h:gW es S){t:Sr}{b:Nat}(hk:lkS t.r S=none):gW (es++[⟨.str t.r,t.v,b⟩]) (S++[t]):=fun x=>by
 rw[Bk];have hx:=h x;rw[yK];cases k:lkS x S with
 |some w=>
  rw[k] at hx;obtain⟨j,h1,h2,h3⟩:=hx;rw[h1];simp only;refine⟨j,rfl,?_,by rw[Kw];omega⟩;rw[Kd,List.getElem?_append_left h3,←Kd];exact h2
 |none=>
  rw[k] at hx;rw[hx];simp only[ph];by_cases e:t.r=x
  ·rw[if_pos e];simp only;refine⟨es.length,?_,?_,Zm⟩
   ·rw[decide_eq_true e.symm]
   rw[Kd,List.getElem?_append_right (Ku _),Nat.sub_self];rfl
  rw[if_neg e];simp only;rw[decide_eq_false (fun q=>e q.symm)]
theorem gW.get{es:List ME}{S:List Sr}(h:gW es S)(x:ByteArray):∃r,bT (.plain .leaf [.str]) (.str x) es=some r∧jW false .nilPtr es r=yE S x:=by
 have hx:=h x;unfold yE;cases k:lkS x S with
 |some w=>
  rw[k] at hx;obtain⟨j,h1,h2,h3⟩:=hx;exact⟨_,h1,h2⟩
 |none=>
  rw[k] at hx;exact⟨_,hx,rfl⟩
theorem FZ{sl:List V}{h:Hp}{nx p m j n off len:Nat}{k:Sh}{es cs:List V}(hp:h p=some (.arr (.agg m) [.agg cs]))(hj:j<m)(hc:cs.getD j Kc= .rs n k off len)(hn:h n=some (.arr k es))(hne:p≠n)(hb:off+len≤es.length):
 tH ⟨sl,h,nx⟩ ⟨sl,(h.del n).set p (.arr (.agg m) [.agg (cs.set j (.sl k .free ((es.drop off).take len)))]),nx+1⟩:=by
 intro K0 K nx0 a r;have hfr:¬K.live nx:=fun hh=>Nat.lt_irrefl _ (r.live nx hh).1;cases r.rel.blk p _ hp with
 |arr _ _ c T hh hsz hi hfit hv=>
  have hv0:∀q,q<m→VR K (cs.getD q Kc) (c.getD q Go.undef):=fun q hq=>by
   have:=hv 0 Zm q hq;simpa [Kh,Kg] using this
  have hvj:=hv0 j hj;rw[hc] at hvj;obtain⟨K',q1,q2,q3,q4,q5⟩:=g8 r.rel hn hfr hb hvj;have hp2:(h.del n) p=some (.arr (.agg m) [.agg cs]):=by unfold Hp.del;rw[if_neg hne];exact hp
  have hf0:(V.agg cs).fits (.agg m)=true:=hfit _ Zm;have hcl:cs.length=m∧cs.all V.aAE=true:=by simpa [V.fits] using hf0
  have hrel:Rel K' ((h.del n).set p (.arr (.agg m) [.agg (cs.set j (.sl k .free ((es.drop off).take len)))])):=by
   have hbl:=q5.blk p _ hp2;cases hbl with
   |arr _ _ c' T' hh' aYw hi' hfit' hv'=>
    have hmu:K'.mu p=K.mu p:=q2.mu p (r.rel.lt p _ hp);have hcc:c'=c:=by rw[q1,hmu,hh] at hh';injection hh' with e;injection e with e;exact e.symm
    subst hcc;refine⟨fun x b e=>?_,fun x b e=>?_,fun x b e=>?_,fun x y b b' e e'=>?_,q5.size⟩
    ·unfold Kb at e;split at e
     ·rename_i hx;subst hx;exact q5.lt _ _ hp2
     exact q5.lt x b e
    ·unfold Kb at e;split at e
     ·rename_i hx;subst hx;exact q5.base _ _ hp2
     exact q5.base x b e
    ·unfold Kb at e;split at e
     ·rename_i hx;subst hx;injection e with e;subst e;refine .arr (.agg m) _ c' T' hh' (by simpa using aYw) hi' (fun y hy=>?_) (fun i hi j' hj'=>?_)
      ·rw[KD.1 hy];simp only[V.fits,List.length_set,hcl.1,decide_true,Ql];rw[Qd];intro z hz;rcases List.mem_or_eq_of_mem_set hz with hz|rfl
       ·exact Qd.1 hcl.2 z hz
       rfl
      have hi0:i=0:=by simpa using hi
      subst hi0;have h0:=(hv0 j' hj').mono q2;simp only[List.getD_cons_zero,Kh,Kg,Nat.zero_mul,Nat.zero_add];by_cases ej:j=j'
      ·subst ej;rw[Kd,List.getElem?_set_self or];exact q4
      rw[Kd,List.getElem?_set_ne ej,←Kd];exact h0
     exact q5.blk x b e
    have hx:∀{x b},((h.del n).set p (.arr (.agg m) [.agg (cs.set j (.sl k .free ((es.drop off).take len)))])) x=some b→∃b',(h.del n) x=some b':=fun{x b} e=>by
     unfold Kb at e;split at e
     ·rename_i hx;subst hx;exact⟨_,hp2⟩
     exact⟨_,e⟩
    obtain⟨b1,e1⟩:=hx e;obtain⟨b2,e2⟩:=hx e';exact q5.inj x y _ _ e1 e2
  refine⟨K',q1,r.le.trans q2,r.aAD.mono q2,hrel,fun x hx=>?_,Qb r.nx,by rw[q1];exact r.defers⟩;rcases q3 x hx with hx|rfl
  ·have:=r.live x hx;exact⟨Nat.lt_succ_of_lt this.1,this.2⟩
  exact⟨Nat.lt_succ_self _, .inr r.nx⟩
end Go.Proofs.YtlhedpgobaellaaGreatDoor
namespace Go.Proofs.YtlhedpgobaellaaGreatDoor
open Go.RowKit Go.Sort
attribute [local irreducible] Ky
def RdL(h:Hp)(v:V)(zs:List TR):Prop:=(∃o,v= .sl .leaf o (zs.map TR.v))∨∃n,v= .rs n .leaf 0 zs.length∧h n=some (.arr .leaf (zs.map TR.v))
theorem rh(zs:List TR)(hz:zs.length≤1000000)(aCJ:∀z∈zs,z.2.length≤1000000000)(hs:Str cP (aQ zs))(p:TR)(h:Hp)(v:V)(hv:RdL h v zs):
 aM Tryz.prog 95 [v,p.v, .fn (.func 53) [] []] h (.tup [.int .i64 (loT p.2 zs), .bool (nL (aQ zs) p.2)]):=by
 have hml:(zs.map TR.v).length=zs.length:=jK ..;have aCM:=Hv (t:=p.2) hs;refine aJ (fun L=>⟨trivial,trivial,trivial⟩) fun h' nx hh=>aB L.bAf fun hd=>?_;have hd:aS h' nx:=hd;have aY2:=KQ.1 hs;have mono:∀j k (hj:j<zs.length) (hk:k<zs.length),j≤k→cP zs[k].2 p.2<0→cP zs[j].2 p.2<0:=fun j k hj hk hle hc=>by
  rcases Qa hle with hlt|rfl
  ·have:=aY2 j k (by simpa [aQ] using hj) (by simpa [aQ] using hk) hlt;simp only[aQ,KS] at this;exact c3T.trans _ _ _ this hc
  exact hc
 obtain⟨T,hT⟩:∃T,T=p.v:=⟨_,rfl⟩;rw[←hT];refine ZK ?_;obtain⟨W,hW⟩:∃W,W=v:=⟨_,rfl⟩;rcases hv with⟨o,rfl⟩|⟨n,rfl,hn⟩
 all_goals first|(have hn1:=hh _ _ hn rfl;have hn2:∀{m:Nat},nx≤m→n<m:=fun h=>Nat.lt_of_lt_of_le (hd _ _ hn1) h)|(have hn1:True:=trivial;have hn2:∀{m:Nat},nx≤m→True:=fun _=>trivial)
 all_goals
  refine aue hml ?_
  refine aP (fun q:Nat×Nat=>aD 49 0 [(0,W),(1,T),(2, .fn (.func 53) [] []),(6, .int .i64 0),(7, .bool false),(8, .int .i64 zs.length),(9, .int .i64 q.1),(10, .int .i64 q.2)])
   (fun q hp nx1=>q.1≤q.2∧q.2≤zs.length∧hp=h'∧nx≤nx1∧(∀k (hk:k<zs.length),k<q.1→cP zs[k].2 p.2<0)∧∀k (hk:k<zs.length),q.2≤k→¬cP zs[k].2 p.2<0)
   (fun q=>q.2-q.1) (0,zs.length) ⟨KG _,Ku _,rfl,Ku _,fun k _ h=>absurd h (Qh k),fun k hk h=>absurd hk (Nat.not_lt.2 h)⟩ (by simp only[WkL,aD,jH,jI,jJ,hml,hW,go_sem,reduceIte,jA,jB,jC,jD,reduceCtorEq,jE,jF]) ?_
  rintro⟨i,j⟩ hp nx1 ⟨hij,hj,rfl,hnx,h1,h2⟩;generalize hQ:aZ _ _ _ _ _=Q0;dsimp only at hij hj h1 h2;simp only[aD,hW,go_sem,reduceIte,jA,jB,jC,jD,reduceCtorEq,jE,jF];have hn3:=hn2 hnx;rcases KE i j with hlt|hge
  ·have hc:decide ((i:Int)<(j:Int))=true:=dct;have w1:IntKind.i64.wrap ((i:Int)+(j:Int))=((i+j:Nat):Int):=wrp;have w2:IntKind.u64.wrap ((i+j:Nat):Int)=((i+j:Nat):Int):=by rw[IntKind.wrap_u64];omega
   have w3:((i+j:Nat):Int)/ 2 ^ min 1 64=(((i+j)/ 2:Nat):Int):=by show((i+j:Nat):Int)/ (2 ^ 1:Int)=_;omega
   have w4:IntKind.i64.wrap (((i+j)/ 2:Nat):Int)=(((i+j)/ 2:Nat):Int):=wrp;obtain⟨m,hm⟩:∃m,(i+j)/ 2=m:=⟨_,rfl⟩;rw[hm] at w3 w4;have hm1:i≤m∧m<j:=or;have hmz:m<zs.length:=or;have hg:=aL TR.v zs m hmz;have w5:IntKind.i64.wrap ((m:Int)+1)=((m+1:Nat):Int):=wrp;refine aue (e13 hc w1 w2 w3 w4 w5 hml hmz hg jG TR.aAC hn1 hn3) ?_;have C:=fun H=>oW zs[m].1 zs[m].2 p.2 (aCJ _ (Ki hmz)) p.v H (.inl ⟨_,rfl⟩);rw[←hT] at C;refine eA rfl (C _) rfl (aI _) ?_;by_cases hcm:cP zs[m].2 p.2<0
   ·have g:decide (cP zs[m].2 p.2<0)=true:=dct;refine aue (e2 g w5) ?_;rw[←hQ];exact aF (m+1,j) Zw ⟨Zw,hj,rfl,hnx,fun k hk hkm=>mono k m hk hmz (by dsimp only at hkm;omega) hcm,h2⟩ (by simp only[WkL,aD,jH,jI,jJ,hW,go_sem,reduceIte,jA,jB,jC,jD,reduceCtorEq,jE,jF])
   have g:decide (cP zs[m].2 p.2<0)=false:=dcf;refine aue g ?_;rw[←hQ];exact aF (i,m) Zw ⟨Zw,Zw,rfl,hnx,h1,fun k hk hkm hc=>hcm (mono m k hmz hk hkm hc)⟩ (by simp only[WkL,aD,jH,jI,jJ,hW,go_sem,reduceIte,jA,jB,jC,jD,reduceCtorEq,jE,jF])
  have hc:decide ((i:Int)<(j:Int))=false:=dcf;have aZL:i=j:=or;subst aZL;have hl:=G3 hj h1 h2;rw[hl] at aCM;refine aue hc ?_;rw[←hQ];by_cases hin:i<zs.length
  ·have g:decide ((i:Int)<(zs.length:Int))=true:=dct;have hg:=aL TR.v zs i hin;have hD:zs.getD i (.nil,[])=zs[i]:=by rw[Kd,KC hin];rfl
   rw[decide_eq_true hin,hD,Ql] at aCM;refine aue (e8 g hml hin hg jG TR.aAC hn1 hn3) ?_;have C:=fun H=>oW zs[i].1 zs[i].2 p.2 (aCJ _ (Ki hin)) p.v H (.inl ⟨_,rfl⟩);rw[←hT] at C;refine eA rfl (C _) rfl (aI _) ?_;refine aue g ?_;refine aN hp (Ka _) ⟨?_,rfl⟩;rw[hl,←aCM,←show(cP zs[i].2 p.2==0)=decide (cP zs[i].2 p.2=0) from by rw[KX];simp];rfl
  have g:decide ((i:Int)<(zs.length:Int))=false:=dcf;rw[decide_eq_false hin,Bool.false_and] at aCM;refine aue g ?_;refine aN hp (Ka _) ⟨?_,rfl⟩;rw[hl,←aCM];rfl
end Go.Proofs.YtlhedpgobaellaaGreatDoor
namespace Go.Proofs.YtlhedpgobaellaaGreatDoor
open Go.RowKit Go.Sort
attribute [local irreducible] Ky
theorem RdL.has{h h':Hp}(hh:Hp.has h h'){v:V}{zs:List TR}(r:RdL h v zs):RdL h' v zs:=r.imp id fun⟨n,a,b⟩=>⟨n,a,hh _ _ b rfl⟩
theorem ny(ar:Int)(M:V)(zs:List TR)(hz:zs.length≤1000000)(aCJ:∀z∈zs,z.2.length≤1000000000)(hs:Str cP (aQ zs))(p:TR)(h:Hp)(hL:RdL h M zs)(v:V)(hv:v= .ept (.agg 2) [.agg [.int .i64 ar,M]] 0 0∨∃q,v= .ptr q (.agg 2) 0 0∧h q=some (.arr (.agg 2) [.agg [.int .i64 ar,M]])):
 aM Tryz.prog 49 [v,p.v] h (.tup [.int .i64 (loT p.2 zs), .bool (nL (aQ zs) p.2)]):=by
 refine aJ (fun L=>⟨trivial,trivial,trivial⟩) fun h' nx hh=>aB L.bBO fun hd=>?_;have C:=rh zs hz aCJ hs p h' M (hL.has hh);generalize p.v=T at*;simp only[Ke,Kq,Kj,Kk,Km,Ko,Kp,Ks,Kc];rcases hv with rfl|⟨q,rfl,hq⟩
 ·refine au ?_;refine aH C rfl (aI _) ?_;refine au ?_;exact aN h' (Ka _) ⟨rfl,rfl⟩
 have hq1:=hh _ _ hq rfl;have hq2:=hd _ _ hq1;refine aue (e2 hq1 hq2) ?_;refine aH C rfl (aI _) ?_;refine au ?_;exact aN h' (Ka _) ⟨rfl,rfl⟩
theorem Hs(h:Hp)(zs:List TR):RdL h (lst .leaf (zs.map TR.v)) zs:=by
 obtain⟨o,ho⟩:=bX .leaf (zs.map TR.v);exact .inl ⟨o,ho⟩
theorem Fd(S:List Sr)(x:ByteArray)(hS:∀s∈S,fR s.ar s.zs)(p:TR)(h:Hp):aM Tryz.prog 13 [yE S x,p.v] h (.bool (nL (cD S x) p.2)):=by
 refine aJ (fun L=>trivial) fun h' nx hh=>aB L.g6z fun hd=>?_;have key:∀{l:List Sr} {s:Sr},lkS x l=some s→s∈l:=by
  intro l s h;induction l with
  |nil=>cases h
  |cons a l ih=>
   unfold lkS at h;split at h
   ·injection h with h;rw[←h];exact KM
   exact KJ _ (ih h)
 unfold yE cD;cases k:lkS x S with
 |none=>
  generalize p.v=T at*;simp only[Ke,Kq,Kj,Kk,Km,Ko,Kp,Ks,Kc];refine au ?_;exact aC h' (Ka _) ⟨rfl,rfl⟩
 |some s=>
  have r:=hS s (key k);have C:=ny s.ar _ s.zs (by have:=r.len;omega) (fun z hz=>by have:=(r.row z hz).1;unfold qV at this;simp only[KA,decide_eq_true_eq] at this;omega) r.str p h' (Hs h' s.zs) s.v (.inl rfl);generalize p.v=T at*;obtain⟨E,hE⟩:∃E,s.v= .ept (.agg 2) E 0 0:=⟨_,rfl⟩;simp only[hE] at C⊢;simp only[Ke,Kq,Kj,Kk,Km,Ko,Kp,Ks,Kc];refine au ?_;refine aH C rfl (aI _) ?_;refine au ?_;exact aC h' (Ka _) ⟨rfl,rfl⟩
theorem Gg(ar:Int)(hb:ar<0∨6<ar)(h:Hp)(nx:Nat):aR Tryz.prog 86 [.int .i64 ar] h nx fun v h' _=>v= .tup [.nilPtr,dC 6]∧h'=h:=by
 refine aB L.aYF fun hd=>?_;simp only[Ke,Kq,Kj,Kk,Km,Ko,Kp,Ks,Kc];by_cases h1:ar<0
 ·have g1:decide (ar<0)=true:=dct;refine aue g1 ?_;exact aN h (Ka _) ⟨rfl,rfl⟩
 have g1:decide (ar<0)=false:=dcf;have g2:decide (6<ar)=true:=dct;refine aue (e2 g1 g2) ?_;exact aN h (Ka _) ⟨rfl,rfl⟩
theorem Hj(ar:Int)(hb:¬(ar<0∨6<ar))(h:Hp)(nx:Nat):aR Tryz.prog 86 [.int .i64 ar] h nx fun v h' _=>v= .tup [.ptr nx (.agg 2) 0 0, .nilIface]∧h'=h.set nx (.arr (.agg 2) [.agg [.int .i64 ar, .sl .leaf .nil []]]):=by
 refine aB L.aYF fun hd=>?_;simp only[Ke,Kq,Kj,Kk,Km,Ko,Kp,Ks,Kc];have g1:decide (ar<0)=false:=dcf;have g2:decide (6<ar)=false:=dcf;refine aue (e2 g1 g2) ?_;exact aN _ (Ka _) ⟨rfl,rfl⟩
def pC:V→Option Nat
 | .rs n _ _ _=>some n
 |_=>none
def DJ(h:Hp)(M:V)(zs:List TR)(q:Nat):Prop:=(zs=[]∧M= .sl .leaf .nil [])∨zs≠ []∧∃n,M= .rs n .leaf 0 zs.length∧h n=some (.arr .leaf (zs.map TR.v))∧n≠q
theorem DJ.rd{h:Hp}{M:V}{zs:List TR}{q:Nat}(o:DJ h M zs q):RdL h M zs:=by
 rcases o with⟨rfl,rfl⟩|⟨_,n,a,b,_⟩
 ·exact .inl ⟨.nil,rfl⟩
 exact .inr ⟨n,a,b⟩
theorem RG.swap{F F':List (Nat×Nat×V)}{fix:List (Nat×V)}{n:Nat}{D:Nat→Bool}{sl:List V}(r:RG F fix n D sl)(h:∀f∈F',D f.1=true→f∈F):RG F' fix n D sl:=⟨r.len,r.fx,fun f hf hd=>r.dn f (h f hf hd) hd⟩
theorem zw:aE Tryz.prog 116=some (LB.aDq (.agg 3) 32):=Zz
theorem cr(p:TR)(hl:p.2.length≤1000000)(hp:p.1= .nil→p.2=[])(h:Hp):aM Tryz.prog 66 [p.v] h (cpO p).v:=by
 obtain⟨o,t⟩:=p;have hc:(V.sl (.agg 3) o (t.map Vl.v)).loose=(cpO (o,t)).v:=by unfold cpO;cases o<;>rfl
 refine aJ (fun L=>?_) fun h' nx hh=>aB L.bBK fun hd=>?_
 ·rw[←hc];cases o<;>exact⟨fun n e=>(by cases e),bF (Vl.aAN L) _⟩
 have C1:=fun h=>vG zw or o (t.map Vl.v) (by simp;simp at hl;omega) (fun e=>by rw[show t=[] from hp e];rfl) (fun L=>bF (Vl.aAN L) _) h;rw[hc] at C1;generalize (cpO (o,t)).v=R at*;show lwp _ _ _ ⟨[V.sl (.agg 3) o (t.map Vl.v)]++_,_,_⟩;generalize V.sl (.agg 3) o (t.map Vl.v)=X at*;simp only[Ke,Kq,Kj,Kk,Km,Ko,Kp,Ks,Kc];refine au ?_;exact aC h' (Ka _) ⟨rfl,rfl⟩
def adF(q m:Nat)(M T X W:V)(i:Int):List (Nat×Nat×V):=[(0,42, .ptr q (.agg 2) 0 0),(1,43, .ptr q (.agg 2) 0 0),(2,44, .ptr q (.agg 2) 0 0),(3,45, .ptr q (.agg 2) 0 1),(4,46,M),(5,47, .int .i64 i),(6,48,T),(7,49,X),(8,50, .rs m .leaf 0 1),(9,51,W),(10,52, .ptr q (.agg 2) 0 0),(11,53, .ptr q (.agg 2) 0 1)]
def adX(q:Nat)(T:V)(i:Int):List (Nat×V):=[(0, .ptr q (.agg 2) 0 0),(1,T),(6, .int .i64 i)]
structure AdR(A:Hp)(nx q:Nat)(M T X:V)(i:Int)(Y:List V)(W:V)(D:Nat→Bool)(s:St):Prop where
 sl:RG (adF q nx M T X W i) (adX q T i) 54 D s.sl
 h8:D 8=false→s.h=A∧s.nx=nx
 h9:D 8=true→D 9=false→s.h=A.set nx (.arr .leaf [X])∧s.nx=nx+1
 hw:D 9=true→D 8=true∧∃id,W= .rs id .leaf 0 Y.length∧(pC M=some id∨nx<id)∧s.h id=some (.arr .leaf Y)∧id≠q∧∀k,k<nx→pC M≠some k→s.h k=A k
theorem AV:∀(n k:Nat) (sl:List V),sl.length=n→WkL sl (aD n k [])
 |0,k,sl,hl=>by
  have:sl=[]:=List.length_eq_zero_iff.1 hl;subst this;trivial
 |n+1,k,[],hl=>by simp at hl
 |n+1,k,a::sl,hl=>⟨.inr rfl,AV n (k+1) sl (by simpa using hl)⟩
theorem jh{A:Hp}{nx q:Nat}{ar i:Int}{M T X:V}{Y:List V}(hX:X.aAE=true)(hq:A q=some (.arr (.agg 2) [.agg [.int .i64 ar,M]]))(hqn:q<nx)(hMl:M.aAE=true)(hMq:pC M≠some q)(CP:∀h,aM Tryz.prog 66 [T] h X)
 (hI:aR Tryz.prog 65 [M, .int .i64 i, .rs nx .leaf 0 1] (A.set nx (.arr .leaf [X])) (nx+1) fun v h' nx'=>∃id,v= .rs id .leaf 0 Y.length∧(pC M=some id∨nx<id)∧id≠q∧h' id=some (.arr .leaf Y)∧∀k,k<nx→pC M≠some k→h' k=A k)
 {Q:bJ→St→Prop} {sl:List V} (hl:sl.length=54) (hx:∀p∈adX q T i,sl.getD p.1 Kc=p.2)
 (fin:∀sl' h' nx' id,sl'.length=54→nx≤nx'→h' q=some (.arr (.agg 2) [.agg [.int .i64 ar, .rs id .leaf 0 Y.length]])→(pC M=some id∨nx<id)→id≠q→h' id=some (.arr .leaf Y)→(∀k,k<nx→k≠q→pC M≠some k→h' k=A k)→Q .normal ⟨sl',h',nx'⟩):
 lwp Tryz.prog (.draw 12 L.aCP L.aBk) Q ⟨sl,A,nx⟩:=by
 have hfX:X.fits .leaf=true:=by rw[fX];exact hX
 have l1:bB .leaf 1 (V.agg [.int .i64 ar,M])=M:=rfl;refine pE ?_;refine⟨fun D s=>nx≤s.nx∧∃W,AdR A nx q M T X i Y W D s,⟨Ku _, .nilPtr,⟨hl,hx,fun f _ e=>(by cases e)⟩,fun _=>⟨rfl,rfl⟩,fun e=>(by cases e),fun e=>(by cases e)⟩,?_,?_⟩
 ·rintro D j oo aAF ⟨sl,hp,n2⟩ hi hDi aAv hcl ⟨hn2,W,r⟩;have x0:=r.sl.fx (0, .ptr q (.agg 2) 0 0) (by simp[adX]);have x1:=r.sl.fx (1,T) (by simp[adX]);have x6:=r.sl.fx (6, .int .i64 i) (by simp[adX]);have y:∀f∈adF q nx M T X W i,f.1∈aAF→sl.getD f.2.1 Kc=f.2.2:=fun f hf hd=>r.sl.dn f hf (aAv _ hd);have n9:D 9=true→D 8=true:=fun e=>hcl 9 _ _ rfl e 8 ZM;have go:∀(j t:Nat) (v:V),t<54→(∀f∈adF q nx M T X W i,(f.1=j∨f.2.1=t)→f=(j,t,v))→(∀p∈adX q T i,p.1≠t)→j≠8→j≠9→nx≤n2∧∃W,AdR A nx q M T X i Y W (fun k=>if k=j then true else D k) ⟨sl.set t v,hp,n2⟩:=fun j t v ht hF hx h8 h9=>
   ⟨hn2,W,r.sl.slot j t v ht hF hx,fun e=>r.h8 (by rwa [if_neg h8.symm] at e),fun e f=>r.h9 (by rwa [if_neg h8.symm] at e) (by rwa [if_neg h9.symm] at f),fun e=>by
     rw[if_neg h9.symm] at e;rw[if_neg h8.symm];exact r.hw e⟩
  dsimp only at x0 x1 x6;have h8:=r.h8;have h9:=r.h9;have hw:=r.hw;dsimp only at h8 h9 hw;rcases j with _|_|_|_|_|_|_|_|_|_|_|_|j;all_goals first|(injection hi with hi;injection hi with q1 q2;subst q1;subst q2)|skip
  all_goals simp only[adF,KN,Qe,or_false,forall_eq_or_imp,forall_eq,KB,reduceCtorEq,false_implies,implies_true,true_or,or_true,true_implies,and_true,true_and] at y
  all_goals simp only[aY,LOp.run,LOp.sem,aW.sem,aK.ev,bL,KO,List.map_nil,x0,x1,x6,y,V.pick,KF]
  ·exact go 0 42 _ ZM (by simp[adF]) (by simp[adX]) ZM ZM
  ·exact go 1 43 _ ZM (by simp[adF]) (by simp[adX]) ZM ZM
  ·exact go 2 44 _ ZM (by simp[adF]) (by simp[adX]) ZM ZM
  ·exact go 3 45 _ ZM (by simp[adF]) (by simp[adX]) ZM ZM
  ·have hq2:hp q=some (.arr (.agg 2) [.agg [.int .i64 ar,M]]):=by
    cases e9:D 9 with
    |true=>have:=hcl 9 _ _ rfl e9 4 ZM;rw[hDi] at this;cases this
    |false=>
     cases e8:D 8 with
     |true=>rw[(h9 e8 e9).1];simp only[Kb];rw[if_neg or];exact hq
     |false=>rw[(h8 e8).1];exact hq
   rw[hq2];exact⟨rfl,Zm,by simp[cA],go 4 46 _ ZM (by simp[adF,bB,Kh,Kg]) (by simp[adX]) ZM ZM⟩
  ·exact go 5 47 _ ZM (by simp[adF]) (by simp[adX]) ZM ZM
  ·exact go 6 48 _ ZM (by simp[adF]) (by simp[adX]) ZM ZM
  ·refine(CP hp hp n2 (aI _)).mono ?_;rintro v h' nx' _ ⟨rfl,rfl,rfl⟩;exact go 7 49 _ ZM (by simp[adF]) (by simp[adX]) ZM ZM
  ·obtain⟨rfl,rfl⟩:=h8 hDi;have f9:D 9=true→False:=fun e=>by have:=n9 e;rw[hDi] at this;cases this
   refine⟨fun e he=>by rw[KD.1 he];show(sl.getD 49 Kc).fits .leaf=true;rw[y.2];exact hfX, .inr ⟨Nat.le_succ _,W,r.sl.slot 8 50 _ ZM (by simp[adF]) (by simp[adX]),fun e=>(by simp at e),fun _ _=>⟨rfl,rfl⟩,fun e=>(f9 (by simpa using e)).elim⟩⟩
  ·have t8:=aAv 8 ZM;obtain⟨rfl,rfl⟩:=h9 t8 hDi;refine hI.mono ?_;rintro v h' nx' hle ⟨id,rfl,a,b,c,d⟩;refine⟨or, .rs id .leaf 0 Y.length,(RG.swap (F':=adF q nx M T X (.rs id .leaf 0 Y.length) i) r.sl fun f hf hd=>?_).slot 9 51 _ ZM (by simp[adF]) (by simp[adX]),fun e=>?_,fun _ e=>(by simp at e),fun _=>⟨?_,id,rfl,a,c,b,d⟩⟩
   ·simp only[adF,KN,Qe,or_false] at hf⊢;rcases hf with rfl|rfl|rfl|rfl|rfl|rfl|rfl|rfl|rfl|rfl|rfl|rfl;all_goals first|(simp only[true_or,or_true];done)|skip
    rw[hDi] at hd;cases hd
   ·have e:D 8=false:=by simpa using e
    rw[t8] at e;cases e
   show(if 8=9 then true else D 8)=true;simpa using t8
  ·exact go 10 52 _ ZM (by simp[adF]) (by simp[adX]) ZM ZM
  ·exact go 11 53 _ ZM (by simp[adF]) (by simp[adX]) ZM ZM
  simp[L.aCP] at hi
 rintro D ⟨sl,H,n2⟩ hD ⟨hn2,W,r⟩;obtain⟨_,id,rfl,a,b,c,d⟩:=r.hw (hD 9 ZM);have x53:=r.sl.dn (11,53, .ptr q (.agg 2) 0 1) (by simp[adF]) (hD 11 ZM);have x51:=r.sl.dn (9,51, .rs id .leaf 0 Y.length) (by simp[adF]) (hD 9 ZM);have hH:=(d q hqn hMq).trans hq;dsimp only at x53 x51 b d hH;simp only[L.aBk,aY,LOp.run,LOp.sem,aK.ev,bL,x53,x51,hH];refine⟨trivial,Zm,by simp[cA],rfl,fin _ _ _ id r.sl.len (Qb hn2) ?_ a c ?_ fun k h1 h2 h3=>?_⟩
 ·simp[Kb,bZ,Kg,Kh]
 ·simp only[Kb];rw[if_neg c];exact b
 simp only[Kb];rw[if_neg h2];exact d k h1 h3
theorem zh(ar:Int)(zs:List TR)(r:fR ar zs)(p:TR)(hp:p.1= .nil→p.2=[])(hpl:p.2.length≤1000000)(q:Nat)(M:V)(h:Hp)(nx:Nat)(hq:h q=some (.arr (.agg 2) [.agg [.int .i64 ar,M]]))(hM:DJ h M zs q):
 aR Tryz.prog 25 [.ptr q (.agg 2) 0 0,p.v] h nx fun v h' nx'=>v= .tup [.bool (qY ar zs p).2.1,dC (qY ar zs p).2.2]∧∃M',h' q=some (.arr (.agg 2) [.agg [.int .i64 ar,M']])∧DJ h' M' (qY ar zs p).1 q∧(pC M'=pC M∨∃n,pC M'=some n∧nx≤n)∧∀k,k<nx→k≠q→pC M≠some k→h' k=h k:=by
 refine aB L.bCC fun hd=>?_;have hd:aS h nx:=hd;have hqn:q<nx:=hd _ _ hq;have hz:=r.len;have aCJ:∀z∈zs,z.2.length≤6:=fun z hz=>by have:=(r.row z hz).1;unfold qV at this;simp only[KA,decide_eq_true_eq] at this;exact this.1
 have CR:∀h,aM Tryz.prog 64 [p.v] h (.bool (qV p.2)):=fun h=>jp p.1 p.2 or h;have CF:=ny ar M zs or (fun z hz=>by have:=aCJ z hz;omega) r.str p h hM.rd _ (.inr ⟨q,rfl,hq⟩);have CP:=fun h=>cr p hpl hp h;have aGw:(p.2.map Vl.v).length=p.2.length:=Kt ..;have hPv:p.v= .sl (.agg 3) p.1 (p.2.map Vl.v):=rfl;have same:DJ h M zs q∧(pC M=pC M∨∃n,pC M=some n∧nx≤n)∧∀k,k<nx→k≠q→pC M≠some k→h k=h k:=⟨hM, .inl rfl,fun _ _ _ _=>rfl⟩;have hcx:(cpO p).v.aAE=true:=rfl;have aD5:nL (aQ zs) p.2=false→(gn p zs).map TR.v=(zs.map TR.v).take (loT p.2 zs)++(cpO p).v::(zs.map TR.v).drop (loT p.2 zs):=fun _=>by
  simp only[gn,KK,KO,KP,KZ]
 have hlo:=G2 p.2 zs;unfold qY;rw[hPv] at CR CF CP⊢;generalize (cpO p).v=X at CP hcx aD5;simp only[Ke,Kq,Kj,Kk,Km,Ko,Kp,Ks,Kc];generalize hDC:aT.draw _ _ _=DC;by_cases h1:(p.2.length:Int)=ar;rotate_left
 ·have g1:((p.2.length:Int) != ar)=true:=bnt;rw[if_pos h1];refine aue (e4 hq hqn g1 aGw) ?_;exact aN h (Ka _) ⟨rfl,M,hq,same⟩
 have g1:((p.2.length:Int) != ar)=false:=bnf;rw[if_neg (by simpa using h1)];cases h2:qV p.2 with
 |false=>
  rw[h2] at CR;rw[if_pos rfl];have C1:=CR;refine aue (e4 hq hqn g1 aGw) ?_;exact aN h (Ka _) ⟨rfl,M,hq,same⟩
 |true=>
  rw[h2] at CR;rw[if_neg Zm];have C1:=CR;have C5:=CF;cases h3:nL (aQ zs) p.2 with
  |true=>
   rw[h3] at C5;rw[if_pos rfl];refine aue (e4 hq hqn g1 aGw) ?_;exact aN h (Ka _) ⟨rfl,M,hq,same⟩
  |false=>
   rw[h3] at C5;rw[if_neg Zm];have hY:(gn p zs).length=zs.length+1:=by simp only[gn,Kw,Ke,Kz,KR];omega
   have aD5:=aD5 h3
   have reg:¬2000≤zs.length→∀{Q:bJ→St→Prop} {sl:List V},sl.length=54→(∀x∈adX q (.sl (.agg 3) p.1 (p.2.map Vl.v)) (loT p.2 zs:Int),sl.getD x.1 Kc=x.2)→
    (∀sl' h' nx' id,sl'.length=54→nx≤nx'→h' q=some (.arr (.agg 2) [.agg [.int .i64 ar, .rs id .leaf 0 ((gn p zs).map TR.v).length]])→(pC M=some id∨nx<id)→id≠q→h' id=some (.arr .leaf ((gn p zs).map TR.v))→(∀k,k<nx→k≠q→pC M≠some k→h' k=h k)→Q .normal ⟨sl',h',nx'⟩)→lwp Tryz.prog DC Q ⟨sl,h,nx⟩:=by
    intro h4 Q sl hl hx aAh;rw[←hDC];rcases hM with⟨rfl,rfl⟩|⟨hne,n,rfl,hn,hnq⟩
    ·refine jh hcx hq hqn rfl (by simp[pC]) CP ?_ hl hx aAh;have:=wc nx X (h.set nx (.arr .leaf [X])) (nx+1) (by simp[Kb]);refine this.mono ?_;rintro v h' nx' hle ⟨rfl,rfl⟩;refine⟨nx+1,?_, .inr or,or,?_,fun k hk _=>?_⟩
     ·rw[Kt,hY];rfl
     ·rw[aD5];simp[Kb,loT]
     simp only[Kb];rw[if_neg or,if_neg or]
    have hnn:n<nx:=hd _ _ hn;refine jh hcx hq hqn rfl (by simp[pC];exact hnq) CP ?_ hl hx aAh;have:=wb n nx (loT p.2 zs) (zs.map TR.v) X (h.set nx (.arr .leaf [X])) (nx+1) (by simp only[Kb];rw[if_neg or];exact hn) (by simp[Kb]) or (by rw[Kt];exact hlo) (by rw[Kt];omega);rw[Kt] at this;refine this.mono ?_;rintro v h' nx' hle ⟨id,rfl,hid,hh,hk⟩;refine⟨id,by rw[Kt,hY],hid.imp (fun e=>by rw[e];rfl) (fun e=>or),?_,by rw[hh,aD5],fun k hk1 hk2=>?_⟩
    ·rcases hid with rfl|rfl
     ·exact hnq
     omega
    have e1:k≠n:=fun e=>hk2 (by rw[e];rfl);rw[hk k (by rcases hid with rfl|rfl;exact e1;omega) e1];simp only[Kb];rw[if_neg or]
   by_cases h4:2000≤zs.length
   ·rw[if_pos h4];rcases hM with⟨rfl,rfl⟩|⟨hne,n,rfl,hn,hnq⟩
    ·simp at h4
    have g4:decide ((zs.length:Int)≥2000)=true:=dct;have g4':decide ((2000:Int)≤(zs.length:Int))=true:=dct;refine aue (e6 hq hqn g1 aGw g4 g4') ?_;exact aN h (Ka _) ⟨rfl,_,hq,same⟩
   rw[if_neg h4];have g4:decide ((zs.length:Int)≥2000)=false:=dcf;have g4':decide ((2000:Int)≤(zs.length:Int))=false:=dcf;have g0:decide ((2000:Int)≤((0:Nat):Int))=false:=ZM;have reg:=@reg h4;rw[Kt] at reg;rcases hM with⟨rfl,rfl⟩|⟨hne,n,rfl,hn,hnq⟩
   all_goals
    refine aue (e7 hq hqn g1 aGw g4 g4' g0) ?_;refine reg ?_ ?_ fun sl' h' nx' id k1 k2 k3 k4 k5 k6 k7=>?_
    ·rfl
    ·simp[adX]
    refine wB ⟨aD 54 0 [],h',nx'⟩ ⟨AV _ _ _ k1,Ka _,Ku _⟩ ?_;simp only[aD,go_sem,reduceIte,Kj,Kk,KV,KH,reduceCtorEq,KB,KL];refine au ?_;exact aN h' (Ka _) ⟨rfl,_,k3, .inr ⟨fun e=>(by have e:=congrArg List.length e;rw[hY] at e;simp at e),id,rfl,k6,k5⟩,k4.imp (fun e=>e.symm) (fun e=>⟨id,rfl,Qm e⟩),k7⟩
end Go.Proofs.YtlhedpgobaellaaGreatDoor
namespace Go.Proofs.YtlhedpgobaellaaGreatDoor
open Go.RowKit Go.Sort
attribute [local irreducible] Ky
def ofP(ar:Int)(l:List TR):V:=if (dZ ar l).2=0 then yC ar (dZ ar l).1 else .nilPtr
theorem ul(ar:Int)(acc:List TR)(p:TR)(r:List TR):ofT ar acc (p::r)=if (qY ar acc p).2.2≠0 then ([],(qY ar acc p).2.2) else ofT ar (qY ar acc p).1 r:=rfl
theorem dy{ar:Int}{zs:List TR}(h:∀z∈zs,z.ok)(L:Nat→Prop):(yC ar zs).names L:=
 ⟨⟨trivial,cV (fun L=>iM.2 fun v hv=>by obtain⟨z,hz,rfl⟩:=KU.1 hv;exact TR.names (h z hz) L) L,trivial⟩,trivial⟩
theorem Eg(ar:Int)(o:Own)(l:List TR)(hl:l.length≤1000000)(hp:∀p∈l,(p.1= .nil→p.2=[])∧p.2.length≤1000000)(h:Hp):aM Tryz.prog 39 [.int .i64 ar, .sl .leaf o (l.map TR.v)] h (.tup [ofP ar l,dC (dZ ar l).2]):=by
 have hok:=A3 (ar:=ar) (l:=l) fun p h=>(hp p h).1;refine aJ (fun L=>⟨by unfold ofP;split;exact dy (fun z hz=>(hok.row z hz).2.2) L;trivial,dS L _,trivial⟩) fun h' nx hh=>aB L.bBX fun hd=>?_;have hd:aS h' nx:=hd;have hml:(l.map TR.v).length=l.length:=jK ..;refine ZK ?_;refine au ?_;by_cases hb:ar<0∨6<ar
 ·refine aV ((Gg ar hb h' nx).mono ?_);rintro v h2 nx2 hle ⟨rfl,rfl⟩;unfold bW;refine Zn ?_;have hve:=dK 6;rw[decide_eq_false ZM] at hve;refine aue hve ?_;refine aN h2 (Ka _) ⟨?_,rfl⟩;unfold ofP dZ;rw[if_pos hb];rfl
 refine aV ((Hj ar hb h' nx).dom.mono ?_);rintro v h2 nx2 hle ⟨⟨rfl,rfl⟩,hd2,_⟩;unfold bW;refine Zn ?_;have hve:veq (pO.iface true) V.nilIface V.nilIface=some true:=rfl;have hR0:dZ ar l=ofT ar [] l:=by unfold dZ;rw[if_neg hb]
 refine aue (e2 hve hml) ?_;generalize hR:mD (lwp Tryz.prog (.seq (.ops L.aDJ) .ret)) _=RQ
 refine aP (fun q:Nat×List TR=>aD 37 0 [(0, .int .i64 ar),(1, .sl .leaf o (l.map TR.v)),(4, .nilPtr),(5, .nilIface),(6, .ptr nx (.agg 2) 0 0),(20, .sl .leaf o (l.map TR.v)),(21, .int .i64 l.length),(22, .int .i64 q.1)])
  (fun q hp nx1=>q.1≤l.length∧nx<nx1∧aS hp nx1∧fR ar q.2∧ofT ar [] l=ofT ar q.2 (l.drop q.1)∧(∀k,k<nx→hp k=h' k)∧∃M,hp nx=some (.arr (.agg 2) [.agg [.int .i64 ar,M]])∧DJ hp M q.2 nx∧∀n,pC M=some n→nx<n)
  (fun q=>l.length-q.1) (0,[]) ⟨KG _,hd2 nx _ (if_pos rfl),hd2,oX ar,rfl,fun k hk=>by simp only[Kb];rw[if_neg or],_,by simp[Kb], .inl ⟨rfl,rfl⟩,fun n e=>by cases e⟩ (by simp only[WkL,aD,jH,jI,jJ,hml,go_sem,reduceIte,jA,jB,jC,jD,reduceCtorEq,jE,jF]) ?_
 rintro⟨i,zs⟩ H nx1 ⟨hi,hnx,hdm,hro,hof,hk,M,hM1,hM2,hM3⟩;generalize hQ:aZ _ _ _ _ _=Q0;dsimp only at hi hro hof hM2;refine Zk ?_;have hle:h'.le H:=fun k b e=>(hk k (hd _ _ e)).trans e;rcases KE i l.length with hlt|hge
 ·have hc:decide ((i:Int)<(l.length:Int))=true:=dct;have hg:=aL TR.v l i hlt;have hw:IntKind.i64.wrap ((i:Int)+1)=((i+1:Nat):Int):=wrp;have hdr:l.drop i=l[i]::l.drop (i+1):=List.drop_eq_getElem_cons hlt;obtain⟨hp1,hp2⟩:=hp l[i] (Ki hlt);rw[hdr,ul] at hof
  refine aue (e6 hc hg hlt hml TR.aAC jG) ?_;refine aV ((zh ar zs hro l[i] hp1 hp2 nx M H nx1 hM1 hM2).dom.mono ?_);have aPT:=hro.add hp1;generalize qY ar zs l[i]=P at*;rintro v h3 nx3 aCu ⟨⟨rfl,M',q1,q2,q3,q4⟩,hd3,_⟩;unfold bW;refine Zn ?_;have hve:=dK P.2.2;have hk3:∀k,k<nx→h3 k=h' k:=fun k hkn=>(q4 k or or (fun e=>by have:=hM3 k e;omega)).trans (hk k hkn);by_cases he:P.2.2=0
  ·rw[decide_eq_true he] at hve;rw[if_neg (by simpa using he)] at hof
   refine aue (e2 hve hw) ?_;rw[←hQ];refine aF (i+1,P.1) Zw ⟨hlt,or,hd3,aPT,hof,hk3,M',q1,q2,fun n e=>?_⟩ (by simp only[WkL,aD,jH,jI,jJ,hw,go_sem,reduceIte,jA,jB,jC,jD,reduceCtorEq,jE,jF]);rcases q3 with q|⟨n',q,q'⟩
   ·rw[q] at e;exact hM3 n e
   rw[q] at e;injection e with e;omega
  rw[decide_eq_false he] at hve;rw[if_pos he] at hof
  refine aue hve ?_;rw[←hQ];refine au ?_;rw[←hR];refine au ?_;refine aN h' (fun k b e=>(hk3 k (hd _ _ e)).trans e) ⟨?_,rfl⟩;unfold ofP;rw[hR0,hof,if_neg he];rfl
 have hc:decide ((i:Int)<(l.length:Int))=false:=dcf;rw[List.drop_of_length_le or] at hof
 have hof:dZ ar l=(zs,0):=hR0.trans hof
 refine aue hc ?_;rw[←hQ];refine au ?_;rw[←hR];have hval:ofP ar l=yC ar zs∧dC (dZ ar l).2= .nilIface:=by unfold ofP;rw[hof];exact⟨rfl,rfl⟩
 rcases hM2 with⟨rfl,rfl⟩|⟨hne,n,rfl,hn,hnq⟩
 ·refine dA (mO (t:=6) (n:=nx) (k:= .agg 2) (i:=0) (o:=0) rfl hM1) ?_;refine au ?_;refine aN h' (lU hle (aS.none hd (Ku _))) ⟨?_,rfl⟩;rw[hval.1,hval.2];rfl
 refine dA (FZ (p:=nx) (m:=2) (j:=1) (n:=n) (k:= .leaf) (off:=0) (len:=zs.length) hM1 ZM rfl hn (fun e=>hnq e.symm) Zm) ?_;refine dA (mO (t:=6) (n:=nx) (k:= .agg 2) (i:=0) (o:=0) rfl (if_pos rfl)) ?_;have hnn:nx<n:=hM3 n rfl;refine au ?_;refine aN h' (lU (eH (lU hle (aS.none hd or)) (aS.none hd (Ku _)) _) (aS.none hd (Ku _))) ⟨?_,rfl⟩;rw[hval.1,hval.2];refine Zn ?_;obtain⟨z,zr,rfl⟩:∃z zr,zs=z::zr:=by cases zs with|nil=>exact absurd rfl hne|cons z zr=>exact⟨z,zr,rfl⟩
 unfold yC;rw[KO,ED];simp[Kx]
theorem Fv{p:TR}(h:p.ok):cpO p=p:=by
 obtain⟨o,t⟩:=p;rcases h with⟨rfl,rfl⟩|rfl<;>rfl
theorem uy:aE Tryz.prog 111=some (LB.aDq .leaf 24):=Zz
theorem CT(v:V)(h:Hp):aM Tryz.prog 246 [v] h (.bool true):=by
 refine aJ (fun L=>trivial) fun h' nx hh=>aB L.aWm fun hd=>?_;refine ZK ?_;refine au ?_;exact aC h' (Ka _) ⟨rfl,rfl⟩
abbrev kpV:V:= .fn (.func 246) [] []
abbrev FJ(v:V):List V:=[.ept .leaf [v] 0 0, .ept .leaf [kpV] 0 0]
theorem Ca(v:V)(hl:v.aAE=true)(hn:∀L,v.names L)(h:Hp):aM Tryz.prog 203 [v] h (.fn (.func 261) [] (FJ v)):=by
 have hK:∀h,aM Tryz.prog 245 [v,kpV] h (.fn (.func 261) [] (FJ v)):=fun h=>by
  refine oY (fun L _=>⟨trivial,⟨hn L,trivial⟩,⟨⟨trivial,trivial⟩,trivial⟩,trivial⟩) fun h' nx hh=>aB L.aWn fun hd=>?_;refine ZK ?_;have hf:v.fits .leaf=true:=by rw[fX];exact hl
  refine bS ?_;generalize hR:mD _ _=R;refine aue (e2 hf hl) ?_;rw[←hR];refine dA (mO (t:=2) (n:=nx) (k:= .leaf) (i:=0) (o:=0) (es:=[v]) rfl (by simp only[go_sem,reduceIte,jA,jB,jC,jD,reduceCtorEq,jE,jF])) ?_;refine dA (mO (t:=3) (n:=nx+1) (k:= .leaf) (i:=0) (o:=0) (es:=[kpV]) rfl (by simp only[go_sem,reduceIte,jA,jB,jC,jD,reduceCtorEq,jE,jF])) ?_;refine Zn ?_;refine au ?_;refine aC h' (fun m b e=>?_) ⟨rfl,rfl⟩;have:=hd _ _ e;simp only[Hp.del,Kb];repeat rw[if_neg or]
  exact e
 refine oY (fun L _=>⟨trivial,⟨hn L,trivial⟩,⟨⟨trivial,trivial⟩,trivial⟩,trivial⟩) fun h' nx hh=>aB L.aXC fun hd=>?_;have C1:=hK;refine ZK ?_;refine au ?_;exact aC h' (Ka _) ⟨rfl,rfl⟩
theorem Ei(ar:Int)(zs:List TR)(hr:fR ar zs):yc Tryz.prog 261 (FJ (yC ar zs)) Hp.none (zs.map fun z=>[z.v]):=by
 intro yn J D hbJ hnJ hnD hJ h0 nx0 h0J hd0;simp only[jK];have hz:=hr.len;have hml:(zs.map TR.v).length=zs.length:=jK ..;refine aB L.aMY fun hd=>?_;obtain⟨o,ho⟩:=bX .leaf (zs.map TR.v);have hnil:o= .nil→zs.map TR.v=[]:=fun e=>by
  rw[e] at ho;cases hm:zs.map TR.v with
  |nil=>rfl
  |cons a b=>rw[hm] at ho;cases ho
 have C1:=fun h=>vG uy or o (zs.map TR.v) (by rw[hml];omega) hnil (fun L=>iM.2 fun v hv=>by obtain⟨z,hz,rfl⟩:=KU.1 hv;exact TR.names (hr.row z hz).2.2 L) h;obtain⟨o2,ho2⟩:∃o2,(V.sl .leaf o (zs.map TR.v)).loose= .sl .leaf o2 (zs.map TR.v):=by cases o<;>exact⟨_,rfl⟩
 rw[ho2] at C1;unfold yC;rw[ho];refine ZK ?_;refine aue hml ?_
 refine aP (fun i:Nat=>aD 29 0 [(0, .yld yn),(1, .ept .leaf [.ept (.agg 2) [.agg [.int .i64 ar, .sl .leaf o (zs.map TR.v)]] 0 0] 0 0),(2, .ept .leaf [kpV] 0 0),(12, .sl .leaf o2 (zs.map TR.v)),(13, .int .i64 zs.length),(14, .int .i64 i)])
  (fun i hp nx1=>i≤zs.length∧J i hp nx1∧aS hp nx1)
  (fun i=>zs.length-i) 0 ⟨KG _,h0J,hd0⟩ (by simp only[WkL,aD,jH,jI,jJ,hml,go_sem,reduceIte,jA,jB,jC,jD,reduceCtorEq,jE,jF]) ?_
 rintro i hp nx1 ⟨hi,hj,hdm⟩;generalize hQ:aZ _ _ _ _ _=Q0;refine Zk ?_;rcases KE i zs.length with hlt|hge
 ·have hc:decide ((i:Int)<(zs.length:Int))=true:=dct;have hg:=aL TR.v zs i hlt;have hw:IntKind.i64.wrap ((i:Int)+1)=((i+1:Nat):Int):=wrp;have aCJ:=hr.row zs[i] (Ki hlt);have hlen:zs[i].2.length≤6:=by have:=aCJ.1;unfold qV at this;simp only[KA,decide_eq_true_eq] at this;exact this.1
  have hy:=(hJ i (by simpa using hlt) hp nx1 hj hdm).dom;simp only[KS] at hy;have C1:=fun h=>cr zs[i] or (fun e=>by rcases aCJ.2.2 with⟨_,q⟩|q;exact q;rw[q] at e;cases e) h;rw[Fv aCJ.2.2] at C1;have hfz:=TR.aAC zs[i];generalize zs[i].v=Z at*;refine aue (e6 hc hg hlt hml jG hfz) ?_;refine eA rfl (CT Z _) rfl (aI _) ?_;refine aue hfz ?_;refine nF rfl ?_;refine(hy.weaken (Ka _)).mono ?_;rintro v h2 nx2 hnx ⟨hq,aGf,_⟩;unfold bW;rcases hq with⟨rfl,hj2⟩|⟨rfl,hD⟩
  ·refine Zn ?_;refine aue hw ?_;rw[←hQ];exact aF (i+1) or ⟨hlt,hj2,aGf⟩ (by simp only[WkL,aD,jH,jI,jJ,hw,go_sem,reduceIte,jA,jB,jC,jD,reduceCtorEq,jE,jF])
  refine Zn ?_;refine au ?_;rw[←hQ];refine au ?_;exact⟨h2,Ka _, .inr hD⟩
 have hc:decide ((i:Int)<(zs.length:Int))=false:=dcf;have hie:i=zs.length:=or;subst hie;refine aue hc ?_;rw[←hQ];refine au ?_;exact⟨hp,Ka _, .inl hj⟩
theorem B9:yc Tryz.prog 261 (FJ .nilPtr) Hp.none []:=by
 intro yn J D hbJ hnJ hnD hJ h0 nx0 h0J hd0;refine aB L.aMY fun hd=>?_;refine ZK ?_;refine au ?_;exact⟨h0,Ka _, .inl h0J⟩
end Go.Proofs.YtlhedpgobaellaaGreatDoor
