/-
Texts of this proof,one behind the other. No conditions.
-/
import Derived.Test.YtlhedpgobaellaaGreatDoorKv
import Derived.Lib.Overlaps
import Derived.Lib.AppendZerosOnto
import Derived.Laws.Externs
open Go.Proofs.YtlhedpgobaellaaGreatDoor.Hp renaming set→Ka,le_refl→Kb,same→Kx
open Go.Proofs.YtlhedpgobaellaaGreatDoor.V renaming undef→Kc,loose→Km,cells→Ko,cell→Kq
open List renaming getD_eq_getElem?_getD→Kd,length_cons→Ke,replicate→Kf,take_succ_eq_append_getElem→Kg,replicate_succ→Kh,replicate_zero→Ki,cons_append→Kp,length_nil→Ks,nil_append→Kt,length_map→Kv,getElem_mem→Kw,drop_eq_getElem_cons→Ky,getElem?_append_left→Kz,take_of_length_le→KA,drop_of_length_le→KB,length_append→KC,getElem?_append_right→KD,length_take→KG,mem_append→KL,getElem?_eq_getElem→KN,mem_singleton→KO,append_assoc→KT,take_append_drop→KU,length_drop→KV,mem_iff_getElem→Qb,mem_cons_of_mem→Qc,mem_of_mem_take→Qd,map_append→Qe,mem_cons_self→Qh,mem_cons→Qk,map_cons→Ql,map_take→Qm,pairwise_iff_getElem→Qo,getElem?_toArray→Qt,length_singleton→Qv,drop_zero→Qx,countP_eq_zero→Qy,map_drop→Qz,take_succ_cons→QB,getElem?_take→QD,mem_map→QE,size_toArray→QG,getElem_map→QH,all_eq_true→QJ,not_mem_nil→QK,take_left'→QO,take_zero→QP,take→QQ
open Nat renaming reduceAdd→Kj,reduceSub→Kk,le_refl→Ku,lt_or_ge→KE,reduceEqDiff→KK,zero_le→KM,zero_mul→KP,zero_add→KQ,lt_succ_of_lt→KS,reduceLeDiff→KX,lt_succ_self→KY,mul_one→KZ,reduceLT→Qq,le_succ→Qu,min_def→Qw,lt_irrefl→QA,lt_or_eq_of_le→QC,le_succ_of_le→QF,not_lt_zero→QN,le_of_lt→QS,add_zero→QT,add_mul→QU
open Go.IntKind renaming wrap→KF,wrap_i64→KH
open Array renaming getD_eq_getD_getElem?→KI,getElem?_append_left→Qj
open Go.Builtin renaming zeroCells→KJ,copy_→Qa,append_→Qi
open Int renaming toNat_natCast→KR,reduceToNat→Qf,natCast_zero→QI,natCast_add→QL,natCast_one→QM
open Bool renaming and_eq_true→KW,not_false→Qg,not_true→Qp,eq_iff_iff→Qr,true_and→QR
open Nat renaming reduceAdd→jA,reduceSub→jB,reduceLT→jC,reduceLeDiff→jD,reduceEqDiff→jE
open Int renaming reduceToNat→jF,toNat_natCast→jG,natCast_add→jH,natCast_one→jI,natCast_zero→jJ
open List renaming length_map→jK,cons_append→jP
set_option linter.all false
set_option maxHeartbeats 8000000
namespace Go.Proofs.YtlhedpgobaellaaGreatDoor
open Go.RowKit Go.Sort
attribute [local irreducible] KF
def rB(L:List (List Vl))(t:List Vl):Bool:=L.any fun s=>decide (s=t)
def pJ(a:Am)(L:List (List Vl)):List (List Tr)→List (List Tr)→List (List Tr)×Int
 |acc,[]=>(acc,0)
 |acc,e::r=>if (cY a e).2≠0 then ([],(cY a e).2) else pJ a L (if rB L (cY a e).1=true then acc else acc++[e]) r
def mF(x:Li):List (List Tr)→List (List Tr)→List (List Tr)×Int
 |acc,[]=>(acc,0)
 |acc,e::r=>match nS e x with
  |(some l,_)=>mF x (acc++[l]) r
  |(none,n)=>if n≠0 then ([],n) else mF x acc r
def xS(a:Am)(L:List (List Vl))(es:List (List Tr)):List (List Tr):=es.flatMap fun e=>L.filterMap fun t=>pK a t e
def nF(G:ByteArray→List (List Vl))(x:Li)(es:List (List Tr)):List (List Tr)×Int:=
 if x.k=1 then (xS x.a (G x.a.r) es,0) else if x.k=2 then pJ x.a (G x.a.r) [] es else mF x [] es
def lY(G:ByteArray→List (List Vl))(b:List Li):List Nat→List (List Tr)→List (List Tr)×Int
 | [],es=>(es,0)
 |k::ks,es=>if (nF G (b.getD k default) es).2≠0 then ([],(nF G (b.getD k default) es).2) else
  if 20000<(nF G (b.getD k default) es).1.length then ([],11) else lY G b ks (nF G (b.getD k default) es).1
theorem sG(a:Am)(L:List (List Vl))(acc:List (List Tr))(e:List Tr)(r:List (List Tr)):pJ a L acc (e::r)=if (cY a e).2≠0 then ([],(cY a e).2) else pJ a L (if rB L (cY a e).1=true then acc else acc++[e]) r:=rfl
theorem rY(x:Li)(acc:List (List Tr))(e:List Tr)(r:List (List Tr)):mF x acc (e::r)=match nS e x with
 |(some l,_)=>mF x (acc++[l]) r
 |(none,n)=>if n≠0 then ([],n) else mF x acc r:=rfl
theorem B0(a:Am)(L:List (List Vl))(es fs:List (List Tr)):xS a L (es++fs)=xS a L es++xS a L fs:=by
 unfold xS;rw[List.flatMap_append]
theorem i6(a:Am)(L:List (List Vl)):∀(es acc:List (List Tr)),(pJ a L acc es).1.length≤acc.length+es.length
 | [],acc=>Ku _
 |e::r,acc=>by
  rw[sG];split
  ·simp
  refine Nat.le_trans (i6 a L r _) ?_;rw[Ke];split
  ·omega
  rw[KC,Ke,Ks];omega
end Go.Proofs.YtlhedpgobaellaaGreatDoor
namespace Go.Proofs.YtlhedpgobaellaaGreatDoor
open Go.RowKit Go.Sort
def cpO(p:TR):TR:=(if p.1= .nil then .nil else .free,p.2)
def loT(t:List Vl)(zs:List TR):Nat:=zs.countP fun z=>decide (cP z.2 t<0)
def bj(p:TR)(zs:List TR):List TR:=zs.take (loT p.2 zs)++cpO p::zs.drop (loT p.2 zs)
def oW(t:List Vl):Bool:=decide (t.length≤6)&&t.all bO
def oQ(ar:Int)(zs:List TR)(p:TR):List TR×Bool×Int:=
 if (p.2.length:Int)≠ar then (zs,false,6) else if oW p.2=false then (zs,false,2) else if rB (aQ zs) p.2=true then (zs,false,0) else if 2000≤zs.length then (zs,false,11) else (bj p zs,true,0)
def ofT(ar:Int):List TR→List TR→List TR×Int
 |acc,[]=>(acc,0)
 |acc,p::r=>if (oQ ar acc p).2.2≠0 then ([],(oQ ar acc p).2.2) else ofT ar (oQ ar acc p).1 r
def dD(ar:Int)(l:List TR):List TR×Int:=if ar<0∨6<ar then ([],6) else ofT ar [] l
theorem EK{t:List Vl}{zs:List TR}{i:Nat}(hi:i≤zs.length)(h1:∀k (h:k<zs.length),k<i→cP zs[k].2 t<0)(h2:∀k (h:k<zs.length),i≤k→¬cP zs[k].2 t<0):loT t zs=i:=by
 unfold loT;conv=>lhs;rw[←KU i zs]
 rw[List.countP_append,List.countP_eq_length.2,Qy.2,KG]
 ·omega
 ·intro x hx;obtain⟨k,hk,rfl⟩:=Qb.1 hx;rw[List.getElem_drop];simpa using h2 (i+k) (by simp at hk;omega) or
 intro x hx;obtain⟨k,hk,rfl⟩:=Qb.1 hx;rw[List.getElem_take];simp only[KG] at hk;simpa using h1 k or or
theorem EJ(t:List Vl)(zs:List TR):loT t zs≤zs.length:=List.countP_le_length
theorem y5{α:Type}{c:α→α→Int}(h:C3 c)(x:α):∀l:List α,Str c l→x∉l→kT c x l=l.take (l.countP fun y=>decide (c y x<0))++x::l.drop (l.countP fun y=>decide (c y x<0))
 | [],_,_=>rfl
 |y::l,hs,hn=>by
  have⟨h1,h2⟩:=List.pairwise_cons.1 hs;unfold kT;by_cases k:c x y<0
  ·have hz:((y::l).countP fun z=>decide (c z x<0))=0:=Qy.2 fun z hz=>by
    have:c x z<0:=by
     rcases Qk.1 hz with rfl|hz
     ·exact k
     exact h.trans _ _ _ k (h1 z hz)
    have:=(h.aCB _ _).1 this;simp only[decide_eq_true_eq];omega
   rw[if_pos k,hz];rfl
  rw[if_neg k];by_cases k2:c x y=0
  ·exact absurd ((h.eq _ _).1 k2) (fun e=>hn (e▸Qh))
  rw[if_neg k2,y5 h x l h2 (fun e=>hn (Qc _ e)),List.countP_cons_of_pos (by simpa using h.pos k2 k)];rfl
theorem uW{L:List (List Vl)}{t:List Vl}:rB L t=true↔t∈L:=by simp[rB]
theorem jl{p:TR}{zs:List TR}(hs:Str cP (aQ zs))(hn:p.2∉aQ zs):aQ (bj p zs)=kT cP p.2 (aQ zs):=by
 rw[y5 c3T _ _ hs hn];have e:((aQ zs).countP fun y=>decide (cP y p.2<0))=loT p.2 zs:=by unfold loT aQ;rw[List.countP_map];rfl
 rw[e];simp only[bj,aQ,Qe,Ql,Qm,Qz];rfl
structure fB(ar:Int)(zs:List TR):Prop where
 str:Str cP (aQ zs)
 row:∀z∈zs,oW z.2=true∧(z.2.length:Int)=ar∧z.ok
 len:zs.length≤2000
theorem nH(ar:Int):fB ar []:=⟨List.Pairwise.nil,Zm,Zm⟩
theorem Fm{p:TR}(h:p.1= .nil→p.2=[]):(cpO p).ok:=by
 unfold cpO TR.ok;by_cases e:p.1= .nil
 ·rw[if_pos e];exact .inl ⟨rfl,h e⟩
 rw[if_neg e];exact .inr rfl
theorem fB.add{ar:Int}{zs:List TR}(r:fB ar zs){p:TR}(hp:p.1= .nil→p.2=[]):fB ar (oQ ar zs p).1:=by
 unfold oQ;split
 ·exact r
 rename_i h1;split
 ·exact r
 rename_i h2;split
 ·exact r
 rename_i h3;split
 ·exact r
 rename_i h4;refine⟨by rw[jl r.str (fun e=>h3 (uW.2 e))];exact tZ c3T _ _ r.str,fun z hz=>?_,?_⟩
 ·unfold bj at hz;rcases KL.1 hz with q|q
  ·exact r.row z (Qd q)
  rcases Qk.1 q with rfl|q
  ·exact⟨show oW p.2=true by simpa using h2,show(p.2.length:Int)=ar by simpa using h1,Fm hp⟩
  exact r.row z (List.mem_of_mem_drop q)
 have:=EJ p.2 zs;simp only[bj,KC,Ke,KG,KV];omega
theorem BO{ar:Int}:∀(l acc:List TR),fB ar acc→(∀p∈l,p.1= .nil→p.2=[])→fB ar (ofT ar acc l).1
 | [],acc,h,_=>h
 |p::r,acc,h,hl=>by
  unfold ofT;split
  ·exact nH ar
  exact BO r _ (h.add (hl p Qh)) fun q hq=>hl q (Qc _ hq)
theorem kz{ar:Int}{l:List TR}(hl:∀p∈l,p.1= .nil→p.2=[]):fB ar (dD ar l).1:=by
 unfold dD;split
 ·exact nH ar
 exact BO l [] (nH ar) hl
theorem Fd{t:List Vl}{zs:List TR}(hs:Str cP (aQ zs)):(decide (loT t zs<zs.length)&&decide (cP (zs.getD (loT t zs) (.nil,[])).2 t=0))=rB (aQ zs) t:=by
 rw[Qr,uW];simp only[KW,decide_eq_true_eq];constructor
 ·rintro⟨h1,h2⟩;rw[Kd,KN h1] at h2;have:=(c3T.eq _ _).1 h2;exact QE.2 ⟨_,Kw h1,this⟩
 intro h;obtain⟨z,hz,e⟩:=QE.1 h;obtain⟨k,hk,rfl⟩:=Qb.1 hz;have hp:=Qo.1 hs;have el:loT t zs=k:=EK (QS hk) (fun j hj hlt=>by
  have:=hp j k (by simpa using hj) (by simpa using hk) hlt;simpa [e] using this) (fun j hj hle=>by
  rcases QC hle with hlt|rfl
  ·have:=hp k j (by simpa using hk) (by simpa using hj) hlt;simp only[aQ,QH] at this;rw[show(zs[k]).2=t from e] at this;have:=(c3T.aCB _ _).1 this;omega
  rw[show(zs[k]).2=t from e,c3T.self];omega)
 rw[el];refine⟨hk,?_⟩;rw[Kd,KN hk];show cP (zs[k]).2 t=0;rw[show(zs[k]).2=t from e,c3T.self]
end Go.Proofs.YtlhedpgobaellaaGreatDoor
namespace Go.Proofs.YtlhedpgobaellaaGreatDoor
open Go.RowKit Go.Sort
attribute [local irreducible] KF
theorem k8(o:Own)(t:List Vl)(hl:t.length≤1000000)(hz:∀v∈t,v.s.size≤9223372036854775807)(h:Hp):aL Tryz.prog 137 [vls o t] h (.bool (oW t)):=by
 refine aI (fun L=>trivial) fun h' nx hh=>aB L.aXB fun hd=>?_;simp only[Ke,Ks,Kj,Kk,Kh,Ki,Kp,Kt,Kc];have hml:=@Kv Vl V t Vl.v;refine au ?_
 refine aP (fun i:Nat=>aD 20 0 [(0,vls o t),(3, .int .i64 i)])
  (fun i hp nx1=>i≤t.length∧i≤6∧hp=h'∧(t.take i).all bO=true)
  (fun i=>t.length-i) 0 ⟨KM _,or,rfl,rfl⟩ (by simp only[WkL,aD,QL,QM,QI,go_sem,reduceIte,Kj,Kk,Qq,KX,reduceCtorEq,KK,Qf]) ?_
 rintro i hp nx1 ⟨hi,hi6,rfl,aAZ⟩;generalize hQ:bB _ _ _ _ _=Q0;simp only[aD,go_sem,reduceIte,Kj,Kk,Qq,KX,reduceCtorEq,KK,Qf];have hw:IntKind.i64.wrap ((i:Int)+1)=((i+1:Nat):Int):=wrp;rcases KE i t.length with hlt|hge
 ·have hc:decide ((i:Int)<(t.length:Int))=true:=dct;have hg:=aO Vl.v t i hlt;have C1:=fun h=>j5 t[i] (hz _ (Kw hlt)) h;have hf:=Vl.aAD t[i];have htk:(t.take (i+1)).all bO=((t.take i).all bO&&bO t[i]):=by rw[Kg hlt,List.all_append];simp
  have hno:bO t[i]=false→oW t=false:=fun e=>by
   unfold oW;rw[List.all_eq_false.2 ⟨_,Kw hlt,by simp[e]⟩,Bool.and_false]
  generalize t[i]=x at*;by_cases h6:i=6
  ·have g:decide (5<(i:Int))=true:=dct;refine aue (e6 hc hg hlt hml g KR) ?_;rw[←hQ];refine au ?_;refine aC hp (leo hd) ⟨?_,rfl⟩;unfold oW;rw[decide_eq_false or];rfl
  have g:decide (5<(i:Int))=false:=dcf;cases hr:bO x with
  |true=>
   rw[hr] at C1 htk;refine aue (e8 hc hg hlt hml g KR hf hw) ?_;rw[←hQ];exact aG (i+1) or ⟨hlt,or,rfl,by rw[htk,aAZ];rfl⟩ (by simp only[WkL,aD,QL,QM,QI,hw,go_sem,reduceIte,Kj,Kk,Qq,KX,reduceCtorEq,KK,Qf])
  |false=>
   rw[hr] at C1;refine aue (e8 hc hg hlt hml g KR hf hw) ?_;rw[←hQ];refine au ?_;refine aC hp (leo hd) ⟨?_,rfl⟩;rw[hno hr];rfl
 have hc:decide ((i:Int)<(t.length:Int))=false:=dcf;rw[KA hge] at aAZ;refine aue (e2 hc hml) ?_;rw[←hQ];refine au ?_;refine aC hp (leo hd) ⟨?_,rfl⟩;unfold oW;rw[aAZ,decide_eq_true or];rfl
end Go.Proofs.YtlhedpgobaellaaGreatDoor
namespace Go.Proofs.YtlhedpgobaellaaGreatDoor
open Go.RowKit Go.Sort
attribute [local irreducible] KF
theorem mi{a b:List Vl}:∀(i:Nat),a.take i=b.take i→i≤a.length→i≤b.length→cP a b=cP (a.drop i) (b.drop i):=fun i h h1 h2=>by
 conv=>lhs;rw[←KU i a,←KU i b,←h]
 clear h h1 h2;induction a.take i with
 |nil=>rfl
 |cons x l ih=>
  simp only[jP,cP,dZ,orC,c3V.self,if_true];exact ih
theorem rS(o1 o2:Own)(a b:List Vl)(ha:a.length≤1000000000)(h:Hp):aL Tryz.prog 83 [vls o1 a,vls o2 b] h (.bool (oM a b)):=by
 refine aI (fun L=>trivial) fun h' nx hh=>aB L.aX1 fun hd=>?_;refine ZK ?_;refine au ?_;refine aP (fun i:Nat=>aD 41 0 [(0,vls o1 a),(1,vls o2 b),(5, .int .i64 i)]) (fun i hp nx1=>i≤a.length∧i≤b.length∧nx≤nx1∧aV hp nx1∧Kx nx h' hp∧a.take i=b.take i) (fun i=>a.length-i) 0 ⟨KM _,KM _,Ku _,hd,Hp.same.aA0,rfl⟩ (by simp only[WkL,aD,jH,jI,jJ,go_sem,reduceIte,jA,jB,jC,jD,reduceCtorEq,jE,jF]) ?_;rintro i hp nx1 ⟨hi,hib,hnx,hdm,hsm,htk⟩;generalize hQ:bB _ _ _ _ _=Q0;refine Zk ?_;have hle:=hsm.le hd (Kb _);have hcm:=mi i htk hi hib;rcases KE i a.length with hlt|hge
 ·have hc:decide ((i:Int)<(a.length:Int))=true:=dct;have hw:IntKind.i64.wrap ((i:Int)+1)=((i+1:Nat):Int):=wrp;rcases KE i b.length with hlb|hgb
  ·have hc2:decide ((i:Int)<(b.length:Int))=true:=dct;have hg:=aO Vl.v a i hlt;have hg2:=aO Vl.v b i hlb;have hv:=yQ a[i] b[i];have E:=e11 hc hc2 hw hg hg2 hv hlt hlb (@jK Vl V) jG Vl.aAD;cases he:decide (a[i]=b[i]) with
   |true=>
    have he':a[i]=b[i]:=of_decide_eq_true he;refine aue (e4 E he Qp Qg) ?_;rw[←hQ];exact aG (i+1) or ⟨hlt,hlb,or,dmo hdm,kep hsm,by rw[Kg hlt,Kg hlb,htk,he']⟩ (by simp only[WkL,aD,jH,jI,jJ,hw,go_sem,reduceIte,jA,jB,jC,jD,reduceCtorEq,jE,jF])
   |false=>
    have he':a[i]≠b[i]:=of_decide_eq_false he;have D1:=fun h=>nl a[i] b[i] h;refine aue (e4 E he Qp Qg) ?_;rw[←hQ];refine au ?_;refine aC h' (lef hd hle) ⟨?_,rfl⟩;have:oM a b=y0 a[i] b[i]:=by
     unfold oM y0;rw[hcm,Ky hlt,Ky hlb];simp only[cP,dZ,orC,if_neg (fun e=>he' ((c3V.eq _ _).1 e))]
    simp only[this,go_sem,reduceIte,jA,jB,jC,jD,reduceCtorEq,jE,jF]
  have hc2:decide ((i:Int)<(b.length:Int))=false:=dcf;have hl2:decide ((a.length:Int)<(b.length:Int))=false:=dcf;refine aue (e4 hc hc2 (@jK Vl V) hl2) ?_;rw[←hQ];refine aue (e2 (@jK Vl V) hl2) ?_;refine aC h' (lef hd hle) ⟨?_,rfl⟩;have:oM a b=false:=by
   unfold oM;rw[hcm,Ky hlt,KB hgb];rfl
  simp only[this,go_sem,reduceIte,jA,jB,jC,jD,reduceCtorEq,jE,jF]
 have hc:decide ((i:Int)<(a.length:Int))=false:=dcf;have hia:i=a.length:=or;have:oM a b=decide ((a.length:Int)<(b.length:Int)):=by
  unfold oM;rw[hcm,hia,List.drop_length];rcases KE a.length b.length with k|k
  ·rw[Ky k,decide_eq_true (by omega:(a.length:Int)<b.length)];rfl
  rw[KB k,decide_eq_false (by omega:¬(a.length:Int)<b.length)];rfl
 refine aue hc ?_;rw[←hQ];refine aue (@jK Vl V) ?_;refine aC h' (lef hd hle) ⟨?_,rfl⟩;simp only[this,go_sem,reduceIte,jA,jB,jC,jD,reduceCtorEq,jE,jF]
end Go.Proofs.YtlhedpgobaellaaGreatDoor
namespace Go.Proofs.YtlhedpgobaellaaGreatDoor
open Go.RowKit Go.Sort
theorem y6{α:Type}{c:α→α→Int}(h:C3 c){x:α}:∀{l:List α} {k:Nat},k≤l.length→(∀y∈l.take k,c y x<0)→(∀hk:k<l.length,¬c l[k] x<0)→x∉l→kT c x l=l.take k++x::l.drop k
 | [],k,hk,_,_,_=>by
  have:k=0:=by simpa using hk
  subst this;rfl
 |y::l,0,_,_,h2,h3=>by
  have h2:=h2 Zm;simp only[List.getElem_cons_zero] at h2;have hne:c y x≠0:=fun e=>h3 (by simp[(h.eq _ _).1 e]);rw[kT,if_pos (h.pos hne h2)];rfl
 |y::l,k+1,hk,h1,h2,h3=>by
  have hy:c y x<0:=h1 y Zm;have n1:¬c x y<0:=fun e=>by have:=(h.aCB _ _).1 e;omega
  have n2:c x y≠0:=fun e=>by rw[(h.eq _ _).1 e,h.self] at hy;omega
  rw[kT,if_neg n1,if_neg n2,y6 h (k:=k) (by simpa using hk) (fun z hz=>h1 z (by simp[hz])) (fun hk=>by have:=h2 (by simpa using hk);simpa using this) (fun e=>h3 (by simp[e]))];rfl
structure xc(l:List Vl)(i:Nat)(many sum:Int)(low high:Vl):Prop where
 many:many=(mS pZ (l.take i)).length
 sum:sum=EV (mS pZ (l.take i))
 aVt:low∈l
 aVu:∀z∈l.take i,¬pZ z low<0
 aOx:high∈l
 aOy:∀z∈l.take i,¬pZ high z<0
theorem xc.step{l:List Vl}{i:Nat}{many sum:Int}{low high:Vl}(f:xc l i many sum low high)(hi:i<l.length):
 xc l (i+1) (if l[i]∈l.take i then many else many+1) (if l[i]∈l.take i then sum else sum+l[i].n) (if decide (pZ l[i] low<0)=true then l[i] else low) (if decide (pZ high l[i]<0)=true then l[i] else high):=by
 have h1:=B6 c3V hi f.aVt f.aVu;have h2:=AQ c3V hi f.aOx f.aOy;refine⟨?_,?_,h1.1,h1.2,h2.1,h2.2⟩
 ·rw[Kg hi,z7 c3V,f.many];split<;>simp
 rw[Kg hi,zu,f.sum];split<;>simp
end Go.Proofs.YtlhedpgobaellaaGreatDoor
namespace Go.Proofs.YtlhedpgobaellaaGreatDoor
open Go.RowKit Go.Sort
attribute [local irreducible] KF
theorem pg(o1 o2:Own)(a b:List Vl)(ha:a.length≤1000000000)(hb:b.length≤1000000000)(h:Hp):aL Tryz.prog 36 [vls o1 a,vls o2 b] h (.bool (decide (a=b))):=by
 refine aI (fun L=>trivial) fun h' nx hh=>aB L.aYO fun hd=>?_;refine ZK ?_;have C1:=fun h=>rS o1 o2 a b ha h;have C2:=fun h=>rS o2 o1 b a hb h;have he:decide (a=b)=(!oM a b&& !oM b a):=by
  rw[Qr];simp only[oM,decide_eq_true_eq,KW,Bool.not_eq_true',decide_eq_false_iff_not];constructor
  ·rintro rfl;simp[cP,c3T.self]
  rintro⟨h1,h2⟩;rw[c3T.aCB] at h2;exact(c3T.eq a b).1 or
 rw[he];cases h1:oM a b with
 |true=>
  rw[h1] at C1;refine aue (e2 Qp Qg) ?_;exact aC h' (leo hd) ⟨rfl,rfl⟩
 |false=>
  rw[h1] at C1;refine aue (e2 Qp Qg) ?_;refine aC h' (leo hd) ⟨?_,rfl⟩;simp
abbrev lsV(ls:List (List Vl)):List V:=ls.map fun t=>vls .free t
def eQ(ar:Int)(ls:List (List Vl)):V:= .agg [.int .i64 ar,lst .leaf (lsV ls)]
theorem Ay(ls:List (List Vl))(L:Nat→Prop):bQ L (lsV ls):=by
 induction ls with
 |nil=>trivial
 |cons x xs ih=>exact⟨vQ x Zm L,ih⟩
theorem oA(ar:Int)(ls:List (List Vl))(L:Nat→Prop):(eQ ar ls).names L:=⟨trivial,lA (fun L=>Ay ls L) L,trivial⟩
theorem iR(ar:Int)(ls:List (List Vl)):(eQ ar ls).fits (.agg 2)=true:=by
 unfold eQ;cases ls<;>rfl
theorem il(ar:Int)(ls:List (List Vl))(hl:ls.length≤1000000000)(hr:∀t∈ls,t.length≤1000000000)(o2:Own)(t:List Vl)(ht:t.length≤1000000000)(h:Hp):aL Tryz.prog 33 [eQ ar ls,vls o2 t] h (.bool (decide (t∈ls))):=by
 refine aI (fun L=>trivial) fun h' nx hh=>aB L.aYW fun hd=>?_;refine ZK ?_;obtain⟨ow,how⟩:=fH .leaf (lsV ls);have hrv:eQ ar ls= .agg [.int .i64 ar, .sl .leaf ow (lsV ls)]:=by rw[eQ,how]
 rw[hrv];refine au ?_
 refine aP (fun i:Nat=>aD 20 0 [(1,vls o2 t),(2, .ptr nx (.agg 2) 0 0),(5, .int .i64 i)])
  (fun i hp nx1=>i≤ls.length∧nx+1≤nx1∧aV hp nx1∧Kx nx h' hp∧hp nx=some (.arr (.agg 2) [.agg [.int .i64 ar, .sl .leaf ow (lsV ls)]])∧t∉ls.take i) (fun i=>ls.length-i) 0 ⟨KM _,ZN,dmo hd,kep Hp.same.aA0,by simp[Ka],Zm⟩ (by simp only[WkL,aD,jH,jI,jJ,go_sem,reduceIte,jA,jB,jC,jD,reduceCtorEq,jE,jF]) ?_
 rintro i hp nx1 ⟨hi,hnx,hdm,hsm,hbx,hno⟩;generalize hQ:bB _ _ _ _ _=Q0;refine Zk ?_;have hle:=hsm.le hd (Kb _);have hn0:nx<nx1:=or;have aDj:(lsV ls).length=ls.length:=jK ..;rcases KE i ls.length with hlt|hge
 ·have hc:decide ((i:Int)<(ls.length:Int))=true:=dct;have hw:IntKind.i64.wrap ((i:Int)+1)=((i+1:Nat):Int):=wrp;have hg:(lsV ls).getD i (.tup [])=vls .free ls[i]:=aO (fun t=>vls .free t) ls i hlt;have C1:=fun h=>pg .free o2 ls[i] t (hr _ (Kw _)) ht h;have E:=e8 hc hw hg hlt aDj hbx hn0 jG;cases he:decide (ls[i]=t) with
  |true=>
   rw[he] at C1;have hin:t∈ls:=(of_decide_eq_true he)▸Kw hlt;refine aue E ?_;rw[←hQ];refine au ?_;exact aC h' (lef hd hle) ⟨by rw[decide_eq_true hin]<;>rfl,rfl⟩
  |false=>
   rw[he] at C1;refine aue E ?_;rw[←hQ];refine aG (i+1) or ⟨hlt,or,dmo hdm,kep hsm,hbx,fun hm=>?_⟩ (by simp only[WkL,aD,jH,jI,jJ,hw,go_sem,reduceIte,jA,jB,jC,jD,reduceCtorEq,jE,jF]);rw[Kg hlt] at hm;rcases KL.1 hm with hm|hm
   ·exact hno hm
   exact(of_decide_eq_false he) (KO.1 hm).symm
 have hc:decide ((i:Int)<(ls.length:Int))=false:=dcf;rw[KA hge] at hno;refine aue (e4 hc aDj hbx hn0) ?_;rw[←hQ];refine au ?_;exact aC h' (lef hd hle) ⟨by rw[decide_eq_false hno]<;>rfl,rfl⟩
theorem DT(ls:List (List Vl))(h:ls≠ []):lst .leaf (lsV ls)= .sl .leaf .free (lsV ls):=by
 cases ls with
 |nil=>exact absurd rfl h
 |cons a b=>rfl
theorem Af(ar:Int)(ls:List (List Vl))(hs:Str cP ls)(hl:ls.length≤1000000)(hr:∀t∈ls,t.length≤1000000)(o2:Own)(t:List Vl)(ht:t.length≤1000000)(h:Hp):aL Tryz.prog 35 [eQ ar ls,vls o2 t] h (eQ ar (kT cP t ls)):=by
 refine fE (fun L=>oA _ _ L) fun h' nx hh=>aB L.aYP fun hd=>?_;refine ZK ?_;obtain⟨ow,how⟩:=fH .leaf (lsV ls);have hrv:eQ ar ls= .agg [.int .i64 ar, .sl .leaf ow (lsV ls)]:=by rw[eQ,how]
 have hlo:(eQ ar ls).loose=eQ ar ls:=by
  unfold eQ;cases ls<;>rfl
 have C1:=fun h=>il ar ls or (fun q hq=>by have:=hr q hq;omega) o2 t or h;rw[hrv] at C1 hlo⊢;have hfz:V.fits (.agg 2) (.agg [.int .i64 ar, .sl .leaf ow (lsV ls)])=true:=rfl;cases hm:decide (t∈ls) with
 |true=>
  rw[hm] at C1;have hin:=l8 c3T hs (of_decide_eq_true hm);refine aue hfz ?_;refine pD (by simp only[go_sem,reduceIte,jA,jB,jC,jD,reduceCtorEq,jE,jF]) _ (Kb _) ⟨?_,leo hd⟩;refine Zn ?_;rw[hin,hrv];exact hlo
 |false=>
 rw[hm] at C1;have hni:t∉ls:=of_decide_eq_false hm;have aDj:(lsV ls).length=ls.length:=jK ..;refine aue hfz ?_
 refine aP (fun k:Nat=>aD 48 0 [(1,vls o2 t),(2, .ptr nx (.agg 2) 0 0),(4, .ptr (nx+1) (.agg 2) 0 0),(5, .int .i64 k)])
  (fun k hp nx1=>k≤ls.length∧nx+2≤nx1∧aV hp nx1∧Kx nx h' hp∧hp nx=some (.arr (.agg 2) [.agg [.int .i64 ar, .sl .leaf ow (lsV ls)]])∧hp (nx+1)=some (.arr (.agg 2) [.agg [.int .i64 0, .sl .leaf .nil []]])∧∀y∈ls.take k,cP y t<0) (fun k=>ls.length-k) 0 ⟨KM _,ZN,dmo hd,kep Hp.same.aA0,by simp[Ka],by simp[Ka],Zm⟩ (by simp only[WkL,aD,jH,jI,jJ,go_sem,reduceIte,jA,jB,jC,jD,reduceCtorEq,jE,jF]) ?_
 rintro k hp nx1 ⟨hk,hnx,hdm,hsm,hbx,aOQ,aAZ⟩;generalize hQ:bB _ _ _ _ _=Q0;refine Zk ?_;have hle:=hsm.le hd (Kb _);have n0:nx<nx1:=or;have n1:nx+1<nx1:=or;have out:(∀hk:k<ls.length,¬cP ls[k] t<0)→∀sl,WkL sl (aD 48 0 [(1,vls o2 t),(2, .ptr nx (.agg 2) 0 0),(4, .ptr (nx+1) (.agg 2) 0 0),(5, .int .i64 k)])→Q0 (.exit 0) ⟨sl,hp,nx1⟩:=fun aOd sl hsl=>by
  have aDu:=y6 c3T hk aAZ aOd hni;rw[←hQ];refine gT (fV (x8 ⟨aD 48 0 [(1,vls o2 t),(2, .ptr nx (.agg 2) 0 0),(4, .ptr (nx+1) (.agg 2) 0 0),(5, .int .i64 k)],hp,nx1⟩ ⟨hsl,Kb _,Ku _⟩ ?_));refine Zk ?_;have hkt:((lsV ls).take k).length=k:=by rw[KG,aDj];omega
  have hml:(t.map Vl.v).length=t.length:=jK ..;have htk:(lsV ls).take ls.length=lsV ls:=KA or;have hdk:((lsV ls).drop k).length=ls.length-k:=by rw[KV,aDj]
  refine bK (bS ?_);generalize hR:lwp _ (aS.seq (aS.ops L.aEj) _)=R;refine aue (e8 hbx aOQ n0 n1 aDj jG hkt hml) ?_;rw[←hR];refine bK ?_;generalize hR2:mT _ _=R2;refine aue (e8 hbx aOQ n0 n1 aDj jG hkt hml) ?_;rw[←hR2];refine dO (zt 6 rfl) ?_;have hco:∀h0 aAF aAK cons b,pY h0 (nx1+6) aAF aAK cons (nx1+5) b=(dR (nx1+5) cons∧h0 (nx1+5)=some b):=fun h0 aAF aAK cons b=>by
   unfold pY;rw[eq_iff_iff];constructor
   ·rintro⟨h1,⟨_,h2⟩|⟨d,_,h3,_⟩⟩
    ·exact⟨h1,h2⟩
    omega
   rintro⟨h1,h2⟩;exact⟨h1, .inl ⟨or,h2⟩⟩
  have aWA:∀q:List (List Vl),(lsV q).map Km=lsV q:=fun q=>by
   simp[lsV,vls,Km,Function.comp_def]
  have hl6:(QQ k (lsV ls)++[V.sl (.agg 3) (.tok (nx1+3)) (t.map Vl.v)]).map Km=QQ k (lsV ls)++[vls .free t]:=by
   have:((lsV ls).take k).map Km=(lsV ls).take k:=by rw[Qm,aWA]
   rw[Qe,this];rfl
  rw[hl6];refine Zn ?_;refine aue (e12 hbx aOQ n0 n1 aDj jG hkt hml hco htk hdk (@KC V)) ?_;refine pD (by simp only[go_sem,reduceIte,jA,jB,jC,jD,reduceCtorEq,jE,jF]) _ (Kb _) ⟨?_,lef hd hle⟩;refine Zn ?_;have hne:ls.take k++t::ls.drop k≠ []:=Zm;have hlv:lsV (ls.take k++t::ls.drop k)=QQ k (lsV ls)++[vls .free t]++List.drop k (lsV ls):=by
   simp[lsV,Qe,Qm,Qz]
  rw[aDu,eQ,DT _ hne,hlv];rfl
 rcases KE k ls.length with hlt|hge
 ·have hc:decide ((k:Int)<(ls.length:Int))=true:=dct;have hw:IntKind.i64.wrap ((k:Int)+1)=((k+1:Nat):Int):=wrp;have hg:(lsV ls).getD k (.tup [])=vls .free ls[k]:=aO (fun t=>vls .free t) ls k hlt;have C1:=fun h=>rS .free o2 ls[k] t (by have:=hr _ (Kw hlt);omega) h;have E:=e8 hc hw hg hlt aDj hbx n0 jG;cases he:oM ls[k] t with
  |true=>
   rw[he] at C1;refine aue E ?_;rw[←hQ];refine aG (k+1) or ⟨hlt,or,dmo hdm,kep hsm,hbx,aOQ,fun y hy=>?_⟩ (by simp only[WkL,aD,jH,jI,jJ,hw,go_sem,reduceIte,jA,jB,jC,jD,reduceCtorEq,jE,jF]);rw[Kg hlt] at hy;rcases KL.1 hy with hy|hy
   ·exact aAZ y hy
   rw[KO.1 hy];exact of_decide_eq_true he
  |false=>
   rw[he] at C1;refine aue E ?_;exact out (fun _=>of_decide_eq_false he) _ (by simp only[WkL,aD,jH,jI,jJ,go_sem,reduceIte,jA,jB,jC,jD,reduceCtorEq,jE,jF])
 have hc:decide ((k:Int)<(ls.length:Int))=false:=dcf;refine aue (e4 hc aDj hbx n0) ?_;exact out (fun k=>absurd k or) _ (by simp only[WkL,aD,jH,jI,jJ,go_sem,reduceIte,jA,jB,jC,jD,reduceCtorEq,jE,jF])
end Go.Proofs.YtlhedpgobaellaaGreatDoor
namespace Go.Proofs.YtlhedpgobaellaaGreatDoor
open Go.RowKit Go.Sort
def xd(h:Hp)(v:V)(l:List Tr):Prop:=∃n es c,v= .map n∧h n=some (.mp es c)∧sS es c l
def cR(h:Hp):List V→List (List Tr)→Prop
 | [],[]=>True
 |m::ms,l::ls=>xd h m l∧cR h ms ls
 |_,_=>False
theorem cR.len{h:Hp}:∀{ms:List V} {ls:List (List Tr)},cR h ms ls→ms.length=ls.length
 | [],[],_=>rfl
 |_::ms,_::ls,e=>by rw[Ke,Ke,cR.len e.2]
theorem xd.keep{h h':Hp}{nx:Nat}(hd:aV h nx)(hk:∀k,k<nx→h' k=h k){v:V}{l:List Tr}(e:xd h v l):xd h' v l:=by
 obtain⟨n,es,c,p,q,r⟩:=e;exact⟨n,es,c,p,(hk n (hd _ _ q)).trans q,r⟩
theorem cR.keep{h h':Hp}{nx:Nat}(hd:aV h nx)(hk:∀k,k<nx→h' k=h k):∀{ms:List V} {ls:List (List Tr)},cR h ms ls→cR h' ms ls
 | [],[],_=>trivial
 |_::_,_::_,e=>⟨e.1.keep hd hk,cR.keep hd hk e.2⟩
theorem cR.snoc{h:Hp}{v:V}{l:List Tr}(e1:xd h v l):∀{ms:List V} {ls:List (List Tr)},cR h ms ls→cR h (ms++[v]) (ls++[l])
 | [],[],_=>⟨e1,trivial⟩
 |_::_,_::_,e=>⟨e.1,cR.snoc e1 e.2⟩
theorem cR.get{h:Hp}:∀{ms:List V} {ls:List (List Tr)},cR h ms ls→∀(i:Nat) (h2:i<ls.length),xd h (ms.getD i Kc) ls[i]
 | [],[],_,i,h2=>absurd h2 (QN i)
 |_::_,_::_,e,0,_=>e.1
 |_::_,_::_,e,i+1,h2=>cR.get e.2 i (by simpa using h2)
def vZ(ar:Int)(zs:List TR):V:= .ept (.agg 2) [.agg [.int .i64 ar,lst .leaf (zs.map TR.v)]] 0 0
structure Sr where
 r:ByteArray
 ar:Int
 zs:List TR
def Sr.v(s:Sr):V:=vZ s.ar s.zs
def lkS(x:ByteArray):List Sr→Option Sr
 | []=>none
 |s::r=>if s.r=x then some s else lkS x r
def dJ(S:List Sr)(x:ByteArray):List (List Vl):=match lkS x S with
 |some s=>aQ s.zs
 |none=>[]
def tL(S:List Sr)(x:ByteArray):V:=match lkS x S with
 |some s=>s.v
 |none=> .nilPtr
def gA(es:List ME)(S:List Sr):Prop:=∀x:ByteArray,match lkS x S with
 |none=>bN (.plain .leaf [.str]) (.str x) es=some none
 |some s=>∃j,bN (.plain .leaf [.str]) (.str x) es=some (some j)∧(es.getD j default).v=s.v∧j<es.length
theorem ou:gA [] []:=fun x=>rfl
theorem yu(x:ByteArray)(t:Sr):∀l:List Sr,lkS x (l++[t])=(match lkS x l with
 |some w=>some w
 |none=>if t.r=x then some t else none)
 | []=>by simp[lkS]
 |a::l=>by
  simp only[Kp,lkS];split
  ·rfl
  exact yu x t l
theorem gA.add{es:List ME}{S:List Sr}(h:gA es S){t:Sr}{b:Nat}(hk:lkS t.r S=none):gA (es++[⟨.str t.r,t.v,b⟩]) (S++[t]):=fun x=>by
 rw[yu];have hx:=h x;rw[wC];cases k:lkS x S with
 |some w=>
  rw[k] at hx;obtain⟨j,h1,h2,h3⟩:=hx;rw[h1];simp only;refine⟨j,rfl,?_,by rw[KC];omega⟩;rw[Kd,Kz h3,←Kd];exact h2
 |none=>
  rw[k] at hx;rw[hx];simp only[j6];by_cases e:t.r=x
  ·rw[if_pos e];simp only;refine⟨es.length,?_,?_,Zm⟩
   ·rw[decide_eq_true e.symm]
   rw[Kd,KD (Ku _),Nat.sub_self];rfl
  rw[if_neg e];simp only;rw[decide_eq_false (fun q=>e q.symm)]
theorem gA.get{es:List ME}{S:List Sr}(h:gA es S)(x:ByteArray):∃r,bN (.plain .leaf [.str]) (.str x) es=some r∧iM false .nilPtr es r=tL S x:=by
 have hx:=h x;unfold tL;cases k:lkS x S with
 |some w=>
  rw[k] at hx;obtain⟨j,h1,h2,h3⟩:=hx;exact⟨_,h1,h2⟩
 |none=>
  rw[k] at hx;exact⟨_,hx,rfl⟩
theorem DA{sl:List V}{h:Hp}{nx p m j n off len:Nat}{k:Sh}{es cs:List V}(hp:h p=some (.arr (.agg m) [.agg cs]))(hj:j<m)(hc:cs.getD j Kc= .rs n k off len)(hn:h n=some (.arr k es))(hne:p≠n)(hb:off+len≤es.length):
 sR ⟨sl,h,nx⟩ ⟨sl,(h.del n).set p (.arr (.agg m) [.agg (cs.set j (.sl k .free ((es.drop off).take len)))]),nx+1⟩:=by
 intro K0 K nx0 a r;have hfr:¬K.live nx:=fun hh=>QA _ (r.live nx hh).1;cases r.rel.blk p _ hp with
 |arr _ _ c T hh hsz hi hfit hv=>
  have hv0:∀q,q<m→VR K (cs.getD q Kc) (c.getD q Go.undef):=fun q hq=>by
   have:=hv 0 Zm q hq;simpa [Kq,Ko] using this
  have hvj:=hv0 j hj;rw[hc] at hvj;obtain⟨K',q1,q2,q3,q4,q5⟩:=bw r.rel hn hfr hb hvj;have hp2:(h.del n) p=some (.arr (.agg m) [.agg cs]):=by unfold Hp.del;rw[if_neg hne];exact hp
  have hf0:(V.agg cs).fits (.agg m)=true:=hfit _ Zm;have hcl:cs.length=m∧cs.all V.aAE=true:=by simpa [V.fits] using hf0
  have hrel:Rel K' ((h.del n).set p (.arr (.agg m) [.agg (cs.set j (.sl k .free ((es.drop off).take len)))])):=by
   have hbl:=q5.blk p _ hp2;cases hbl with
   |arr _ _ c' T' hh' aVw hi' hfit' hv'=>
    have hmu:K'.mu p=K.mu p:=q2.mu p (r.rel.lt p _ hp);have hcc:c'=c:=by rw[q1,hmu,hh] at hh';injection hh' with e;injection e with e;exact e.symm
    subst hcc;refine⟨fun x b e=>?_,fun x b e=>?_,fun x b e=>?_,fun x y b b' e e'=>?_,q5.size⟩
    ·unfold Ka at e;split at e
     ·rename_i hx;subst hx;exact q5.lt _ _ hp2
     exact q5.lt x b e
    ·unfold Ka at e;split at e
     ·rename_i hx;subst hx;exact q5.base _ _ hp2
     exact q5.base x b e
    ·unfold Ka at e;split at e
     ·rename_i hx;subst hx;injection e with e;subst e;refine .arr (.agg m) _ c' T' hh' (by simpa using aVw) hi' (fun y hy=>?_) (fun i hi j' hj'=>?_)
      ·rw[KO.1 hy];simp only[V.fits,List.length_set,hcl.1,decide_true,QR];rw[QJ];intro z hz;rcases List.mem_or_eq_of_mem_set hz with hz|rfl
       ·exact QJ.1 hcl.2 z hz
       rfl
      have hi0:i=0:=by simpa using hi
      subst hi0;have h0:=(hv0 j' hj').mono q2;simp only[List.getD_cons_zero,Kq,Ko,KP,KQ];by_cases ej:j=j'
      ·subst ej;rw[Kd,List.getElem?_set_self or];exact q4
      rw[Kd,List.getElem?_set_ne ej,←Kd];exact h0
     exact q5.blk x b e
    have hx:∀{x b},((h.del n).set p (.arr (.agg m) [.agg (cs.set j (.sl k .free ((es.drop off).take len)))])) x=some b→∃b',(h.del n) x=some b':=fun{x b} e=>by
     unfold Ka at e;split at e
     ·rename_i hx;subst hx;exact⟨_,hp2⟩
     exact⟨_,e⟩
    obtain⟨b1,e1⟩:=hx e;obtain⟨b2,e2⟩:=hx e';exact q5.inj x y _ _ e1 e2
  refine⟨K',q1,r.le.trans q2,r.aAC.mono q2,hrel,fun x hx=>?_,QF r.nx,by rw[q1];exact r.defers⟩;rcases q3 x hx with hx|rfl
  ·have:=r.live x hx;exact⟨KS this.1,this.2⟩
  exact⟨KY _, .inr r.nx⟩
end Go.Proofs.YtlhedpgobaellaaGreatDoor
namespace Go.Proofs.YtlhedpgobaellaaGreatDoor
open Go.RowKit Go.Shelf Go.Lib Go.Sort
theorem EG:∃i,Tryz.prog.info? 57=some i∧i.size=1∧i.bytes=24∧i.zero=some (.slice none 0 0):=by
 have h1:(Tryz.prog.info? 57).map (·.size)=some 1:=Zz;have h2:(Tryz.prog.info? 57).bind (·.zero)=some (.slice none 0 0):=Zz;have h3:(Tryz.prog.info? 57).map (·.bytes)=some 24:=Zz;obtain⟨i,hi,h4⟩:=Option.map_eq_some_iff.1 h1;rw[hi] at h2 h3;exact⟨i,hi,h4,by simpa using h3,h2⟩
theorem Dg{P:Program}{K:Ker}{h:Hp}{k:Sh}(hr:Rel K h){n o m:Nat}{T:TypeId}{es ys:List V}(hn:h n=some (.arr k es))(ho:o≤es.length)(hcov:es.length≤o+ys.length)(hm:K.w.shape? (K.mu n)=some (T,m))(hroom:(o+ys.length)*k.size≤m){cs:List Value}(c:mQ K k ys cs):
 ∃K',(storeCells ⟨K.mu n,o*k.size,none⟩ cs 0).run P K.w= .ok () K'.w∧K.le K'∧K'.live=K.live∧K'.mu=K.mu∧(∀b,K'.w.shape? b=K.w.shape? b)∧Rel K' (h.set n (.arr k (es.take o++ys))):=by
 have hone:=c.one;obtain⟨hcl,hfy,hv⟩:=c;cases hr.blk n _ hn with
 |arr _ _ c T' hh hcs himm hfit hvs=>
  have hmc:m=c.size:=by simp[World.shape?,hh] at hm;exact hm.2.symm
  subst hmc;rw[QU] at hroom;have hst:=run_storeCells_at P (K.mu n) (o*k.size) T' cs 0 c K.w hh (by rw[hcl];omega) hone;simp only[QT,hcl] at hst;generalize hc':(c.toList.take (o*k.size)++cs++c.toList.drop (o*k.size+ys.length*k.size)).toArray=c' at hst;have hcsz:c'.size=c.size:=by rw[←hc'];simp only[QG,KC,KG,KV,Array.length_toList,hcl];omega
  have hle1:=K.le_row (K.mu n) c' c T' hh hcsz (hr.base n _ hn) (fun o ho=>by rw[himm] at ho;omega);have hlen:(es.take o++ys).length=o+ys.length:=by simp;omega
  refine⟨K.row (K.mu n) c',hst,hle1,rfl,rfl,fun b=>nU K.w _ c' c T' (0,0) hh hcsz b,?_⟩;refine hr.row hn c' c T' hh hcsz (fun o ho=>by rw[himm] at ho;omega) (.arr k _ c' T' ?_ (by rw[hlen,hcsz,QU];exact hroom) himm ?_ ?_)
  ·show(K.w.setRow (K.mu n) c').heap[K.mu n]?=_;exact setRow_heap K.w (K.mu n) c c' T' (0,0) hh
  ·intro x hx;rcases KL.1 hx with hx|hx
   ·exact hfit x (Qd hx)
   exact hfy x hx
  intro q hq j hj;rw[hlen] at hq;have htk:(c.toList.take (o*k.size)).length=o*k.size:=by simp;omega
  have htk2:(es.take o).length=o:=by simp;omega
  have hget:c'[q*k.size+j]?=if q<o then c[q*k.size+j]? else cs[(q-o)*k.size+j]?:=by
   rw[←hc'];simp only[Qt,KT];by_cases e1:q<o
   ·have h1:=cC hj e1;rw[if_pos e1,Kz (by rw[htk];exact h1),QD,if_pos h1,Array.getElem?_toList]
   have h2:=cC (k:=k.size) (i:=q-o) (n:=ys.length) hj or;have h3:o*k.size≤q*k.size:=Nat.mul_le_mul_right _ or;have hsub:q*k.size-o*k.size=(q-o)*k.size:=(Nat.sub_mul _ _ _).symm;have e4:q*k.size+j-o*k.size=(q-o)*k.size+j:=or;rw[if_neg e1,KD (by rw[htk];omega),htk,e4,Kz (by rw[hcl];exact h2)]
  rw[KI,hget];by_cases e1:q<o
  ·rw[if_pos e1,Kd,Kz or,QD,if_pos e1,←Kd,←KI];exact(hvs q or j hj).mono hle1
  rw[if_neg e1,Kd,KD or,htk2,←Kd,←Kd];exact(hv _ or j hj).mono hle1
set_option maxRecDepth 1000000 in
theorem Ed(b n cap i:Nat)(va:Addr)(vc:Nat)(hi:i<n)(hcap:n+1≤cap)(hn63:n≤1000000)(w w1 w2:World)
 (hov:∀lb cb,(callFunc 114 #[.slice (some va) 1 vc, .slice (some ⟨b,i+1,none⟩) lb cb]).run Tryz.prog w= .ok (.value (.bool false)) w)
 (hcp1:∀ty dc sc,(Qa #[69,69] ty #[.slice (some ⟨b,i+1,none⟩) (n+1-(i+1)) dc, .slice (some ⟨b,i,none⟩) (n+1-i) sc]).run Tryz.prog w.drew= .ok (goInt ((n-i:Nat):Int)) w1)
 (hcp2:∀ty dc,(Qa #[69,69] ty #[.slice (some ⟨b,i,none⟩) (n+1-i) dc, .slice (some va) 1 vc]).run Tryz.prog w1= .ok (goInt 1) w2):
 Calls Tryz.prog 65 #[.slice (some ⟨b,0,none⟩) n cap, .int .i64 i, .slice (some va) 1 vc] w fun e w'=>e= .returned (.slice (some ⟨b,0,none⟩) (n+1) cap)∧w'=w2:=by
 have mixed:Tryz.prog.follows .mixedOrders=true:=Zz;have hne:¬(i:Int)=(n:Int):=or;have hw1:IntKind.i64.wrap ((n:Int)+1)=(n:Int)+1:=by rw[KH];omega
 have hw2:IntKind.i64.wrap ((i:Int)+1)=(i:Int)+1:=by rw[KH];omega
 have hb1:(0:Int)≤(i:Int)+1:=or;have hb2:(0:Int)≤(n:Int)+1:=or;have hin:i≤n:=or;have ht1:((i:Int)+1).toNat=i+1:=or;have ht2:((n:Int)+1).toNat=n+1:=or;have hc1:¬(cap=i+1):=or;have hc2:¬(cap=i):=or;have hc3:(i:Int)+1≤(n:Int)+1:=or;have hc4:(i:Int)≤(n:Int)+1:=or;have hc5:(n:Int)+1≤(cap:Int):=or;have hc6:¬((cap:Int)<(n:Int)+1):=or;clear hi hcap
 go_enter Tryz.func65,Tryz.ntmps65
 go_wp2_with (simp only[hov])
 go_region_law_o (refine nR .copy rfl #[.tmp 73, .tmp 76] _ rfl _ (fun _=>rfl) (by simpa [Act.eval,Act.put] using hcp1 _ _ _) ?_)
 go_wp2_with (at_builtin;refine eC .copy rfl #[.tmp 80, .tmp 81] _ rfl _ (fun _=>rfl) (by simpa [Act.eval,Act.put] using hcp2 _ _) ?_)
 go_ret
 exact⟨rfl,rfl⟩
set_option maxRecDepth 1000000 in
theorem Ee(b n cap:Nat)(va:Addr)(vc:Nat)(hcap:n≤cap)(rv:Value)(w w1:World)
 (hap:(Qi #[69,69] 69 #[.slice (some ⟨b,0,none⟩) n cap, .slice (some va) 1 vc]).run Tryz.prog w= .ok rv w1):
 Calls Tryz.prog 65 #[.slice (some ⟨b,0,none⟩) n cap, .int .i64 n, .slice (some va) 1 vc] w fun e w'=>e= .returned rv∧w'=w1:=by
 by_cases hc2:cap=n
 ·subst hc2;clear hcap
  go_enter Tryz.func65,Tryz.ntmps65
  go_wp2_with (at_builtin;refine eC .append rfl #[.tmp 23, .tmp 24] _ rfl _ (fun _=>rfl) (by simpa [Act.eval,Act.put] using hap) ?_)
  go_ret
  exact⟨rfl,rfl⟩
 go_enter Tryz.func65,Tryz.ntmps65
 go_wp2_with (at_builtin;refine eC .append rfl #[.tmp 23, .tmp 24] _ rfl _ (fun _=>rfl) (by simpa [Act.eval,Act.put] using hap) ?_)
 go_ret
 exact⟨rfl,rfl⟩
set_option maxRecDepth 1000000 in
theorem Ec(va:Addr)(vc:Nat)(rv:Value)(w w1:World)
 (hap:(Qi #[69,69] 69 #[.slice none 0 0, .slice (some va) 1 vc]).run Tryz.prog w= .ok rv w1):
 Calls Tryz.prog 65 #[.slice none 0 0, .int .i64 0, .slice (some va) 1 vc] w fun e w'=>e= .returned rv∧w'=w1:=by
 go_enter Tryz.func65,Tryz.ntmps65
 go_wp2_with (at_builtin;refine eC .append rfl #[.tmp 23, .tmp 24] _ rfl _ (fun _=>rfl) (by simpa [Act.eval,Act.put] using hap) ?_)
 go_ret
 exact⟨rfl,rfl⟩
set_option maxRecDepth 1000000 in
theorem Cv(b n i:Nat)(va:Addr)(vc q cp:Nat)(hi:i<n)(hn63:n≤1000000)(hcp:n+1≤cp)(w w1 w2 w3:World)
 (hap:∀(ty:TypeId),(Qi #[69,3] ty #[.slice (some ⟨b,0,none⟩) i n, .int .i64 ((n:Int)+1-(i:Int))]).run Tryz.prog w= .ok (.slice (some ⟨q,0,none⟩) (n+1) cp) w1)
 (hcp1:∀ty dc,(Qa #[69,69] ty #[.slice (some ⟨q,i,none⟩) (n+1-i) dc, .slice (some va) 1 vc]).run Tryz.prog w1= .ok (goInt 1) w2)
 (hcp2:∀ty dc sc,(Qa #[69,69] ty #[.slice (some ⟨q,i+1,none⟩) (n+1-(i+1)) dc, .slice (some ⟨b,i,none⟩) (n-i) sc]).run Tryz.prog w2.drew= .ok (goInt ((n-i:Nat):Int)) w3):
 Calls Tryz.prog 65 #[.slice (some ⟨b,0,none⟩) n n, .int .i64 i, .slice (some va) 1 vc] w fun e w'=>e= .returned (.slice (some ⟨q,0,none⟩) (n+1) cp)∧w'=w3:=by
 have mixed:Tryz.prog.follows .mixedOrders=true:=Zz;have hne:¬(i:Int)=(n:Int):=or;have hw1:IntKind.i64.wrap ((n:Int)+1)=(n:Int)+1:=by rw[KH];omega
 have hw2:IntKind.i64.wrap ((i:Int)+1)=(i:Int)+1:=by rw[KH];omega
 have hw3:IntKind.i64.wrap ((n:Int)+1-(i:Int))=(n:Int)+1-(i:Int):=by rw[KH];omega
 have hb1:(0:Int)≤(i:Int)+1:=or;have hb2:(0:Int)≤(n:Int)+1:=or;have hin:i≤n:=or;have ht1:((i:Int)+1).toNat=i+1:=or;have ht2:((n:Int)+1).toNat=n+1:=or;have hc1:¬(cp=i+1):=or;have hc2:¬(cp=i):=or;have hc7:¬(n=i):=or;have hc3:(i:Int)+1≤(n:Int)+1:=or;have hc4:(i:Int)≤(n:Int)+1:=or;have hc5:(n:Int)<(n:Int)+1:=or;have hc8:i+1≤n+1:=or;have hc9:i≤n+1:=or;clear hi hcp
 go_enter Tryz.func65,Tryz.ntmps65
 go_wp2_with (at_builtin;first|refine eC .append rfl #[.tmp 34, .tmp 39] _ rfl _ (fun _=>rfl) (by simpa [Act.eval,Act.put,hw3] using hap _) ?_|refine eC .copy rfl #[.tmp 43, .tmp 44] _ rfl _ (fun _=>rfl) (by simpa [Act.eval,Act.put] using hcp1 _ _) ?_)
 go_region_law_o (refine nR .copy rfl #[.tmp 50, .tmp 53] _ rfl _ (fun _=>rfl) (by simpa [Act.eval,Act.put] using hcp2 _ _ _) ?_)
 go_wp2
 go_ret
 exact⟨rfl,rfl⟩
theorem zK(h:Hp)(n:Nat)(a b:Blk):(h.set n a).set n b=h.set n b:=by
 funext x;unfold Ka;split<;>rfl
theorem wY{K:Ker}{a b c:V}{cargs:Array Value}(hv:VRs K [a,b,c] cargs):∃x y z,cargs=#[x,y,z]∧VR K a x∧VR K b y∧VR K c z:=by
 obtain⟨hsz,hv⟩:=hv;have hsz:cargs.size=3:=by simpa using hsz.symm
 have h0:=hv 0 Zm;have h1:=hv 1 Zm;have h2:=hv 2 Zm;refine⟨_,_,_,?_,h0,h1,h2⟩;apply Array.ext
 ·simp[hsz]
 intro i hi _;have:i=0∨i=1∨i=2:=or;rcases this with rfl|rfl|rfl<;>simp[Array.getD,hsz]
def zT:V:= .sl (.agg 3) .nil []
theorem qw(m:Nat)(x:V)(h:Hp)(nx:Nat)(hm:h m=some (.arr .leaf [x])):
 aR Tryz.prog 65 [.sl .leaf .nil [], .int .i64 0, .rs m .leaf 0 1] h nx fun v h' _=>v= .rs nx .leaf 0 1∧h'=h.set nx (.arr .leaf [x]):=by
 refine⟨Zz,fun K cargs hlv hr hv=>?_⟩;obtain⟨c1,c2,c3,rfl,v1,v2,v3⟩:=wY hv;obtain⟨i0,hi0,hs0,hb0,hz0⟩:=EG;have ha:¬K.live nx:=fun e=>QA _ (hlv nx e);have hy:=nV hr v3 (k:= .leaf) (es:=[x]) (by simp[dB,hm]);obtain⟨cv,K',q1,q2,q3,q4,q5⟩:=fK (P:=Tryz.prog) (k:= .leaf) (ty:=69) (xs:=[]) hr ha Tryz.underlying69 hi0 hz0 hs0 rfl ZM v1 hy Zm (.inl ⟨rfl,rfl⟩) (by rw[hb0];simp) Zm;cases v2;cases v1 with
 |sl _ _ _ b off cap f' hb' hfit' hcell hst hv hcap hnil hfull htok=>exact absurd rfl hnil
 |slnil=>
 cases v3 with
 |rs _ _ _ _ vc hl2 hvcap hsm=>
 refine(Ec _ vc cv K.w K'.w q1).mono ?_;rintro e w' ⟨rfl,rfl⟩;exact⟨K',_,cv,_,nx+1,rfl,rfl,q2,q4,q5,fun q hq=>(q3 q hq).elim (fun e=>⟨KS (hlv q e), .inl e⟩) (fun e=>e▸⟨KY _, .inr (Ku _)⟩),Qu _,rfl,rfl⟩
theorem De(es:List V)(x:V)(i:Nat)(hi:i<es.length):mZ (es.take (i+1)++es.drop i) i [x]=es.take i++x::es.drop i:=by
 unfold mZ;have h1:(es.take (i+1)).length=i+1:=by simp;omega
 rw[Qv,List.take_append_of_le_length or,List.take_take,Nat.min_eq_left or,List.drop_left' h1,KT];rfl
theorem Dd(es:List V)(x z:V)(i:Nat)(hi:i<es.length):mZ (mZ (es.take i++Kf (es.length+1-i) z) i [x]) (i+1) (es.drop i)=es.take i++x::es.drop i:=by
 have h1:(es.take i).length=i:=by simp;omega
 have e1:mZ (es.take i++Kf (es.length+1-i) z) i [x]=es.take i++x::Kf (es.length-i) z:=by
  unfold mZ;rw[Qv,QO h1,List.drop_append,h1,KB or,Kt,List.drop_replicate,KT,show es.length+1-i-(i+1-i)=es.length-i by omega];rfl
 rw[e1];unfold mZ;have h2:(es.take i++[x]).length=i+1:=by simp;omega
 have h3:((es.take i++[x])++Kf (es.length-i) z).drop (i+1+(es.drop i).length)=[]:=KB (by simp;omega);rw[show es.take i++x::Kf (es.length-i) z=(es.take i++[x])++Kf (es.length-i) z by simp,QO h2,h3,List.append_nil,KT];rfl
set_option maxRecDepth 100000 in
theorem qv(n m i:Nat)(es:List V)(x:V)(h:Hp)(nx:Nat)(hn:h n=some (.arr .leaf es))(hm:h m=some (.arr .leaf [x]))(hnm:m≠n)(hi:i≤es.length)(hl:es.length≤1000000):
 aR Tryz.prog 65 [.rs n .leaf 0 es.length, .int .i64 i, .rs m .leaf 0 1] h nx fun v h' _=>∃id,v= .rs id .leaf 0 (es.length+1)∧(id=n∨id=nx)∧h' id=some (.arr .leaf (es.take i++x::es.drop i))∧∀k,k≠id→k≠n→h' k=h k:=by
 refine⟨Zz,fun K cargs hlv hr hv=>?_⟩;obtain⟨c1,c2,c3,rfl,v1,v2,v3⟩:=wY hv;obtain⟨i0,hi0,hs0,hb0,hz0⟩:=EG;have ha:¬K.live nx:=fun e=>QA _ (hlv nx e);have hnn:n≠nx:=fun e=>ha (e▸hr.lt n _ hn);have hmn:m≠nx:=fun e=>ha (e▸hr.lt m _ hm);have hy:=nV hr v3 (k:= .leaf) (es:=[x]) (by simp[dB,hm]);have v1':=v1;have hbn:=hr.blk n _ hn;have hbm:=hr.blk m _ hm;have hne:K.mu m≠K.mu n:=fun e=>hnm (hr.inj m n _ _ hm hn e);cases v2;cases v1 with
 |rs _ _ _ _ cap hl1 hcap hsn=>
 cases v3 with
 |rs _ _ _ _ vc hl2 hvcap hsm=>
 have hsn':=hsn;obtain⟨T,M,hsh,hmm⟩:=hsn;obtain⟨T2,M2,hsh2,hmm2⟩:=hsm;simp only[Sh.size,KQ,KZ,KP] at hmm v1';rcases KE i es.length with hlt|hge
 ·have hfr:∀o,K.w.frozen? ⟨K.mu m,o,none⟩=false:=fun o=>by
   cases hbm with
   |arr _ _ c T' hh _ _ _ _=>simp only[World.frozen?,hh];simp
  have hdl:((es.drop i).take (es.length-i))=es.drop i:=KA Zm;by_cases hroom:es.length+1≤cap
  ·obtain⟨cs,hc,hcl,hcr⟩:=lB hr.drew hn (o:=i) (m:=es.length-i) or;rw[hdl] at hc;obtain⟨K1,q1,q2,q3,q4,q5,q6⟩:=Dg (P:=Tryz.prog) (K:=K.drew) hr.drew hn (o:=i+1) (ys:=es.drop i) (T:=T) (m:=M) or (by simp;omega) hsh (by simp[Sh.size];omega) hc;have hn1:(h.set n (.arr .leaf (es.take (i+1)++es.drop i))) n=some (.arr .leaf (es.take (i+1)++es.drop i)):=by simp[Ka]
   have hm1:(h.set n (.arr .leaf (es.take (i+1)++es.drop i))) m=some (.arr .leaf [x]):=by simp only[Ka];rw[if_neg hnm];exact hm
   have hK1:K.le K1:=K.le_drew.trans q2;obtain⟨ds,hd,hdl2,hdr⟩:=lB q6 hm1 (o:=0) (m:=1) Zm;simp only[Qx,QB,QP] at hd;obtain⟨K2,p1,p2,p3,p4,p5,p6⟩:=mN (P:=Tryz.prog) q6 hn1 (o:=i) (ys:=[x]) (by simp;omega) hd;have hmuN:K1.mu n=K.mu n:=hK1.mu n hl1;have hmuM:K1.mu m=K.mu m:=hK1.mu m hl2;have hK2:=hK1.trans p2;simp only[Sh.size,KZ,KQ,KP] at hcr hdr q1 p1;rw[zK,De es x i hlt] at p6;refine(Ed (K.mu n) es.length cap i ⟨K.mu m,0*Sh.leaf.size,none⟩ vc hlt hroom hl K.w K1.w K2.w (fun lb cb=>?_) (fun ty dc sc=>?_) (fun ty dc=>?_)).mono ?_
   ·rw[run_callFunc_extern Tryz.func114 Zz Zz Zz (e:=Extern.SlicesOverlaps.overlaps #[69,69] #[4]) Zz,
     Lib.run_overlaps_apart K.w 69 4 57 Tryz.underlying69 1 Tryz.sizeOf57 _ _ 1 vc lb cb hne T2 T M2 M hsh2 hsh or (hfr _) (hfr _)]
    rfl
   ·refine nW (P:=Tryz.prog) K.w.drew _ _ ty _ i0 (K.mu n) (i+1) _ dc ⟨K.mu n,i,none⟩ _ sc (es.length-i) cs Tryz.underlying69 hi0 ?_ (by rw[hcl,hs0];rfl) (fun j u hj=>by rw[Addr.add_lit];exact hcr j u hj) q1;simp only[Qw];split<;>omega
   ·refine nW (P:=Tryz.prog) K1.w _ _ ty _ i0 (K.mu n) i _ dc _ _ vc 1 ds Tryz.underlying69 hi0 (by simp only[Qw];split<;>omega) (by rw[hdl2,hs0];rfl) (fun j u hj=>by rw[Addr.add_lit];rw[hmuM] at hdr;simpa [Sh.size] using hdr j u hj) (by rw[←hmuN];exact p1)
   rintro e w' ⟨rfl,rfl⟩;have vr:VR K (.rs n .leaf 0 (es.length+1)) (.slice (some ⟨K.mu n,0,none⟩) (es.length+1) cap):=by
    have:=VR.rs (K:=K) n .leaf 0 (es.length+1) cap hl1 hroom ⟨T,M,hsh,by simp[Sh.size];omega⟩;rwa [KP] at this
   refine⟨K2,_,_,_,nx,rfl,rfl,hK2,vr.mono hK2,p6,fun q hq=>?_,Ku _,n,rfl, .inl rfl,by simp[Ka],fun k h1 _=>by simp only[Ka];rw[if_neg h1]⟩;rw[p3,q3] at hq;exact⟨hlv q hq, .inl hq⟩
  have hce:cap=es.length:=or;subst hce;obtain⟨os,ho,hol,hor⟩:=lB hr.drew hn (o:=0) (m:=i) or;simp only[Sh.size,KZ,KQ,KP,Qx] at ho hol hor;have hlen:i+(es.length+1-i)=es.length+1:=or;have hold:(Builtin.firstCells i0.size i (.slice (some ⟨K.mu n,0,none⟩) i es.length)).run Tryz.prog K.w.drew= .ok os.toArray K.w.drew:=run_firstCells_some _ _ _ _ _ _ os (by rw[hol,hs0,KZ]) (fun j v hj=>by rw[Addr.add_lit,KQ];exact hor j v hj);have hap:∀ty,_:=fun ty=>Lib.run_append_grow_zeros (P:=Tryz.prog) K.w 69 3 ty _ i0 _ .i64 .i64 Tryz.underlying69 Tryz.underlying3 hi0 hz0 (some ⟨K.mu n,0,none⟩) i es.length os hold (es.length+1-i) or or or or (by rw[hb0];omega) (by rw[hb0,hlen];exact growslice_fits or or);rw[hlen,show((es.length+1-i:Nat):Int)=(es.length:Int)+1-(i:Int) by omega] at hap;obtain⟨G,hG⟩:∃G,grownCap K.w (es.length+1) es.length 57=G:=⟨_,rfl⟩;have hGe:es.length+1≤G:=hG▸grownCap_ge _ _ _ _;rw[hG] at hap;obtain⟨C,hC⟩:∃C,os.toArray++KJ (Value.slice none 0 0).cells (es.length+1-i)++KJ (Value.slice none 0 0).cells (G-(es.length+1))=C:=⟨_,rfl⟩;have hCs:C.size=G:=by rw[←hC];simp only[Array.size_append,QG,size_zeroCells,hol];simp[Value.cells];omega
  have hCv:∀q,q<(es.take i++Kf (es.length+1-i) zT).length→∀j,j<Sh.leaf.size→VR K.drew (((es.take i++Kf (es.length+1-i) zT).getD q Kc).cell j) (C.getD (q*Sh.leaf.size+j) Go.undef):=by
   intro q hq j hj;have hj0:j=0:=by simp[Sh.size] at hj;exact hj
   subst hj0;simp only[Sh.size,KZ,QT];have htk:(es.take i).length=i:=by simp;omega
   rw[KI,←hC,Array.append_assoc];by_cases h1:q<i
   ·have h2:=ho.2.2 q or 0 ZM;rw[Kd,Kz or,←Kd,Qj (by simp[hol];exact h1),Qt,←Kd];simpa [Sh.size] using h2
   have hq':q<es.length+1:=by simp at hq;omega
   rw[Kd,KD or,List.getElem?_replicate,if_pos or,Array.getElem?_append_right (by simp[hol];omega),Qj (by rw[size_zeroCells];simp[Value.cells,hol];omega)];have:(KJ (Value.slice none 0 0).cells (es.length+1-i))[q-os.toArray.size]?=some (Value.slice none 0 0):=by
    unfold KJ;rw[Array.getElem?_map,Array.getElem?_range,if_pos (by simp[Value.cells,hol];omega)];simp[Value.cells,Nat.mod_one]
   rw[this];exact .slnil _
  obtain⟨K1,q1,q2,q3,q4,q5⟩:=dX (K:=K.drew) (h:=h) hr.drew (a:=nx) ha (k:= .leaf) (es:=es.take i++Kf (es.length+1-i) zT) (fun e he=>by
   rcases KL.1 he with he|he
   ·cases hbn with
    |arr _ _ c T' hh _ _ hfit _=>exact hfit e (Qd he)
   rw[List.eq_of_mem_replicate he];rfl) C 57 G (by simp;omega) (by rw[hCs];simp[Sh.size]) hCv
  have hlenE:(es.take i++Kf (es.length+1-i) zT).length=es.length+1:=by simp;omega
  have hN:(h.set nx (.arr .leaf (es.take i++Kf (es.length+1-i) zT))) nx=some (.arr .leaf (es.take i++Kf (es.length+1-i) zT)):=by simp[Ka]
  have hM:(h.set nx (.arr .leaf (es.take i++Kf (es.length+1-i) zT))) m=some (.arr .leaf [x]):=by simp only[Ka];rw[if_neg hmn];exact hm
  have hK1:K.le K1:=K.le_drew.trans q2;obtain⟨ds,hd,hdl2,hdr⟩:=lB q5 hM (o:=0) (m:=1) Zm;simp only[Qx,QB,QP] at hd;obtain⟨K2,p1,p2,p3,p4,p5,p6⟩:=mN (P:=Tryz.prog) q5 hN (o:=i) (ys:=[x]) (by rw[hlenE];simp;omega) hd;rw[zK] at p6;have hbl:=dr (es:=es.take i++Kf (es.length+1-i) zT) (o:=i) (ys:=[x]) (by rw[hlenE];simp;omega);have hN2:(h.set nx (.arr .leaf (mZ (es.take i++Kf (es.length+1-i) zT) i [x]))) nx=some (.arr .leaf (mZ (es.take i++Kf (es.length+1-i) zT) i [x])):=by simp[Ka]
  have hn2:(h.set nx (.arr .leaf (mZ (es.take i++Kf (es.length+1-i) zT) i [x]))) n=some (.arr .leaf es):=by simp only[Ka];rw[if_neg hnn];exact hn
  obtain⟨cs,hc,hcl,hcr⟩:=lB p6.drew hn2 (o:=i) (m:=es.length-i) or;rw[hdl] at hc;obtain⟨K3,r1,r2,r3,r4,r5,r6⟩:=mN (P:=Tryz.prog) (K:=K2.drew) p6.drew hN2 (o:=i+1) (ys:=es.drop i) (by rw[hbl,hlenE];simp;omega) hc;rw[zK,Dd es x zT i hlt] at r6;have hK2:=hK1.trans p2;have hK3:=hK2.trans (K2.le_drew.trans r2);have hmuN:K2.mu n=K.mu n:=hK2.mu n hl1;have hmuM:K1.mu m=K.mu m:=hK1.mu m hl2;have hmuA:K1.mu nx=K.w.heap.size:=by
   have q4':=q4;generalize hcv:Value.slice _ _ _=cv at q4';cases q4' with
   |rs=>injection hcv with e _ _;injection e with e;injection e with e;exact e.symm
  have hmuA2:K2.mu nx=K.w.heap.size:=by rw[p4];exact hmuA
  simp only[Sh.size,KZ,KQ,KP] at hcr hdr r1 p1;refine(Cv (K.mu n) es.length i ⟨K.mu m,0*Sh.leaf.size,none⟩ vc K.w.heap.size G hlt hl hGe K.w K1.w K2.w K3.w (fun ty=>?_) (fun ty dc=>?_) (fun ty dc sc=>?_)).mono ?_
  ·rw[q1,hap ty,←hC];rfl
  ·refine nW (P:=Tryz.prog) K1.w _ _ ty _ i0 K.w.heap.size i _ dc _ _ vc 1 ds Tryz.underlying69 hi0 (by simp only[Qw];split<;>omega) (by rw[hdl2,hs0];rfl) (fun j u hj=>by rw[Addr.add_lit];rw[hmuM] at hdr;simpa [Sh.size] using hdr j u hj) (by rw[←hmuA];exact p1)
  ·refine nW (P:=Tryz.prog) K2.w.drew _ _ ty _ i0 K.w.heap.size (i+1) _ dc ⟨K.mu n,i,none⟩ _ sc (es.length-i) cs Tryz.underlying69 hi0 ?_ (by rw[hcl,hs0];rfl) (fun j u hj=>by rw[Addr.add_lit,←hmuN];exact hcr j u hj) (by rw[←hmuA2];exact r1);simp only[Qw];split<;>omega
  rintro e w' ⟨rfl,rfl⟩;have vr:VR K3 (.rs nx .leaf 0 (es.length+1)) (.slice (some ⟨K.w.heap.size,0,none⟩) (es.length+1) G):=by
   have:=q4;rw[hlenE] at this;exact(this.mono p2).mono (K2.le_drew.trans r2)
  refine⟨K3,_,_,_,nx+1,rfl,rfl,hK3,vr,r6,fun q hq=>?_,Qu _,nx,rfl, .inr rfl,by simp[Ka],fun k h1 _=>by simp only[Ka];rw[if_neg h1]⟩;rw[r3] at hq;have hq:K2.live q:=hq;rw[p3] at hq;rcases q3 q hq with e|rfl
  ·exact⟨KS (hlv q e), .inl e⟩
  exact⟨KY _, .inr (Ku _)⟩
 have hie:i=es.length:=or;subst hie;obtain⟨cv,K',q1,q2,q3,q4,q5⟩:=fK (P:=Tryz.prog) (k:= .leaf) (ty:=69) (xs:=es) hr ha Tryz.underlying69 hi0 hz0 hs0 rfl ZM v1' hy Zm (.inr ⟨n,rfl,hn⟩) (by rw[hb0];simp;omega) (by simp;omega);refine(Ee (K.mu n) es.length cap ⟨K.mu m,0*Sh.leaf.size,none⟩ vc hcap cv K.w K'.w q1).mono ?_;rintro e w' ⟨rfl,rfl⟩;refine⟨K',_,cv,_,nx+1,rfl,rfl,q2,q4,q5,fun q hq=>(q3 q hq).elim (fun e=>⟨KS (hlv q e), .inl e⟩) (fun e=>e▸⟨KY _, .inr (Ku _)⟩),Qu _,nx,rfl, .inr rfl,?_,fun k h1 h2=>?_⟩
 ·simp[Ka]
 simp only[Ka,Hp.del];rw[if_neg h1,if_neg h2]
end Go.Proofs.YtlhedpgobaellaaGreatDoor
namespace Go.Proofs.YtlhedpgobaellaaGreatDoor
open Go.RowKit Go.Sort
attribute [local irreducible] KF
def RdL(h:Hp)(v:V)(zs:List TR):Prop:=(∃o,v= .sl .leaf o (zs.map TR.v))∨∃n,v= .rs n .leaf 0 zs.length∧h n=some (.arr .leaf (zs.map TR.v))
theorem mv(zs:List TR)(hz:zs.length≤1000000)(aCE:∀z∈zs,z.2.length≤1000000000)(hs:Str cP (aQ zs))(p:TR)(h:Hp)(v:V)(hv:RdL h v zs):
 aL Tryz.prog 95 [v,p.v, .fn (.func 53) [] []] h (.tup [.int .i64 (loT p.2 zs), .bool (rB (aQ zs) p.2)]):=by
 have hml:(zs.map TR.v).length=zs.length:=jK ..;have aCH:=Fd (t:=p.2) hs;refine aI (fun L=>⟨trivial,trivial,trivial⟩) fun h' nx hh=>aB L.aXo fun hd=>?_;have hd:aV h' nx:=hd;have aV0:=Qo.1 hs;have mono:∀j k (hj:j<zs.length) (hk:k<zs.length),j≤k→cP zs[k].2 p.2<0→cP zs[j].2 p.2<0:=fun j k hj hk hle hc=>by
  rcases QC hle with hlt|rfl
  ·have:=aV0 j k (by simpa [aQ] using hj) (by simpa [aQ] using hk) hlt;simp only[aQ,QH] at this;exact c3T.trans _ _ _ this hc
  exact hc
 obtain⟨T,hT⟩:∃T,T=p.v:=⟨_,rfl⟩;rw[←hT];refine ZK ?_;obtain⟨W,hW⟩:∃W,W=v:=⟨_,rfl⟩;rcases hv with⟨o,rfl⟩|⟨n,rfl,hn⟩
 all_goals first|(have hn1:=hh _ _ hn rfl;have hn2:∀{m:Nat},nx≤m→n<m:=fun h=>Nat.lt_of_lt_of_le (hd _ _ hn1) h)|(have hn1:True:=trivial;have hn2:∀{m:Nat},nx≤m→True:=fun _=>trivial)
 all_goals
  refine aue hml ?_
  refine aP (fun q:Nat×Nat=>aD 49 0 [(0,W),(1,T),(2, .fn (.func 53) [] []),(6, .int .i64 0),(7, .bool false),(8, .int .i64 zs.length),(9, .int .i64 q.1),(10, .int .i64 q.2)])
   (fun q hp nx1=>q.1≤q.2∧q.2≤zs.length∧hp=h'∧nx≤nx1∧(∀k (hk:k<zs.length),k<q.1→cP zs[k].2 p.2<0)∧∀k (hk:k<zs.length),q.2≤k→¬cP zs[k].2 p.2<0)
   (fun q=>q.2-q.1) (0,zs.length) ⟨KM _,Ku _,rfl,Ku _,fun k _ h=>absurd h (QN k),fun k hk h=>absurd hk (Nat.not_lt.2 h)⟩ (by simp only[WkL,aD,jH,jI,jJ,hml,hW,go_sem,reduceIte,jA,jB,jC,jD,reduceCtorEq,jE,jF]) ?_
  rintro⟨i,j⟩ hp nx1 ⟨hij,hj,rfl,hnx,h1,h2⟩;generalize hQ:bB _ _ _ _ _=Q0;dsimp only at hij hj h1 h2;simp only[aD,hW,go_sem,reduceIte,jA,jB,jC,jD,reduceCtorEq,jE,jF];have hn3:=hn2 hnx;rcases KE i j with hlt|hge
  ·have hc:decide ((i:Int)<(j:Int))=true:=dct;have w1:IntKind.i64.wrap ((i:Int)+(j:Int))=((i+j:Nat):Int):=wrp;have w2:IntKind.u64.wrap ((i+j:Nat):Int)=((i+j:Nat):Int):=by rw[IntKind.wrap_u64];omega
   have w3:((i+j:Nat):Int)/ 2 ^ min 1 64=(((i+j)/ 2:Nat):Int):=by show((i+j:Nat):Int)/ (2 ^ 1:Int)=_;omega
   have w4:IntKind.i64.wrap (((i+j)/ 2:Nat):Int)=(((i+j)/ 2:Nat):Int):=wrp;obtain⟨m,hm⟩:∃m,(i+j)/ 2=m:=⟨_,rfl⟩;rw[hm] at w3 w4;have hm1:i≤m∧m<j:=or;have hmz:m<zs.length:=or;have hg:=aO TR.v zs m hmz;have w5:IntKind.i64.wrap ((m:Int)+1)=((m+1:Nat):Int):=wrp;refine aue (e13 hc w1 w2 w3 w4 w5 hml hmz hg jG TR.aAD hn1 hn3) ?_;have C:=fun H=>qF zs[m].1 zs[m].2 p.2 (aCE _ (Kw hmz)) p.v H (.inl ⟨_,rfl⟩);rw[←hT] at C;refine cM rfl (C _) rfl (aH _) ?_;by_cases hcm:cP zs[m].2 p.2<0
   ·have g:decide (cP zs[m].2 p.2<0)=true:=dct;refine aue (e2 g w5) ?_;rw[←hQ];exact aG (m+1,j) Zw ⟨Zw,hj,rfl,hnx,fun k hk hkm=>mono k m hk hmz (by dsimp only at hkm;omega) hcm,h2⟩ (by simp only[WkL,aD,jH,jI,jJ,hW,go_sem,reduceIte,jA,jB,jC,jD,reduceCtorEq,jE,jF])
   have g:decide (cP zs[m].2 p.2<0)=false:=dcf;refine aue g ?_;rw[←hQ];exact aG (i,m) Zw ⟨Zw,Zw,rfl,hnx,h1,fun k hk hkm hc=>hcm (mono m k hmz hk hkm hc)⟩ (by simp only[WkL,aD,jH,jI,jJ,hW,go_sem,reduceIte,jA,jB,jC,jD,reduceCtorEq,jE,jF])
  have hc:decide ((i:Int)<(j:Int))=false:=dcf;have aWG:i=j:=or;subst aWG;have hl:=EK hj h1 h2;rw[hl] at aCH;refine aue hc ?_;rw[←hQ];by_cases hin:i<zs.length
  ·have g:decide ((i:Int)<(zs.length:Int))=true:=dct;have hg:=aO TR.v zs i hin;have hD:zs.getD i (.nil,[])=zs[i]:=by rw[Kd,KN hin];rfl
   rw[decide_eq_true hin,hD,QR] at aCH;refine aue (e8 g hml hin hg jG TR.aAD hn1 hn3) ?_;have C:=fun H=>qF zs[i].1 zs[i].2 p.2 (aCE _ (Kw hin)) p.v H (.inl ⟨_,rfl⟩);rw[←hT] at C;refine cM rfl (C _) rfl (aH _) ?_;refine aue g ?_;refine aN hp (Kb _) ⟨?_,rfl⟩;rw[hl,←aCH,←show(cP zs[i].2 p.2==0)=decide (cP zs[i].2 p.2=0) from by rw[Qr];simp];rfl
  have g:decide ((i:Int)<(zs.length:Int))=false:=dcf;rw[decide_eq_false hin,Bool.false_and] at aCH;refine aue g ?_;refine aN hp (Kb _) ⟨?_,rfl⟩;rw[hl,←aCH];rfl
end Go.Proofs.YtlhedpgobaellaaGreatDoor
namespace Go.Proofs.YtlhedpgobaellaaGreatDoor
open Go.RowKit Go.Sort
attribute [local irreducible] KF
theorem DV:aE Tryz.prog 175=some (LB.aAU (.agg 3)):=Zz
theorem DZ:aE Tryz.prog 113=some (LB.ContainsFunc (.agg 3) 175):=Zz
theorem j8(x:Vl)(h:Hp):aL Tryz.prog 112 [x.v] h (.bool (!bO x)):=by
 refine aI (fun L=>trivial) fun h' nx hh=>aB L.aXl fun hd=>?_;have C1:=fun h=>gS x h;have hf:=Vl.aAD x;generalize x.v=X at*;simp only[Ke,Ks,Kj,Kk,Kh,Ki,Kp,Kt,Kc];refine aue hf ?_;exact aC h' (leo hd) ⟨rfl,rfl⟩
theorem ew(o:Own)(l:List Vl)(hl:l.length≤1000000000)(h:Hp):aL Tryz.prog 64 [vls o l] h (.bool (decide (l.length≤6)&&l.all bO)):=by
 refine aI (fun L=>trivial) fun h' nx hh=>aB L.aX9 fun hd=>?_;have C1:=fun h=>fX Vl.v (fun _=>Vl.aAD _) DZ DV (fun x=> !bO x) o l 112 [] h (fun x _=>j8 x h) hl;have ha:(!l.any fun x=> !bO x)=l.all bO:=by rw[List.not_any_eq_all_not];simp
 simp only[Ke,Ks,Kj,Kk,Kh,Ki,Kp,Kt,Kc];by_cases h6:l.length≤6
 ·have g:decide ((l.length:Int)≤6)=true:=dct;rw[decide_eq_true h6];refine aue (e3 g (@Kv Vl V) ha) ?_;exact aC h' (leo hd) ⟨rfl,rfl⟩
 have g:decide ((l.length:Int)≤6)=false:=dcf;rw[decide_eq_false h6];refine aue (e2 g (@Kv Vl V)) ?_;exact aC h' (leo hd) ⟨rfl,rfl⟩
theorem RdL.has{h h':Hp}(hh:Hp.has h h'){v:V}{zs:List TR}(r:RdL h v zs):RdL h' v zs:=r.imp id fun⟨n,a,b⟩=>⟨n,a,hh _ _ b rfl⟩
theorem jn(ar:Int)(M:V)(zs:List TR)(hz:zs.length≤1000000)(aCE:∀z∈zs,z.2.length≤1000000000)(hs:Str cP (aQ zs))(p:TR)(h:Hp)(hL:RdL h M zs)(v:V)(hv:v= .ept (.agg 2) [.agg [.int .i64 ar,M]] 0 0∨∃q,v= .ptr q (.agg 2) 0 0∧h q=some (.arr (.agg 2) [.agg [.int .i64 ar,M]])):
 aL Tryz.prog 49 [v,p.v] h (.tup [.int .i64 (loT p.2 zs), .bool (rB (aQ zs) p.2)]):=by
 refine aI (fun L=>⟨trivial,trivial,trivial⟩) fun h' nx hh=>aB L.aYC fun hd=>?_;have C:=mv zs hz aCE hs p h' M (hL.has hh);generalize p.v=T at*;simp only[Ke,Ks,Kj,Kk,Kh,Ki,Kp,Kt,Kc];rcases hv with rfl|⟨q,rfl,hq⟩
 ·refine au ?_;refine aJ C rfl (aH _) ?_;refine au ?_;exact aN h' (Kb _) ⟨rfl,rfl⟩
 have hq1:=hh _ _ hq rfl;have hq2:=hd _ _ hq1;refine aue (e2 hq1 hq2) ?_;refine aJ C rfl (aH _) ?_;refine au ?_;exact aN h' (Kb _) ⟨rfl,rfl⟩
theorem E9(h:Hp)(zs:List TR):RdL h (lst .leaf (zs.map TR.v)) zs:=by
 obtain⟨o,ho⟩:=fH .leaf (zs.map TR.v);exact .inl ⟨o,ho⟩
theorem rb(S:List Sr)(x:ByteArray)(hS:∀s∈S,fB s.ar s.zs)(p:TR)(h:Hp):aL Tryz.prog 13 [tL S x,p.v] h (.bool (rB (dJ S x) p.2)):=by
 refine aI (fun L=>trivial) fun h' nx hh=>aB L.g7z fun hd=>?_;have key:∀{l:List Sr} {s:Sr},lkS x l=some s→s∈l:=by
  intro l s h;induction l with
  |nil=>cases h
  |cons a l ih=>
   unfold lkS at h;split at h
   ·injection h with h;rw[←h];exact Qh
   exact Qc _ (ih h)
 unfold tL dJ;cases k:lkS x S with
 |none=>
  generalize p.v=T at*;simp only[Ke,Ks,Kj,Kk,Kh,Ki,Kp,Kt,Kc];refine au ?_;exact aC h' (Kb _) ⟨rfl,rfl⟩
 |some s=>
  have r:=hS s (key k);have C:=jn s.ar _ s.zs (by have:=r.len;omega) (fun z hz=>by have:=(r.row z hz).1;unfold oW at this;simp only[KW,decide_eq_true_eq] at this;omega) r.str p h' (E9 h' s.zs) s.v (.inl rfl);generalize p.v=T at*;obtain⟨E,hE⟩:∃E,s.v= .ept (.agg 2) E 0 0:=⟨_,rfl⟩;simp only[hE] at C⊢;simp only[Ke,Ks,Kj,Kk,Kh,Ki,Kp,Kt,Kc];refine au ?_;refine aJ C rfl (aH _) ?_;refine au ?_;exact aC h' (Kb _) ⟨rfl,rfl⟩
theorem DP(ar:Int)(hb:ar<0∨6<ar)(h:Hp)(nx:Nat):aR Tryz.prog 86 [.int .i64 ar] h nx fun v h' _=>v= .tup [.nilPtr,fM 6]∧h'=h:=by
 refine aB L.aVL fun hd=>?_;simp only[Ke,Ks,Kj,Kk,Kh,Ki,Kp,Kt,Kc];by_cases h1:ar<0
 ·have g1:decide (ar<0)=true:=dct;refine aue g1 ?_;exact aN h (Kb _) ⟨rfl,rfl⟩
 have g1:decide (ar<0)=false:=dcf;have g2:decide (6<ar)=true:=dct;refine aue (e2 g1 g2) ?_;exact aN h (Kb _) ⟨rfl,rfl⟩
theorem E2(ar:Int)(hb:¬(ar<0∨6<ar))(h:Hp)(nx:Nat):aR Tryz.prog 86 [.int .i64 ar] h nx fun v h' _=>v= .tup [.ptr nx (.agg 2) 0 0, .nilIface]∧h'=h.set nx (.arr (.agg 2) [.agg [.int .i64 ar, .sl .leaf .nil []]]):=by
 refine aB L.aVL fun hd=>?_;simp only[Ke,Ks,Kj,Kk,Kh,Ki,Kp,Kt,Kc];have g1:decide (ar<0)=false:=dcf;have g2:decide (6<ar)=false:=dcf;refine aue (e2 g1 g2) ?_;exact aN _ (Kb _) ⟨rfl,rfl⟩
def nK:V→Option Nat
 | .rs n _ _ _=>some n
 |_=>none
def Bl(h:Hp)(M:V)(zs:List TR)(q:Nat):Prop:=(zs=[]∧M= .sl .leaf .nil [])∨zs≠ []∧∃n,M= .rs n .leaf 0 zs.length∧h n=some (.arr .leaf (zs.map TR.v))∧n≠q
theorem Bl.rd{h:Hp}{M:V}{zs:List TR}{q:Nat}(o:Bl h M zs q):RdL h M zs:=by
 rcases o with⟨rfl,rfl⟩|⟨_,n,a,b,_⟩
 ·exact .inl ⟨.nil,rfl⟩
 exact .inr ⟨n,a,b⟩
theorem RG.swap{F F':List (Nat×Nat×V)}{fix:List (Nat×V)}{n:Nat}{D:Nat→Bool}{sl:List V}(r:RG F fix n D sl)(h:∀f∈F',D f.1=true→f∈F):RG F' fix n D sl:=⟨r.len,r.fx,fun f hf hd=>r.dn f (h f hf hd) hd⟩
theorem u7:aE Tryz.prog 116=some (LB.aEK (.agg 3) 32):=Zz
theorem zC(p:TR)(hl:p.2.length≤1000000)(hp:p.1= .nil→p.2=[])(h:Hp):aL Tryz.prog 66 [p.v] h (cpO p).v:=by
 obtain⟨o,t⟩:=p;have hc:(V.sl (.agg 3) o (t.map Vl.v)).loose=(cpO (o,t)).v:=by unfold cpO;cases o<;>rfl
 refine aI (fun L=>?_) fun h' nx hh=>aB L.aX8 fun hd=>?_
 ·rw[←hc];cases o<;>exact⟨fun n e=>(by cases e),cK (Vl.aAN L) _⟩
 have C1:=fun h=>dg u7 or o (t.map Vl.v) (by simp;simp at hl;omega) (fun e=>by rw[show t=[] from hp e];rfl) (fun L=>cK (Vl.aAN L) _) h;rw[hc] at C1;generalize (cpO (o,t)).v=R at*;show lwp _ _ _ ⟨[V.sl (.agg 3) o (t.map Vl.v)]++_,_,_⟩;generalize V.sl (.agg 3) o (t.map Vl.v)=X at*;simp only[Ke,Ks,Kj,Kk,Kh,Ki,Kp,Kt,Kc];refine au ?_;exact aC h' (Kb _) ⟨rfl,rfl⟩
def adF(q m:Nat)(M T X W:V)(i:Int):List (Nat×Nat×V):=[(0,42, .ptr q (.agg 2) 0 0),(1,43, .ptr q (.agg 2) 0 0),(2,44, .ptr q (.agg 2) 0 0),(3,45, .ptr q (.agg 2) 0 1),(4,46,M),(5,47, .int .i64 i),(6,48,T),(7,49,X),(8,50, .rs m .leaf 0 1),(9,51,W),(10,52, .ptr q (.agg 2) 0 0),(11,53, .ptr q (.agg 2) 0 1)]
def adX(q:Nat)(T:V)(i:Int):List (Nat×V):=[(0, .ptr q (.agg 2) 0 0),(1,T),(6, .int .i64 i)]
structure AdR(A:Hp)(nx q:Nat)(M T X:V)(i:Int)(Y:List V)(W:V)(D:Nat→Bool)(s:St):Prop where
 sl:RG (adF q nx M T X W i) (adX q T i) 54 D s.sl
 h8:D 8=false→s.h=A∧s.nx=nx
 h9:D 8=true→D 9=false→s.h=A.set nx (.arr .leaf [X])∧s.nx=nx+1
 hw:D 9=true→D 8=true∧∃id,W= .rs id .leaf 0 Y.length∧(nK M=some id∨nx<id)∧s.h id=some (.arr .leaf Y)∧id≠q∧∀k,k<nx→nK M≠some k→s.h k=A k
theorem xp:∀(n k:Nat) (sl:List V),sl.length=n→WkL sl (aD n k [])
 |0,k,sl,hl=>by
  have:sl=[]:=List.length_eq_zero_iff.1 hl;subst this;trivial
 |n+1,k,[],hl=>by simp at hl
 |n+1,k,a::sl,hl=>⟨.inr rfl,xp n (k+1) sl (by simpa using hl)⟩
theorem d7{A:Hp}{nx q:Nat}{ar i:Int}{M T X:V}{Y:List V}(hX:X.aAE=true)(hq:A q=some (.arr (.agg 2) [.agg [.int .i64 ar,M]]))(hqn:q<nx)(hMl:M.aAE=true)(hMq:nK M≠some q)(CP:∀h,aL Tryz.prog 66 [T] h X)
 (hI:aR Tryz.prog 65 [M, .int .i64 i, .rs nx .leaf 0 1] (A.set nx (.arr .leaf [X])) (nx+1) fun v h' nx'=>∃id,v= .rs id .leaf 0 Y.length∧(nK M=some id∨nx<id)∧id≠q∧h' id=some (.arr .leaf Y)∧∀k,k<nx→nK M≠some k→h' k=A k)
 {Q:bJ→St→Prop} {sl:List V} (hl:sl.length=54) (hx:∀p∈adX q T i,sl.getD p.1 Kc=p.2)
 (fin:∀sl' h' nx' id,sl'.length=54→nx≤nx'→h' q=some (.arr (.agg 2) [.agg [.int .i64 ar, .rs id .leaf 0 Y.length]])→(nK M=some id∨nx<id)→id≠q→h' id=some (.arr .leaf Y)→(∀k,k<nx→k≠q→nK M≠some k→h' k=A k)→Q .normal ⟨sl',h',nx'⟩):
 lwp Tryz.prog (.draw 12 L.aCL L.aBj) Q ⟨sl,A,nx⟩:=by
 have hfX:X.fits .leaf=true:=by rw[gW];exact hX
 have l1:bE .leaf 1 (V.agg [.int .i64 ar,M])=M:=rfl;refine qM ?_;refine⟨fun D s=>nx≤s.nx∧∃W,AdR A nx q M T X i Y W D s,⟨Ku _, .nilPtr,⟨hl,hx,fun f _ e=>(by cases e)⟩,fun _=>⟨rfl,rfl⟩,fun e=>(by cases e),fun e=>(by cases e)⟩,?_,?_⟩
 ·rintro D j oo aAF ⟨sl,hp,n2⟩ hi hDi aAv hcl ⟨hn2,W,r⟩;have x0:=r.sl.fx (0, .ptr q (.agg 2) 0 0) (by simp[adX]);have x1:=r.sl.fx (1,T) (by simp[adX]);have x6:=r.sl.fx (6, .int .i64 i) (by simp[adX]);have y:∀f∈adF q nx M T X W i,f.1∈aAF→sl.getD f.2.1 Kc=f.2.2:=fun f hf hd=>r.sl.dn f hf (aAv _ hd);have n9:D 9=true→D 8=true:=fun e=>hcl 9 _ _ rfl e 8 ZM;have go:∀(j t:Nat) (v:V),t<54→(∀f∈adF q nx M T X W i,(f.1=j∨f.2.1=t)→f=(j,t,v))→(∀p∈adX q T i,p.1≠t)→j≠8→j≠9→nx≤n2∧∃W,AdR A nx q M T X i Y W (fun k=>if k=j then true else D k) ⟨sl.set t v,hp,n2⟩:=fun j t v ht hF hx h8 h9=>
   ⟨hn2,W,r.sl.slot j t v ht hF hx,fun e=>r.h8 (by rwa [if_neg h8.symm] at e),fun e f=>r.h9 (by rwa [if_neg h8.symm] at e) (by rwa [if_neg h9.symm] at f),fun e=>by
     rw[if_neg h9.symm] at e;rw[if_neg h8.symm];exact r.hw e⟩
  dsimp only at x0 x1 x6;have h8:=r.h8;have h9:=r.h9;have hw:=r.hw;dsimp only at h8 h9 hw;rcases j with _|_|_|_|_|_|_|_|_|_|_|_|j;all_goals first|(injection hi with hi;injection hi with q1 q2;subst q1;subst q2)|skip
  all_goals simp only[adF,Qk,QK,or_false,forall_eq_or_imp,forall_eq,KK,reduceCtorEq,false_implies,implies_true,true_or,or_true,true_implies,and_true,true_and] at y
  all_goals simp only[aZ,LOp.run,LOp.sem,aW.sem,aK.ev,bI,Ql,List.map_nil,x0,x1,x6,y,V.pick,KR]
  ·exact go 0 42 _ ZM (by simp[adF]) (by simp[adX]) ZM ZM
  ·exact go 1 43 _ ZM (by simp[adF]) (by simp[adX]) ZM ZM
  ·exact go 2 44 _ ZM (by simp[adF]) (by simp[adX]) ZM ZM
  ·exact go 3 45 _ ZM (by simp[adF]) (by simp[adX]) ZM ZM
  ·have hq2:hp q=some (.arr (.agg 2) [.agg [.int .i64 ar,M]]):=by
    cases e9:D 9 with
    |true=>have:=hcl 9 _ _ rfl e9 4 ZM;rw[hDi] at this;cases this
    |false=>
     cases e8:D 8 with
     |true=>rw[(h9 e8 e9).1];simp only[Ka];rw[if_neg or];exact hq
     |false=>rw[(h8 e8).1];exact hq
   rw[hq2];exact⟨rfl,Zm,by simp[cB],go 4 46 _ ZM (by simp[adF,bE,Kq,Ko]) (by simp[adX]) ZM ZM⟩
  ·exact go 5 47 _ ZM (by simp[adF]) (by simp[adX]) ZM ZM
  ·exact go 6 48 _ ZM (by simp[adF]) (by simp[adX]) ZM ZM
  ·refine(CP hp hp n2 (aH _)).mono ?_;rintro v h' nx' _ ⟨rfl,rfl,rfl⟩;exact go 7 49 _ ZM (by simp[adF]) (by simp[adX]) ZM ZM
  ·obtain⟨rfl,rfl⟩:=h8 hDi;have f9:D 9=true→False:=fun e=>by have:=n9 e;rw[hDi] at this;cases this
   refine⟨fun e he=>by rw[KO.1 he];show(sl.getD 49 Kc).fits .leaf=true;rw[y.2];exact hfX, .inr ⟨Qu _,W,r.sl.slot 8 50 _ ZM (by simp[adF]) (by simp[adX]),fun e=>(by simp at e),fun _ _=>⟨rfl,rfl⟩,fun e=>(f9 (by simpa using e)).elim⟩⟩
  ·have t8:=aAv 8 ZM;obtain⟨rfl,rfl⟩:=h9 t8 hDi;refine hI.mono ?_;rintro v h' nx' hle ⟨id,rfl,a,b,c,d⟩;refine⟨or, .rs id .leaf 0 Y.length,(RG.swap (F':=adF q nx M T X (.rs id .leaf 0 Y.length) i) r.sl fun f hf hd=>?_).slot 9 51 _ ZM (by simp[adF]) (by simp[adX]),fun e=>?_,fun _ e=>(by simp at e),fun _=>⟨?_,id,rfl,a,c,b,d⟩⟩
   ·simp only[adF,Qk,QK,or_false] at hf⊢;rcases hf with rfl|rfl|rfl|rfl|rfl|rfl|rfl|rfl|rfl|rfl|rfl|rfl;all_goals first|(simp only[true_or,or_true];done)|skip
    rw[hDi] at hd;cases hd
   ·have e:D 8=false:=by simpa using e
    rw[t8] at e;cases e
   show(if 8=9 then true else D 8)=true;simpa using t8
  ·exact go 10 52 _ ZM (by simp[adF]) (by simp[adX]) ZM ZM
  ·exact go 11 53 _ ZM (by simp[adF]) (by simp[adX]) ZM ZM
  simp[L.aCL] at hi
 rintro D ⟨sl,H,n2⟩ hD ⟨hn2,W,r⟩;obtain⟨_,id,rfl,a,b,c,d⟩:=r.hw (hD 9 ZM);have x53:=r.sl.dn (11,53, .ptr q (.agg 2) 0 1) (by simp[adF]) (hD 11 ZM);have x51:=r.sl.dn (9,51, .rs id .leaf 0 Y.length) (by simp[adF]) (hD 9 ZM);have hH:=(d q hqn hMq).trans hq;dsimp only at x53 x51 b d hH;simp only[L.aBj,aZ,LOp.run,LOp.sem,aK.ev,bI,x53,x51,hH];refine⟨trivial,Zm,by simp[cB],rfl,fin _ _ _ id r.sl.len (QF hn2) ?_ a c ?_ fun k h1 h2 h3=>?_⟩
 ·simp[Ka,bR,Ko,Kq]
 ·simp only[Ka];rw[if_neg c];exact b
 simp only[Ka];rw[if_neg h2];exact d k h1 h3
theorem uq(ar:Int)(zs:List TR)(r:fB ar zs)(p:TR)(hp:p.1= .nil→p.2=[])(hpl:p.2.length≤1000000)(q:Nat)(M:V)(h:Hp)(nx:Nat)(hq:h q=some (.arr (.agg 2) [.agg [.int .i64 ar,M]]))(hM:Bl h M zs q):
 aR Tryz.prog 25 [.ptr q (.agg 2) 0 0,p.v] h nx fun v h' nx'=>v= .tup [.bool (oQ ar zs p).2.1,fM (oQ ar zs p).2.2]∧∃M',h' q=some (.arr (.agg 2) [.agg [.int .i64 ar,M']])∧Bl h' M' (oQ ar zs p).1 q∧(nK M'=nK M∨∃n,nK M'=some n∧nx≤n)∧∀k,k<nx→k≠q→nK M≠some k→h' k=h k:=by
 refine aB L.aYo fun hd=>?_;have hd:aV h nx:=hd;have hqn:q<nx:=hd _ _ hq;have hz:=r.len;have aCE:∀z∈zs,z.2.length≤6:=fun z hz=>by have:=(r.row z hz).1;unfold oW at this;simp only[KW,decide_eq_true_eq] at this;exact this.1
 have CR:∀h,aL Tryz.prog 64 [p.v] h (.bool (oW p.2)):=fun h=>ew p.1 p.2 or h;have CF:=jn ar M zs or (fun z hz=>by have:=aCE z hz;omega) r.str p h hM.rd _ (.inr ⟨q,rfl,hq⟩);have CP:=fun h=>zC p hpl hp h;have aGg:(p.2.map Vl.v).length=p.2.length:=Kv ..;have hPv:p.v= .sl (.agg 3) p.1 (p.2.map Vl.v):=rfl;have same:Bl h M zs q∧(nK M=nK M∨∃n,nK M=some n∧nx≤n)∧∀k,k<nx→k≠q→nK M≠some k→h k=h k:=⟨hM, .inl rfl,fun _ _ _ _=>rfl⟩;have hcx:(cpO p).v.aAE=true:=rfl;have aDu:rB (aQ zs) p.2=false→(bj p zs).map TR.v=(zs.map TR.v).take (loT p.2 zs)++(cpO p).v::(zs.map TR.v).drop (loT p.2 zs):=fun _=>by
  simp only[bj,Qe,Ql,Qm,Qz]
 have hlo:=EJ p.2 zs;unfold oQ;rw[hPv] at CR CF CP⊢;generalize (cpO p).v=X at CP hcx aDu;simp only[Ke,Ks,Kj,Kk,Kh,Ki,Kp,Kt,Kc];generalize hDC:aS.draw _ _ _=DC;by_cases h1:(p.2.length:Int)=ar;rotate_left
 ·have g1:((p.2.length:Int) != ar)=true:=bnt;rw[if_pos h1];refine aue (e4 hq hqn g1 aGg) ?_;exact aN h (Kb _) ⟨rfl,M,hq,same⟩
 have g1:((p.2.length:Int) != ar)=false:=bnf;rw[if_neg (by simpa using h1)];cases h2:oW p.2 with
 |false=>
  rw[h2] at CR;rw[if_pos rfl];have C1:=CR;refine aue (e4 hq hqn g1 aGg) ?_;exact aN h (Kb _) ⟨rfl,M,hq,same⟩
 |true=>
  rw[h2] at CR;rw[if_neg Zm];have C1:=CR;have C5:=CF;cases h3:rB (aQ zs) p.2 with
  |true=>
   rw[h3] at C5;rw[if_pos rfl];refine aue (e4 hq hqn g1 aGg) ?_;exact aN h (Kb _) ⟨rfl,M,hq,same⟩
  |false=>
   rw[h3] at C5;rw[if_neg Zm];have hY:(bj p zs).length=zs.length+1:=by simp only[bj,KC,Ke,KG,KV];omega
   have aDu:=aDu h3
   have reg:¬2000≤zs.length→∀{Q:bJ→St→Prop} {sl:List V},sl.length=54→(∀x∈adX q (.sl (.agg 3) p.1 (p.2.map Vl.v)) (loT p.2 zs:Int),sl.getD x.1 Kc=x.2)→
    (∀sl' h' nx' id,sl'.length=54→nx≤nx'→h' q=some (.arr (.agg 2) [.agg [.int .i64 ar, .rs id .leaf 0 ((bj p zs).map TR.v).length]])→(nK M=some id∨nx<id)→id≠q→h' id=some (.arr .leaf ((bj p zs).map TR.v))→(∀k,k<nx→k≠q→nK M≠some k→h' k=h k)→Q .normal ⟨sl',h',nx'⟩)→lwp Tryz.prog DC Q ⟨sl,h,nx⟩:=by
    intro h4 Q sl hl hx aAh;rw[←hDC];rcases hM with⟨rfl,rfl⟩|⟨hne,n,rfl,hn,hnq⟩
    ·refine d7 hcx hq hqn rfl (by simp[nK]) CP ?_ hl hx aAh;have:=qw nx X (h.set nx (.arr .leaf [X])) (nx+1) (by simp[Ka]);refine this.mono ?_;rintro v h' nx' hle ⟨rfl,rfl⟩;refine⟨nx+1,?_, .inr or,or,?_,fun k hk _=>?_⟩
     ·rw[Kv,hY];rfl
     ·rw[aDu];simp[Ka,loT]
     simp only[Ka];rw[if_neg or,if_neg or]
    have hnn:n<nx:=hd _ _ hn;refine d7 hcx hq hqn rfl (by simp[nK];exact hnq) CP ?_ hl hx aAh;have:=qv n nx (loT p.2 zs) (zs.map TR.v) X (h.set nx (.arr .leaf [X])) (nx+1) (by simp only[Ka];rw[if_neg or];exact hn) (by simp[Ka]) or (by rw[Kv];exact hlo) (by rw[Kv];omega);rw[Kv] at this;refine this.mono ?_;rintro v h' nx' hle ⟨id,rfl,hid,hh,hk⟩;refine⟨id,by rw[Kv,hY],hid.imp (fun e=>by rw[e];rfl) (fun e=>or),?_,by rw[hh,aDu],fun k hk1 hk2=>?_⟩
    ·rcases hid with rfl|rfl
     ·exact hnq
     omega
    have e1:k≠n:=fun e=>hk2 (by rw[e];rfl);rw[hk k (by rcases hid with rfl|rfl;exact e1;omega) e1];simp only[Ka];rw[if_neg or]
   by_cases h4:2000≤zs.length
   ·rw[if_pos h4];rcases hM with⟨rfl,rfl⟩|⟨hne,n,rfl,hn,hnq⟩
    ·simp at h4
    have g4:decide ((zs.length:Int)≥2000)=true:=dct;have g4':decide ((2000:Int)≤(zs.length:Int))=true:=dct;refine aue (e6 hq hqn g1 aGg g4 g4') ?_;exact aN h (Kb _) ⟨rfl,_,hq,same⟩
   rw[if_neg h4];have g4:decide ((zs.length:Int)≥2000)=false:=dcf;have g4':decide ((2000:Int)≤(zs.length:Int))=false:=dcf;have g0:decide ((2000:Int)≤((0:Nat):Int))=false:=ZM;have reg:=@reg h4;rw[Kv] at reg;rcases hM with⟨rfl,rfl⟩|⟨hne,n,rfl,hn,hnq⟩
   all_goals
    refine aue (e7 hq hqn g1 aGg g4 g4' g0) ?_;refine reg ?_ ?_ fun sl' h' nx' id k1 k2 k3 k4 k5 k6 k7=>?_
    ·rfl
    ·simp[adX]
    refine x8 ⟨aD 54 0 [],h',nx'⟩ ⟨xp _ _ _ k1,Kb _,Ku _⟩ ?_;simp only[aD,go_sem,reduceIte,Kj,Kk,Qq,KX,reduceCtorEq,KK,Qf];refine au ?_;exact aN h' (Kb _) ⟨rfl,_,k3, .inr ⟨fun e=>(by have e:=congrArg List.length e;rw[hY] at e;simp at e),id,rfl,k6,k5⟩,k4.imp (fun e=>e.symm) (fun e=>⟨id,rfl,QS e⟩),k7⟩
end Go.Proofs.YtlhedpgobaellaaGreatDoor
namespace Go.Proofs.YtlhedpgobaellaaGreatDoor
open Go.RowKit Go.Sort
attribute [local irreducible] KF
def ofP(ar:Int)(l:List TR):V:=if (dD ar l).2=0 then vZ ar (dD ar l).1 else .nilPtr
theorem pt(ar:Int)(acc:List TR)(p:TR)(r:List TR):ofT ar acc (p::r)=if (oQ ar acc p).2.2≠0 then ([],(oQ ar acc p).2.2) else ofT ar (oQ ar acc p).1 r:=rfl
theorem zO{ar:Int}{zs:List TR}(h:∀z∈zs,z.ok)(L:Nat→Prop):(vZ ar zs).names L:=
 ⟨⟨trivial,lA (fun L=>iU.2 fun v hv=>by obtain⟨z,hz,rfl⟩:=QE.1 hv;exact TR.names (h z hz) L) L,trivial⟩,trivial⟩
theorem BE(ar:Int)(o:Own)(l:List TR)(hl:l.length≤1000000)(hp:∀p∈l,(p.1= .nil→p.2=[])∧p.2.length≤1000000)(h:Hp):aL Tryz.prog 39 [.int .i64 ar, .sl .leaf o (l.map TR.v)] h (.tup [ofP ar l,fM (dD ar l).2]):=by
 have hok:=kz (ar:=ar) (l:=l) fun p h=>(hp p h).1;refine aI (fun L=>⟨by unfold ofP;split;exact zO (fun z hz=>(hok.row z hz).2.2) L;trivial,eV L _,trivial⟩) fun h' nx hh=>aB L.aYL fun hd=>?_;have hd:aV h' nx:=hd;have hml:(l.map TR.v).length=l.length:=jK ..;refine ZK ?_;refine au ?_;by_cases hb:ar<0∨6<ar
 ·refine aU ((DP ar hb h' nx).mono ?_);rintro v h2 nx2 hle ⟨rfl,rfl⟩;unfold bT;refine Zn ?_;have hve:=eO 6;rw[decide_eq_false ZM] at hve;refine aue hve ?_;refine aN h2 (Kb _) ⟨?_,rfl⟩;unfold ofP dD;rw[if_pos hb];rfl
 refine aU ((E2 ar hb h' nx).dom.mono ?_);rintro v h2 nx2 hle ⟨⟨rfl,rfl⟩,hd2,_⟩;unfold bT;refine Zn ?_;have hve:veq (yB.iface true) V.nilIface V.nilIface=some true:=rfl;have hR0:dD ar l=ofT ar [] l:=by unfold dD;rw[if_neg hb]
 refine aue (e2 hve hml) ?_;generalize hR:mT (lwp Tryz.prog (.seq (.ops L.aDB) .ret)) _=RQ
 refine aP (fun q:Nat×List TR=>aD 37 0 [(0, .int .i64 ar),(1, .sl .leaf o (l.map TR.v)),(4, .nilPtr),(5, .nilIface),(6, .ptr nx (.agg 2) 0 0),(20, .sl .leaf o (l.map TR.v)),(21, .int .i64 l.length),(22, .int .i64 q.1)])
  (fun q hp nx1=>q.1≤l.length∧nx<nx1∧aV hp nx1∧fB ar q.2∧ofT ar [] l=ofT ar q.2 (l.drop q.1)∧(∀k,k<nx→hp k=h' k)∧∃M,hp nx=some (.arr (.agg 2) [.agg [.int .i64 ar,M]])∧Bl hp M q.2 nx∧∀n,nK M=some n→nx<n)
  (fun q=>l.length-q.1) (0,[]) ⟨KM _,hd2 nx _ (if_pos rfl),hd2,nH ar,rfl,fun k hk=>by simp only[Ka];rw[if_neg or],_,by simp[Ka], .inl ⟨rfl,rfl⟩,fun n e=>by cases e⟩ (by simp only[WkL,aD,jH,jI,jJ,hml,go_sem,reduceIte,jA,jB,jC,jD,reduceCtorEq,jE,jF]) ?_
 rintro⟨i,zs⟩ H nx1 ⟨hi,hnx,hdm,hro,hof,hk,M,hM1,hM2,hM3⟩;generalize hQ:bB _ _ _ _ _=Q0;dsimp only at hi hro hof hM2;refine Zk ?_;have hle:h'.le H:=fun k b e=>(hk k (hd _ _ e)).trans e;rcases KE i l.length with hlt|hge
 ·have hc:decide ((i:Int)<(l.length:Int))=true:=dct;have hg:=aO TR.v l i hlt;have hw:IntKind.i64.wrap ((i:Int)+1)=((i+1:Nat):Int):=wrp;have hdr:l.drop i=l[i]::l.drop (i+1):=Ky hlt;obtain⟨hp1,hp2⟩:=hp l[i] (Kw hlt);rw[hdr,pt] at hof
  refine aue (e6 hc hg hlt hml TR.aAD jG) ?_;refine aU ((uq ar zs hro l[i] hp1 hp2 nx M H nx1 hM1 hM2).dom.mono ?_);have aOj:=hro.add hp1;generalize oQ ar zs l[i]=P at*;rintro v h3 nx3 aCq ⟨⟨rfl,M',q1,q2,q3,q4⟩,hd3,_⟩;unfold bT;refine Zn ?_;have hve:=eO P.2.2;have hk3:∀k,k<nx→h3 k=h' k:=fun k hkn=>(q4 k or or (fun e=>by have:=hM3 k e;omega)).trans (hk k hkn);by_cases he:P.2.2=0
  ·rw[decide_eq_true he] at hve;rw[if_neg (by simpa using he)] at hof
   refine aue (e2 hve hw) ?_;rw[←hQ];refine aG (i+1,P.1) Zw ⟨hlt,or,hd3,aOj,hof,hk3,M',q1,q2,fun n e=>?_⟩ (by simp only[WkL,aD,jH,jI,jJ,hw,go_sem,reduceIte,jA,jB,jC,jD,reduceCtorEq,jE,jF]);rcases q3 with q|⟨n',q,q'⟩
   ·rw[q] at e;exact hM3 n e
   rw[q] at e;injection e with e;omega
  rw[decide_eq_false he] at hve;rw[if_pos he] at hof
  refine aue hve ?_;rw[←hQ];refine au ?_;rw[←hR];refine au ?_;refine aN h' (fun k b e=>(hk3 k (hd _ _ e)).trans e) ⟨?_,rfl⟩;unfold ofP;rw[hR0,hof,if_neg he];rfl
 have hc:decide ((i:Int)<(l.length:Int))=false:=dcf;rw[KB or] at hof
 have hof:dD ar l=(zs,0):=hR0.trans hof
 refine aue hc ?_;rw[←hQ];refine au ?_;rw[←hR];have hval:ofP ar l=vZ ar zs∧fM (dD ar l).2= .nilIface:=by unfold ofP;rw[hof];exact⟨rfl,rfl⟩
 rcases hM2 with⟨rfl,rfl⟩|⟨hne,n,rfl,hn,hnq⟩
 ·refine dO (lE (t:=6) (n:=nx) (k:= .agg 2) (i:=0) (o:=0) rfl hM1) ?_;refine au ?_;refine aN h' (kK hle (aV.none hd (Ku _))) ⟨?_,rfl⟩;rw[hval.1,hval.2];rfl
 refine dO (DA (p:=nx) (m:=2) (j:=1) (n:=n) (k:= .leaf) (off:=0) (len:=zs.length) hM1 ZM rfl hn (fun e=>hnq e.symm) Zm) ?_;refine dO (lE (t:=6) (n:=nx) (k:= .agg 2) (i:=0) (o:=0) rfl (if_pos rfl)) ?_;have hnn:nx<n:=hM3 n rfl;refine au ?_;refine aN h' (kK (gH (kK hle (aV.none hd or)) (aV.none hd (Ku _)) _) (aV.none hd (Ku _))) ⟨?_,rfl⟩;rw[hval.1,hval.2];refine Zn ?_;obtain⟨z,zr,rfl⟩:∃z zr,zs=z::zr:=by cases zs with|nil=>exact absurd rfl hne|cons z zr=>exact⟨z,zr,rfl⟩
 unfold vZ;rw[Ql,B5];simp[KA]
end Go.Proofs.YtlhedpgobaellaaGreatDoor
