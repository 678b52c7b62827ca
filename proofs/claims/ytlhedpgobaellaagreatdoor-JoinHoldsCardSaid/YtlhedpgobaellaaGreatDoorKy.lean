/-
Texts of this proof,one behind the other. No conditions.
-/
import Derived.Test.YtlhedpgobaellaaGreatDoorKx
open Go.Proofs.YtlhedpgobaellaaGreatDoor.Hp renaming le_refl→Ka,same→Kb
open List renaming map_cons→Kc,map_nil→Kd,map_append→Ke,take_succ_eq_append_getElem→Kf,mem_singleton→Kg,drop_eq_getElem_cons→Ki,getElem_mem→Kj,mem_map→Kk,drop_of_length_le→Km,take_of_length_le→Ko,nodup_append→Kq
open Nat renaming zero_le→Kh,lt_or_ge→Kp,le_refl→Ku
open Bool renaming not_false→Ks,not_true→Kt
open Nat renaming reduceAdd→jA,reduceSub→jB,reduceLT→jC,reduceLeDiff→jD,reduceEqDiff→jE
open Int renaming reduceToNat→jF,toNat_natCast→jG,natCast_add→jH,natCast_one→jI,natCast_zero→jJ
open List renaming length_map→jK
set_option linter.all false
set_option maxHeartbeats 8000000
namespace Go.Proofs.YtlhedpgobaellaaGreatDoor
open Go.RowKit Go.Sort
attribute [local irreducible] IntKind.wrap
theorem tI{t u w n:Nat}{k:Sh}{x:V}{R:V→Hp→Nat→Prop}{s:St}(hx:s.sl.getD t V.undef= .ptr n k 0 0)(hn:s.h n=some (.arr k [x]))(hf:x.fits k=true)(h':Hp)(hle:h'.le s.h)(hR:R (.tup [x,s.sl.getD u V.undef,s.sl.getD w V.undef]) h' s.nx):tM [.cell t k, .slot u, .slot w] R .ret s:=by
 simp only[tM,lJ,yA.sem,aW.sem,aK.ev,hx,hn];refine⟨?_,Zm,pG _,h',hle,?_⟩
 ·trivial
 have e:=bP hf;simp only[List.getD_cons_zero,e];exact hR
theorem fO(ar:Int)(ls:List (List Vl)):(eQ ar ls).loose=eQ ar ls:=by
 unfold eQ;cases ls<;>rfl
theorem wv(ar:Int)(zs:List TR)(hr:fB ar zs)(p:TR)(hl:p.2.length≤1000000)(hz:∀v∈p.2,v.s.size≤9223372036854775807)(h:Hp):
 aL Tryz.prog 87 [eQ ar (aQ zs),p.v] h (.tup [eQ ar (aQ (oQ ar zs p).1), .bool (oQ ar zs p).2.1, .int .i64 (oQ ar zs p).2.2]):=by
 refine fE (fun L=>⟨oA _ _ L,trivial,trivial,trivial⟩) fun h' nx hh=>aB L.aXy fun hd=>?_;have hzl:=hr.len;have hrw:∀t∈aQ zs,t.length≤6:=fun t ht=>by
  obtain⟨z,q,rfl⟩:=Kk.1 ht;have:=(hr.row z q).1;unfold oW at this;simp only[Bool.and_eq_true,decide_eq_true_eq] at this;exact this.1
 have hrl:(aQ zs).length=zs.length:=jK ..;obtain⟨o,t⟩:=p;have hv:TR.v (o,t)= .sl (.agg 3) o (t.map Vl.v):=rfl;rw[hv];have hl:t.length≤1000000:=hl;have C1:=fun h=>il ar (aQ zs) or (fun q hq=>by have:=hrw q hq;omega) o t or h;have C2:=k8 o t hl hz;have C3:=fun h=>Af ar (aQ zs) hr.str or (fun q hq=>by have:=hrw q hq;omega) o t hl h;have hfz:=iR ar (aQ zs);have hml:=@jK Vl V t Vl.v;have hll:(lsV (aQ zs)).length=zs.length:=by rw[jK,hrl]
 obtain⟨ow,how⟩:=fH .leaf (lsV (aQ zs));have hrv:eQ ar (aQ zs)= .agg [.int .i64 ar, .sl .leaf ow (lsV (aQ zs))]:=by rw[eQ,how]
 have hlo:=fO ar (aQ zs);unfold oQ;dsimp only;refine ZK ?_;by_cases h1:(t.length:Int)=ar
 ·have g1:((t.length:Int) != ar)=false:=bnf;rw[if_neg (by simpa using h1)];cases h2:oW t with
  |false=>
   rw[h2] at C2;rw[if_pos rfl];rw[hrv] at C1 C3 hfz hlo⊢;refine aue (e3 hml g1 hfz) ?_;refine tI rfl (by simp only[go_sem,reduceIte,jA,jB,jC,jD,reduceCtorEq,jE,jF]) hfz _ (leo hd) ⟨?_,Ka _⟩;rw[←hrv];simp only[V.loose,Kc,Kd,fO,go_sem,reduceIte,jA,jB,jC,jD,reduceCtorEq,jE,jF]
  |true=>
   rw[h2] at C2;rw[if_neg Zm];cases h3:rB (aQ zs) t with
   |true=>
    rw[decide_eq_true (uW.1 h3)] at C1;rw[if_pos rfl];rw[hrv] at C1 C3 hfz hlo⊢;refine aue (e3 hml g1 hfz) ?_;refine tI rfl (by simp only[go_sem,reduceIte,jA,jB,jC,jD,reduceCtorEq,jE,jF]) hfz _ (leo hd) ⟨?_,Ka _⟩;rw[←hrv];simp only[V.loose,Kc,Kd,fO,go_sem,reduceIte,jA,jB,jC,jD,reduceCtorEq,jE,jF]
   |false=>
    have hni:t∉aQ zs:=fun e=>by rw[uW.2 e] at h3;cases h3
    rw[decide_eq_false hni] at C1;rw[if_neg Zm];by_cases h4:2000≤zs.length
    ·have g4:((zs.length:Int)==2000)=true:=bqt;rw[if_pos h4];rw[hrv] at C1 C3 hfz hlo⊢;refine aue (e5 hml g1 hfz hll g4) ?_;refine tI rfl (by simp only[go_sem,reduceIte,jA,jB,jC,jD,reduceCtorEq,jE,jF]) hfz _ (leo hd) ⟨?_,Ka _⟩;rw[←hrv];simp only[V.loose,Kc,Kd,fO,go_sem,reduceIte,jA,jB,jC,jD,reduceCtorEq,jE,jF]
    have g4:((zs.length:Int)==2000)=false:=bqf;rw[if_neg h4];have aDu:=jl (p:=(o,t)) hr.str hni;have hf2:=iR ar (kT cP t (aQ zs));have hY2:=fO ar (kT cP t (aQ zs));rw[aDu];rw[hrv] at C1 C3 hfz hlo⊢;dsimp only;generalize eQ ar (kT cP t (aQ zs))=Y at*;refine aue (e6 hml g1 hfz hll g4 hf2) ?_;refine tI rfl (by simp only[hf2,go_sem,reduceIte,jA,jB,jC,jD,reduceCtorEq,jE,jF]) hf2 _ (leo hd) ⟨?_,Ka _⟩;simp only[V.loose,Kc,Kd,hY2,go_sem,reduceIte,jA,jB,jC,jD,reduceCtorEq,jE,jF]
 have g1:((t.length:Int) != ar)=true:=bnt;rw[if_pos h1];rw[hrv] at C1 C3 hfz hlo⊢;refine aue (e3 hml g1 hfz) ?_;refine tI rfl (by simp only[go_sem,reduceIte,jA,jB,jC,jD,reduceCtorEq,jE,jF]) hfz _ (leo hd) ⟨?_,Ka _⟩;rw[←hrv];simp only[V.loose,Kc,Kd,fO,go_sem,reduceIte,jA,jB,jC,jD,reduceCtorEq,jE,jF]
def d3P(ar:Int)(l:List TR):V:=if (dD ar l).2=0 then eQ ar (aQ (dD ar l).1) else eQ 0 []
theorem A9(ar:Int)(o:Own)(l:List TR)(hl:l.length≤1000000)(hp:∀p∈l,(p.1= .nil→p.2=[])∧p.2.length≤1000000∧∀v∈p.2,v.s.size≤9223372036854775807)(h:Hp):
 aL Tryz.prog 40 [.int .i64 ar, .sl .leaf o (l.map TR.v)] h (.tup [d3P ar l, .int .i64 (dD ar l).2]):=by
 refine fE (fun L=>⟨by unfold d3P;split;exact oA _ _ L;exact oA _ _ L,trivial,trivial⟩) fun h' nx hh=>aB L.aYK fun hd=>?_;have hml:(l.map TR.v).length=l.length:=jK ..;have hl0:=fO 0 [];have hf0:=iR 0 [];have e0:eQ 0 []= .agg [.int .i64 0, .sl .leaf .nil []]:=rfl;refine ZK ?_;by_cases h1:ar<0
 ·have hR:dD ar l=([],6):=by unfold dD;rw[if_pos (.inl h1)]
  have hd3:d3P ar l=eQ 0 []:=by unfold d3P;rw[hR];rfl
  rw[hd3,hR,e0];have g1:decide (ar<0)=true:=decide_eq_true h1;refine aue g1 ?_;refine bH (by simp only[go_sem,reduceIte,jA,jB,jC,jD,reduceCtorEq,jE,jF]) h' (leo hd) ⟨?_,leo hd⟩;refine Zn ?_;rfl
 have g1:decide (ar<0)=false:=decide_eq_false h1;by_cases h2:6<ar
 ·have hR:dD ar l=([],6):=by unfold dD;rw[if_pos (.inr h2)]
  have hd3:d3P ar l=eQ 0 []:=by unfold d3P;rw[hR];rfl
  rw[hd3,hR,e0];have g2:decide (6<ar)=true:=decide_eq_true h2;refine aue (e2 g1 g2) ?_;refine bH (by simp only[go_sem,reduceIte,jA,jB,jC,jD,reduceCtorEq,jE,jF]) h' (leo hd) ⟨?_,leo hd⟩;refine Zn ?_;rfl
 have g2:decide (6<ar)=false:=decide_eq_false h2;have hR:dD ar l=ofT ar [] l:=by unfold dD;rw[if_neg or]
 have hP:d3P ar l=if (ofT ar [] l).2=0 then eQ ar (aQ (ofT ar [] l).1) else eQ 0 []:=by unfold d3P;rw[hR]
 rw[hR,hP];obtain⟨RES,aA1⟩:∃R,ofT ar [] l=R:=⟨_,rfl⟩;rw[aA1];refine aue (e2 g1 g2) ?_
 refine aP (fun q:Nat×List TR=>aD 42 0 [(0, .int .i64 ar),(1, .sl .leaf o (l.map TR.v)),(4, .ptr nx (.agg 2) 0 0),(5, .int .i64 0),(6, .ptr (nx+1) (.agg 2) 0 0),(7, .int .i64 q.1)])
  (fun q hp nx1=>q.1≤l.length∧nx+1<nx1∧aV hp nx1∧fB ar q.2∧ofT ar q.2 (l.drop q.1)=RES∧Kb nx h' hp∧hp nx=some (.arr (.agg 2) [eQ 0 []])∧hp (nx+1)=some (.arr (.agg 2) [eQ ar (aQ q.2)]))
  (fun q=>l.length-q.1) (0,[]) ⟨Kh _,Zw,by exact dmo hd,nH ar,aA1,by exact kep Hp.same.aA0,by simp only[e0,go_sem,reduceIte,jA,jB,jC,jD,reduceCtorEq,jE,jF],by simp only[go_sem,reduceIte,jA,jB,jC,jD,reduceCtorEq,jE,jF];rfl⟩ (by simp only[WkL,aD,jH,jI,jJ,go_sem,reduceIte,jA,jB,jC,jD,reduceCtorEq,jE,jF]) ?_
 rintro⟨i,zs⟩ H nx1 ⟨hi,hnx,hdm,hro,hof,hsm,hb0,hb1⟩;generalize hQ:bB _ _ _ _ _=Q0;dsimp only at hi hro hof hb1;refine Zk ?_;have hle:=hsm.le hd (Ka _);have n1:nx+1<nx1:=or;have n0:nx<nx1:=or;rcases Kp i l.length with hlt|hge
 ·have hc:decide ((i:Int)<(l.length:Int))=true:=dct;have hg:=aO TR.v l i hlt;have hw:IntKind.i64.wrap ((i:Int)+1)=((i+1:Nat):Int):=wrp;rw[Ki hlt,pt] at hof
  obtain⟨hp1,hp2,hp3⟩:=hp l[i] (Kj hlt);have D1:=fun h=>wv ar zs hro l[i] hp2 hp3 h;have aOj:=hro.add hp1;have hfp:=TR.aAD l[i];generalize l[i].v=pv at*;generalize oQ ar zs l[i]=P at*;have hf1:=iR ar (aQ zs);have hf2:=iR ar (aQ P.1);generalize eQ ar (aQ zs)=X1 at*;obtain⟨X2,hX2⟩:∃X2,eQ ar (aQ P.1)=X2:=⟨_,rfl⟩;rw[hX2] at hf2 D1;rw[e0] at hb0;have m1:(nx+1=nx1+10)=False:=fls;have m0:(nx=nx1+10)=False:=fls;by_cases he:P.2.2=0
  ·have g:(P.2.2 != 0)=false:=bnf;rw[if_neg (by simpa using he)] at hof
   refine aue (e11 hc hg hlt hml jG hfp hb1 n1 hf1 hf2 (e2 hb0 n0)) ?_;refine cq (D1 _) rfl (aH _) ?_;refine aue (e12 hc g hw hlt hml jG hb1 n1 hf1 hf2 m1 (e3 hb0 n0 m0)) ?_;rw[←hQ];exact aG (i+1,P.1) Zw ⟨hlt,or,dmo hdm,aOj,hof,kep hsm,by rw[e0];simp only[hb0,n0,m0,go_sem,reduceIte,jA,jB,jC,jD,reduceCtorEq,jE,jF],by dsimp only;rw[hX2];simp only[go_sem,reduceIte,jA,jB,jC,jD,reduceCtorEq,jE,jF]⟩ (by simp only[WkL,aD,jH,jI,jJ,hw,go_sem,reduceIte,jA,jB,jC,jD,reduceCtorEq,jE,jF])
  have g:(P.2.2 != 0)=true:=bnt;rw[if_pos he] at hof
  refine aue (e11 hc hg hlt hml jG hfp hb1 n1 hf1 hf2 (e2 hb0 n0)) ?_;refine cq (D1 _) rfl (aH _) ?_;refine aue (e12 hc g hw hlt hml jG hb1 n1 hf1 hf2 m1 (e3 hb0 n0 m0)) ?_;rw[←hQ];refine au ?_;refine bH (by simp only[m0,go_sem,reduceIte,jA,jB,jC,jD,reduceCtorEq,jE,jF]) _ (Ka _) ⟨?_,lef hd hle⟩;simp only[m0,go_sem,reduceIte,jA,jB,jC,jD,reduceCtorEq,jE,jF];rw[←hof];dsimp only;rw[if_neg he];rfl
 have hc:decide ((i:Int)<(l.length:Int))=false:=dcf;rw[Km or] at hof
 have hR2:RES=(zs,0):=hof.symm;have hfz:=iR ar (aQ zs);have hlz:=fO ar (aQ zs);rw[←hQ,hR2,if_pos rfl];dsimp only;generalize eQ ar (aQ zs)=Y at*;rw[e0] at hb0;refine aue (e7 hc hml hb1 n1 n0 hfz hb0) ?_;refine bH (by simp only[hfz,go_sem,reduceIte,jA,jB,jC,jD,reduceCtorEq,jE,jF]) _ (Ka _) ⟨?_,lef hd hle⟩;simp only[hfz,V.loose,Kc,Kd,hlz,go_sem,reduceIte,jA,jB,jC,jD,reduceCtorEq,jE,jF]
theorem zS(o1 o2:Own)(a b:List TR)(ha:a.length≤1000000000)(hr:∀p∈a,p.2.length≤1000000000)(h:Hp):aL Tryz.prog 18 [tps o1 a,tps o2 b] h (.bool (decide (aQ a=aQ b))):=by
 refine aI (fun L=>trivial) fun h' nx hh=>aB L.g9z fun hd=>?_;refine ZK ?_;by_cases hl:a.length=b.length
 ·have cl:((a.length:Int) != (b.length:Int))=false:=bnf;refine aue (e2 cl (@jK TR V)) ?_;refine aP (fun i:Nat=>aD 27 0 [(0,tps o1 a),(1,tps o2 b),(12, .int .i64 a.length),(13, .int .i64 i)]) (fun i hp nx1=>i≤a.length∧nx≤nx1∧aV hp nx1∧Kb nx h' hp∧aQ (a.take i)=aQ (b.take i)) (fun i=>a.length-i) 0 ⟨Kh _,Ku _,hd,Hp.same.aA0,rfl⟩ (by simp only[WkL,aD,jH,jI,jJ,go_sem,reduceIte,jA,jB,jC,jD,reduceCtorEq,jE,jF]) ?_;rintro i hp nx1 ⟨hi,hnx,hdm,hsm,htk⟩;generalize hQ:bB _ _ _ _ _=Q0;refine Zk ?_;rcases Kp i a.length with hlt|hge
  ·have hc:decide ((i:Int)<(a.length:Int))=true:=dct;have hw:IntKind.i64.wrap ((i:Int)+1)=((i+1:Nat):Int):=wrp;have hlb:i<b.length:=or;have hg:(a.map TR.v).getD i (.tup [])=vls a[i].1 a[i].2:=aO TR.v a i hlt;have hg2:(b.map TR.v).getD i (.tup [])=vls b[i].1 b[i].2:=aO TR.v b i hlb;have D1:=fun h=>ff a[i].1 b[i].1 a[i].2 b[i].2 (hr _ (Kj _)) h;have E:=e8 hc hw hg hg2 hlt hlb (@jK TR V) jG;cases he:decide (a[i].2=b[i].2) with
   |true=>
    rw[he] at D1;have he':a[i].2=b[i].2:=of_decide_eq_true he;refine aue (e3 E Kt Ks) ?_;rw[←hQ];exact aG (i+1) or ⟨hlt,or,dmo hdm,kep hsm,by
     rw[Kf hlt,Kf hlb];simp only[aQ,Ke,Kc,Kd,he'] at htk⊢;rw[htk]⟩ (by simp only[WkL,aD,jH,jI,jJ,hw,go_sem,reduceIte,jA,jB,jC,jD,reduceCtorEq,jE,jF])
   |false=>
    rw[he] at D1;have he':a[i].2≠b[i].2:=of_decide_eq_false he;refine aue (e3 E Kt Ks) ?_;rw[←hQ];refine au ?_;refine aC h' (lef hd (hsm.le hd (Ka _))) ⟨?_,rfl⟩;have:aQ a≠aQ b:=fun e=>he' (by
     have h1:(aQ a)[i]'(by simpa using hlt)=a[i].2:=Zm;have h2:(aQ b)[i]'(by simpa using hlb)=b[i].2:=Zm;rw[←h1,←h2];congr 1)
    simp only[go_sem,reduceIte,jA,jB,jC,jD,reduceCtorEq,jE,jF];rw[decide_eq_false this]
  have hc:decide ((i:Int)<(a.length:Int))=false:=dcf;refine aue hc ?_;rw[←hQ];refine au ?_;refine aC h' (lef hd (hsm.le hd (Ka _))) ⟨?_,rfl⟩;have:aQ a=aQ b:=by rw[Ko or,Ko or] at htk;exact htk
  simp only[go_sem,reduceIte,jA,jB,jC,jD,reduceCtorEq,jE,jF];rw[decide_eq_true this]
 have cl:((a.length:Int) != (b.length:Int))=true:=bnt;refine aue (e2 cl (@jK TR V)) ?_;refine aC h' (leo hd) ⟨?_,rfl⟩;have:aQ a≠aQ b:=fun e=>hl (by have:=congrArg List.length e;simpa using this);simp only[go_sem,reduceIte,jA,jB,jC,jD,reduceCtorEq,jE,jF];rw[decide_eq_false this]
end Go.Proofs.YtlhedpgobaellaaGreatDoor
namespace Go.Proofs.YtlhedpgobaellaaGreatDoor
open Go.RowKit Go.Sort
def meS(p:Sr×Nat):ME:=⟨.str p.1.r,p.1.v,p.2⟩
def xb(es:List ME)(c:Nat)(S:List Sr):Prop:=∃T:List (Sr×Nat),es=T.map meS∧T.map Prod.fst=S∧(T.map Prod.snd).Nodup∧(∀p∈T,p.2<c)∧(S.map Sr.r).Nodup
theorem Bv:xb [] 0 []:=⟨[],rfl,rfl,Zm,Zm,Zm⟩
theorem qe{x:ByteArray}:∀{S:List Sr},lkS x S=none→∀s∈S,s.r≠x
 |b::l,h,s,hs=>by
  unfold lkS at h;split at h
  ·cases h
  rename_i hb;rcases List.mem_cons.1 hs with rfl|hs
  ·exact hb
  exact qe h s hs
theorem xb.add{es:List ME}{c:Nat}{S:List Sr}(h:xb es c S){t:Sr}(hk:lkS t.r S=none):xb (es++[⟨.str t.r,t.v,c⟩]) (c+1) (S++[t]):=by
 obtain⟨T,rfl,rfl,h3,h4,h5⟩:=h;refine⟨T++[(t,c)],by rw[Ke];rfl,by rw[Ke];rfl,?_,fun p hp=>?_,?_⟩
 ·rw[Ke,Kq];refine⟨h3,Zm,fun a ha b hb=>?_⟩;obtain⟨p,hp,rfl⟩:=Kk.1 ha;simp only[Kc,Kd,Kg] at hb;subst hb;have:=h4 p hp;omega
 ·rcases List.mem_append.1 hp with hp|hp
  ·have:=h4 p hp;omega
  rw[Kg] at hp;subst hp;exact Nat.lt_succ_self c
 rw[Ke,Kq];refine⟨h5,Zm,fun a ha b hb=>?_⟩;obtain⟨s,hs,rfl⟩:=Kk.1 ha;simp only[Kc,Kd,Kg] at hb;subst hb;exact qe hk s hs
end Go.Proofs.YtlhedpgobaellaaGreatDoor
namespace Go.Proofs.YtlhedpgobaellaaGreatDoor
open Go.RowKit Go.Sort
attribute [local irreducible] IntKind.wrap
structure Fc where
 r:ByteArray
 ar:Int
 o:Own
 l:List TR
def Fc.v(f:Fc):V:= .agg [.str f.r, .int .i64 f.ar, .sl .leaf f.o (f.l.map TR.v)]
def nmD(s:Sr):V:= .agg [.str s.r, .int .i64 s.ar,lst .leaf (lsV (aQ s.zs))]
def ez:Nat→Nat→List Sr→List Fc→Option (List Sr)
 |_,_,S,[]=>some S
 |i,n,S,f::r=>if 12<i∨80<n+f.l.length∨40<f.r.size∨rH 0 (aQ f.l)=true∨(dD f.ar f.l).2≠0∨lkS f.r S≠none then none
  else ez (i+1) (n+f.l.length) (S++[⟨f.r,f.ar,(dD f.ar f.l).1⟩]) r
theorem g8(i n:Nat)(S:List Sr)(f:Fc)(r:List Fc):ez i n S (f::r)=if 12<i∨80<n+f.l.length∨40<f.r.size∨rH 0 (aQ f.l)=true∨(dD f.ar f.l).2≠0∨lkS f.r S≠none then none
 else ez (i+1) (n+f.l.length) (S++[⟨f.r,f.ar,(dD f.ar f.l).1⟩]) r:=rfl
def Gf(r:Option (List Sr))(nx:Nat)(v:V)(h':Hp):Prop:=match r with
 |none=>v= .tup [.aAH, .sl (.agg 3) .nil [], .bool false]
 |some S=>∃N es c o,v= .tup [.map N, .sl (.agg 3) o (S.map nmD), .bool true]∧nx≤N∧h' N=some (.mp es c)∧gA es S∧xb es c S
def Fc.ok(f:Fc):Prop:=f.l.length≤140737488355328∧∀p∈f.l,(p.1= .nil→p.2=[])∧∀v∈p.2,v.s.size≤9223372036854775807
theorem sY(o:Own)(l:List Fc)(hl:l.length≤140737488355328)(hok:∀f∈l,f.ok)(h:Hp)(nx:Nat):
 aR Tryz.prog 8 [.sl (.agg 3) o (l.map Fc.v)] h nx fun v h' _=>Gf (ez 0 0 [] l) nx v h'∧∀k,k<nx→h' k=h k:=by
 refine aB L.g2z fun hd=>?_;have hd:aV h nx:=hd;have hml:(l.map Fc.v).length=l.length:=jK ..;obtain⟨RES,aA1⟩:∃R,ez 0 0 [] l=R:=⟨_,rfl⟩;rw[aA1];refine ZK ?_;refine aue hml ?_;refine pN ?_;refine aue hml ?_
 refine aP (fun q:Nat×Nat×List Sr×Own=>aD 94 0 [(2, .aAH),(3, .sl (.agg 3) .nil []),(4, .bool false),(5, .map nx),(6, .sl (.agg 3) q.2.2.2 (q.2.2.1.map nmD)),(7, .int .i64 q.2.1),(17, .sl (.agg 3) o (l.map Fc.v)),(18, .int .i64 l.length),(19, .int .i64 q.1)])
  (fun q hp nx1=>q.1≤l.length∧nx<nx1∧aV hp nx1∧Kb nx h hp∧(∃es c,hp nx=some (.mp es c)∧gA es q.2.2.1∧xb es c q.2.2.1)∧Acc hp (nx+1) q.2.2.2 (q.2.2.1.map nmD)∧ez q.1 q.2.1 q.2.2.1 (l.drop q.1)=RES∧q.2.2.1.length≤q.1∧q.2.1≤80)
  (fun q=>l.length-q.1) (0,0,[], .nil) ⟨Kh _,Zw,by exact dmo hd,by exact kep Hp.same.aA0,⟨[],0,by simp only[go_sem,reduceIte,jA,jB,jC,jD,reduceCtorEq,jE,jF],ou,Bv⟩, .inl ⟨rfl,rfl⟩,aA1,Kh _,Kh _⟩ (by simp only[WkL,aD,jH,jI,jJ,hml,go_sem,reduceIte,jA,jB,jC,jD,reduceCtorEq,jE,jF]) ?_
 rintro⟨i,n,S,om⟩ H nx1 ⟨hi,hnx,hdm,hk,⟨es,c,hm1,hst,hse⟩,aAr,hmt,hSl,aV7⟩;generalize hQ:bB _ _ _ _ _=Q0;dsimp only at hi aAr hst hmt hSl aV7;refine Zk ?_;rcases Kp i l.length with hlt|hge
 ·have hc:decide ((i:Int)<(l.length:Int))=true:=dct;have hg:=aO Fc.v l i hlt;have hw:IntKind.i64.wrap ((i:Int)+1)=((i+1:Nat):Int):=wrp;rw[Ki hlt,g8] at hmt;obtain⟨hf1,hf2⟩:=hok l[i] (Kj hlt);generalize l[i]=F at*;obtain⟨fr,ar,fo,fl⟩:=F;have hFv:(Fc.mk fr ar fo fl).v= .agg [.str fr, .int .i64 ar, .sl .leaf fo (fl.map TR.v)]:=rfl;rw[hFv] at hg;dsimp only at hmt hf1 hf2;have hwn:IntKind.i64.wrap ((n:Int)+(fl.length:Int))=((n+fl.length:Nat):Int):=wrp;have aE9:(fl.map TR.v).length=fl.length:=jK ..;have n1:nx<nx1:=hnx;by_cases t1:12<i
  ·have g1:decide ((i:Int)>12)=true:=dct;refine aue (e8 hc hg hlt hml aE9 jG hwn g1) ?_;rw[←hQ];refine au ?_;refine bU _ (Ka _) ⟨?_,by exact kep hk⟩;rw[←hmt,if_pos (.inl t1)];rfl
  have g1:decide ((i:Int)>12)=false:=dcf;by_cases t2:80<n+fl.length
  ·have g2:decide (((n+fl.length:Nat):Int)>80)=true:=dct;refine aue (e9 hc hg hlt hml aE9 jG hwn g1 g2) ?_;rw[←hQ];refine au ?_;refine bU _ (Ka _) ⟨?_,by exact kep hk⟩;rw[←hmt,if_pos (.inr (.inl t2))];rfl
  have g2:decide (((n+fl.length:Nat):Int)>80)=false:=dcf;by_cases t3:40<fr.size
  ·have g3:decide ((fr.size:Int)>40)=true:=dct;refine aue (e10 hc hg hlt hml aE9 jG hwn g1 g2 g3) ?_;rw[←hQ];refine au ?_;refine bU _ (Ka _) ⟨?_,by exact kep hk⟩;rw[←hmt,if_pos (.inr (.inr (.inl t3)))];rfl
  have g3:decide ((fr.size:Int)>40)=false:=dcf;have C1:=fun h=>AD fo fl or h;cases t4:rH 0 (aQ fl) with
  |true=>
   rw[t4] at C1;refine aue (e10 hc hg hlt hml aE9 jG hwn g1 g2 g3) ?_;rw[←hQ];refine au ?_;refine bU _ (Ka _) ⟨?_,by exact kep hk⟩;rw[←hmt,if_pos (.inr (.inr (.inr (.inl t4))))];rfl
  |false=>
  rw[t4] at C1;have h50:∀p∈fl,p.2.length≤50:=fun p hp=>ja _ _ t4 _ (Kk.2 ⟨p,hp,rfl⟩);have C2:=fun h=>BE ar fo fl or (fun p hp=>⟨(hf2 p hp).1,by have:=h50 p hp;omega⟩) h;have C3:=fun h=>A9 ar fo fl or (fun p hp=>⟨(hf2 p hp).1,by have:=h50 p hp;omega,(hf2 p hp).2⟩) h;have hve:=eO (dD ar fl).2;by_cases t5:(dD ar fl).2=0
  ·have q5:ofP ar fl=vZ ar (dD ar fl).1:=by unfold ofP;rw[if_pos t5]
   have q6:d3P ar fl=eQ ar (aQ (dD ar fl).1):=by unfold d3P;rw[if_pos t5]
   rw[t5] at C2 C3 hve;rw[q5] at C2;rw[q6] at C3;rw[decide_eq_true rfl] at hve;have hmt:=hmt;have hvp:veq .ptr (vZ ar (dD ar fl).1) .nilPtr=some false:=rfl;have hpl:(vZ ar (dD ar fl).1).aAE=true:=rfl;have hvf:=iR ar (aQ (dD ar fl).1);obtain⟨ow,how⟩:=fH .leaf (lsV (aQ (dD ar fl).1));have hrv:eQ ar (aQ (dD ar fl).1)= .agg [.int .i64 ar, .sl .leaf ow (lsV (aQ (dD ar fl).1))]:=by rw[eQ,how]
   have hnd:nmD ⟨fr,ar,(dD ar fl).1⟩= .agg [.str fr, .int .i64 ar, .sl .leaf ow (lsV (aQ (dD ar fl).1))]:=by rw[nmD,how]
   rw[hrv] at C3 hvf;have hx:=hst fr;cases t6:lkS fr S with
   |some w=>
    rw[t6] at hx;obtain⟨j,hj1,hj2,hj3⟩:=hx;have hzz:((0:Int) != 0)=false:=rfl;have hg0:iM true .nilPtr es (some j)= .tup [w.v, .bool true]:=by rw[←hj2];rfl
    generalize vZ ar (dD ar fl).1=PR at*;refine aue (e12 hc hg hlt hml aE9 jG hwn g1 g2 g3 hve (e8 hvp hvf hm1 n1 hj1 hg0 hpl hzz)) ?_;rw[←hQ];refine au ?_;refine bU _ (Ka _) ⟨?_,by exact kep hk⟩;rw[←hmt,if_pos (.inr (.inr (.inr (.inr (.inr (by rw[t6];simp))))))];rfl
   |none=>
    rw[t6] at hx;have hg0:iM true .nilPtr es none= .tup [.nilPtr, .bool false]:=rfl;have hmt:ez (i+1) (n+fl.length) (S++[(Sr.mk fr ar (dD ar fl).1)]) (l.drop (i+1))=RES:=by
     rw[←hmt,if_neg];rintro(q|q|q|q|q|q)
     ·exact t1 q
     ·exact t2 q
     ·exact t3 q
     ·rw[t4] at q;cases q
     ·exact q t5
     exact q t6
    have aUs:gA (es++[⟨.str fr,(Sr.mk fr ar (dD ar fl).1).v,c⟩]) _:=hst.add (t:=(Sr.mk fr ar (dD ar fl).1)) (b:=c) t6;have aUu:xb (es++[⟨.str fr,(Sr.mk fr ar (dD ar fl).1).v,c⟩]) (c+1) _:=hse.add (t:=(Sr.mk fr ar (dD ar fl).1)) t6;have hzz:((0:Int) != 0)=false:=rfl;have hSm:(S.map nmD).length=S.length:=jK ..;have hsv:(Sr.mk fr ar (dD ar fl).1).v=vZ ar (dD ar fl).1:=rfl;rw[hsv] at aUs aUu;have aOs:(S++[(Sr.mk fr ar (dD ar fl).1)]).map nmD=S.map nmD++[nmD (Sr.mk fr ar (dD ar fl).1)]:=Zm;rw[hnd] at aOs;generalize vZ ar (dD ar fl).1=PR at*;refine aue (e12 hc hg hlt hml aE9 jG hwn g1 g2 g3 hve (e8 hvp hvf hm1 n1 hx hg0 hpl hzz)) ?_;refine nL (es:=es) (c:=c) (n:=nx) rfl rfl (by simp only[hm1,n1,(fls:(nx=nx1)=False),(fls:(nx=nx1+2)=False),go_sem,reduceIte,jA,jB,jC,jD,reduceCtorEq,jE,jF]) hx ?_;refine Zn ?_;have m1:(nx1=nx)=False:=fls;have m2:(nx1+2=nx)=False:=fls;have aWO:S.length≤12:=or;generalize hES:es++[(⟨.str fr,PR,c⟩:ME)]=ES at*;generalize hG:Hp.set _ nx (.mp ES (c+1))=G;have hG0:G nx=some (.mp ES (c+1)):=by rw[←hG];simp only[Hp.set,if_true]
    have hG1:G nx1=some (.arr (.agg 3) [.agg [.str fr, .int .i64 ar, .sl .leaf fo (fl.map TR.v)]]):=by rw[←hG];simp only[m1,(fls:(nx1=nx1+2)=False),go_sem,reduceIte,jA,jB,jC,jD,reduceCtorEq,jE,jF]
    have hG2:G (nx1+2)=some (.arr (.agg 2) [.agg [.int .i64 ar, .sl .leaf ow (lsV (aQ (dD ar fl).1))]]):=by rw[←hG];simp only[m2,go_sem,reduceIte,jA,jB,jC,jD,reduceCtorEq,jE,jF]
    have hGs:Kb nx h G:=by rw[←hG];exact kep hk
    have aEU:=hdm;have aAr:Acc G (nx+1) om (S.map nmD):=by
     rcases aAr with q|⟨q1,id,q2,q3,q4⟩
     ·exact .inl q
     have:=hdm _ _ q4;refine .inr ⟨q1,id,q2,q3,?_⟩;rw[←hG];simp only[Hp.set];repeat rw[if_neg or]
     exact q4
    have hdm:aV G (nx1+5):=by rw[←hG];exact dmo aEU
    clear hG;have aDx:∀H:Hp,H.aBK om nx=H nx:=fun H=>qV fun id e=>by have:=aAr.ge id e;omega
    have l1:nx1<nx1+5:=or;have l2:nx1+2<nx1+5:=or;refine aue (e8 hSm aWO hvf hw hG1 hG2 l1 l2) ?_;rw[←hQ];exact aG (i+1,n+fl.length,S++[Sr.mk fr ar (dD ar fl).1], .tok (nx1+6)) Zw ⟨hlt,or,dmo hdm,Fb hGs aAr,⟨ES,c+1,by simp only[aDx,hG0,(fls:(nx=nx1+5)=False),(fls:(nx=nx1+6)=False),go_sem,reduceIte,jA,jB,jC,jD,reduceCtorEq,jE,jF],aUs,aUu⟩,by dsimp only;rw[aOs];exact Acc.new _ Zm or,hmt,by dsimp only;simp;omega,Zw⟩ (by simp only[WkL,aD,jH,jI,jJ,hw,aOs,go_sem,reduceIte,jA,jB,jC,jD,reduceCtorEq,jE,jF])
  have q5:ofP ar fl= .nilPtr:=by unfold ofP;rw[if_neg t5]
  have q6:d3P ar fl=eQ 0 []:=by unfold d3P;rw[if_neg t5]
  have q0:eQ 0 []= .agg [.int .i64 0, .sl .leaf .nil []]:=rfl;rw[q5] at C2;rw[q6,q0] at C3;rw[decide_eq_false t5] at hve;refine aue (e11 hc hg hlt hml aE9 jG hwn g1 g2 g3 hve) ?_;rw[←hQ];refine au ?_;refine bU _ (Ka _) ⟨?_,by exact kep hk⟩;rw[←hmt,if_pos (.inr (.inr (.inr (.inr (.inl t5)))))];rfl
 have hc:decide ((i:Int)<(l.length:Int))=false:=dcf;rw[Km or] at hmt;refine aue hc ?_;rw[←hQ];refine au ?_;refine bU H (Ka _) ⟨?_,hk⟩;rw[←hmt];exact⟨nx,es,c,om,rfl,Ku _,hm1,hst,hse⟩
end Go.Proofs.YtlhedpgobaellaaGreatDoor
