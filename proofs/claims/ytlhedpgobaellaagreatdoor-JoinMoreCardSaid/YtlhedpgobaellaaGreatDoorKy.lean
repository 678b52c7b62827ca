/-
Texts of this proof,one behind the other. No conditions.
-/
import Derived.Test.YtlhedpgobaellaaGreatDoorKx
open Go.Proofs.YtlhedpgobaellaaGreatDoor.Hp renaming le_refl→Ka,same→Kb
open List renaming map_cons→Kc,mem_cons_of_mem→Kd,map_nil→Ke,mem_cons_self→Kf,mem_cons→Kg,mem_map→Kh,map_append→Ki,mem_singleton→Kj,drop_eq_getElem_cons→Kk,drop_of_length_le→Km,getD_cons_zero→Kp,nodup_append→Kq,getElem_mem→Ks,length_cons→Kt,nodup_cons→Ku
open Nat renaming zero_le→Ko,lt_or_ge→Kv
open Option renaming map→Kw
open Nat renaming reduceAdd→jA,reduceSub→jB,reduceLT→jC,reduceLeDiff→jD,reduceEqDiff→jE
open Int renaming reduceToNat→jF,toNat_natCast→jG,natCast_add→jH,natCast_one→jI,natCast_zero→jJ
open List renaming length_map→jK
set_option linter.all false
set_option maxHeartbeats 8000000
namespace Go.Proofs.YtlhedpgobaellaaGreatDoor
open Go.RowKit Go.Sort
attribute [local irreducible] IntKind.wrap
theorem uX{t u w n:Nat}{k:Sh}{x:V}{R:V→Hp→Nat→Prop}{s:St}(hx:s.sl.getD t V.undef= .ptr n k 0 0)(hn:s.h n=some (.arr k [x]))(hf:x.fits k=true)(h':Hp)(hle:h'.le s.h)(hR:R (.tup [x,s.sl.getD u V.undef,s.sl.getD w V.undef]) h' s.nx):sC [.cell t k, .slot u, .slot w] R .ret s:=by
 simp only[sC,mE,zJ.sem,aY.sem,aK.ev,hx,hn];refine⟨?_,Zm,qA _,h',hle,?_⟩
 ·trivial
 have e:=bU hf;simp only[Kp,e];exact hR
theorem fV(ar:Int)(ls:List (List Vl)):(fC ar ls).loose=fC ar ls:=by
 unfold fC;cases ls<;>rfl
theorem zw(ar:Int)(zs:List TR)(hr:eB ar zs)(p:TR)(hl:p.2.length≤1000000)(hz:∀v∈p.2,v.s.size≤9223372036854775807)(h:Hp):
 aL Tryz.prog 87 [fC ar (aP zs),p.v] h (.tup [fC ar (aP (nS ar zs p).1), .bool (nS ar zs p).2.1, .int .i64 (nS ar zs p).2.2]):=by
 refine fO (fun L=>⟨oT _ _ L,trivial,trivial,trivial⟩) fun h' nx hh=>aB L.aYp fun hd=>?_;have hzl:=hr.len;have hrw:∀t∈aP zs,t.length≤6:=fun t ht=>by
  obtain⟨z,q,rfl⟩:=Kh.1 ht;have:=(hr.row z q).1;unfold pQ at this;simp only[Bool.and_eq_true,decide_eq_true_eq] at this;exact this.1
 have hrl:(aP zs).length=zs.length:=jK ..;obtain⟨o,t⟩:=p;have hv:TR.v (o,t)= .sl (.agg 3) o (t.map Vl.v):=rfl;rw[hv];have hl:t.length≤1000000:=hl;have C1:=fun h=>j4 ar (aP zs) or (fun q hq=>by have:=hrw q hq;omega) o t or h;have C2:=nz o t hl hz;have C3:=fun h=>Bu ar (aP zs) hr.str or (fun q hq=>by have:=hrw q hq;omega) o t hl h;have hfz:=jY ar (aP zs);have hml:=@jK Vl V t Vl.v;have hll:(lsV (aP zs)).length=zs.length:=by rw[jK,hrl]
 obtain⟨ow,how⟩:=eH .leaf (lsV (aP zs));have hrv:fC ar (aP zs)= .agg [.int .i64 ar, .sl .leaf ow (lsV (aP zs))]:=by rw[fC,how]
 have hlo:=fV ar (aP zs);unfold nS;dsimp only;refine ZK ?_;by_cases h1:(t.length:Int)=ar
 ·have g1:((t.length:Int) != ar)=false:=bnf;rw[if_neg (by simpa using h1)];cases h2:pQ t with
  |false=>
   rw[h2] at C2;rw[if_pos rfl];rw[hrv] at C1 C3 hfz hlo⊢;refine aue (e3 hml g1 hfz) ?_;refine uX rfl (by simp only[go_sem,reduceIte,jA,jB,jC,jD,reduceCtorEq,jE,jF]) hfz _ (leo hd) ⟨?_,Ka _⟩;rw[←hrv];simp only[V.loose,Kc,Ke,fV,go_sem,reduceIte,jA,jB,jC,jD,reduceCtorEq,jE,jF]
  |true=>
   rw[h2] at C2;rw[if_neg Zm];cases h3:tF (aP zs) t with
   |true=>
    rw[decide_eq_true (vR.1 h3)] at C1;rw[if_pos rfl];rw[hrv] at C1 C3 hfz hlo⊢;refine aue (e3 hml g1 hfz) ?_;refine uX rfl (by simp only[go_sem,reduceIte,jA,jB,jC,jD,reduceCtorEq,jE,jF]) hfz _ (leo hd) ⟨?_,Ka _⟩;rw[←hrv];simp only[V.loose,Kc,Ke,fV,go_sem,reduceIte,jA,jB,jC,jD,reduceCtorEq,jE,jF]
   |false=>
    have hni:t∉aP zs:=fun e=>by rw[vR.2 e] at h3;cases h3
    rw[decide_eq_false hni] at C1;rw[if_neg Zm];by_cases h4:2000≤zs.length
    ·have g4:((zs.length:Int)==2000)=true:=bqt;rw[if_pos h4];rw[hrv] at C1 C3 hfz hlo⊢;refine aue (e5 hml g1 hfz hll g4) ?_;refine uX rfl (by simp only[go_sem,reduceIte,jA,jB,jC,jD,reduceCtorEq,jE,jF]) hfz _ (leo hd) ⟨?_,Ka _⟩;rw[←hrv];simp only[V.loose,Kc,Ke,fV,go_sem,reduceIte,jA,jB,jC,jD,reduceCtorEq,jE,jF]
    have g4:((zs.length:Int)==2000)=false:=bqf;rw[if_neg h4];have aD5:=mc (p:=(o,t)) hr.str hni;have hf2:=jY ar (jR cM t (aP zs));have hY2:=fV ar (jR cM t (aP zs));rw[aD5];rw[hrv] at C1 C3 hfz hlo⊢;dsimp only;generalize fC ar (jR cM t (aP zs))=Y at*;refine aue (e6 hml g1 hfz hll g4 hf2) ?_;refine uX rfl (by simp only[hf2,go_sem,reduceIte,jA,jB,jC,jD,reduceCtorEq,jE,jF]) hf2 _ (leo hd) ⟨?_,Ka _⟩;simp only[V.loose,Kc,Ke,hY2,go_sem,reduceIte,jA,jB,jC,jD,reduceCtorEq,jE,jF]
 have g1:((t.length:Int) != ar)=true:=bnt;rw[if_pos h1];rw[hrv] at C1 C3 hfz hlo⊢;refine aue (e3 hml g1 hfz) ?_;refine uX rfl (by simp only[go_sem,reduceIte,jA,jB,jC,jD,reduceCtorEq,jE,jF]) hfz _ (leo hd) ⟨?_,Ka _⟩;rw[←hrv];simp only[V.loose,Kc,Ke,fV,go_sem,reduceIte,jA,jB,jC,jD,reduceCtorEq,jE,jF]
def d3P(ar:Int)(l:List TR):V:=if (dJ ar l).2=0 then fC ar (aP (dJ ar l).1) else fC 0 []
theorem Cr(ar:Int)(o:Own)(l:List TR)(hl:l.length≤1000000)(hp:∀p∈l,(p.1= .nil→p.2=[])∧p.2.length≤1000000∧∀v∈p.2,v.s.size≤9223372036854775807)(h:Hp):
 aL Tryz.prog 40 [.int .i64 ar, .sl .leaf o (l.map TR.v)] h (.tup [d3P ar l, .int .i64 (dJ ar l).2]):=by
 refine fO (fun L=>⟨by unfold d3P;split;exact oT _ _ L;exact oT _ _ L,trivial,trivial⟩) fun h' nx hh=>aB L.aZL fun hd=>?_;have hml:(l.map TR.v).length=l.length:=jK ..;have hl0:=fV 0 [];have hf0:=jY 0 [];have e0:fC 0 []= .agg [.int .i64 0, .sl .leaf .nil []]:=rfl;refine ZK ?_;by_cases h1:ar<0
 ·have hR:dJ ar l=([],6):=by unfold dJ;rw[if_pos (.inl h1)]
  have hd3:d3P ar l=fC 0 []:=by unfold d3P;rw[hR];rfl
  rw[hd3,hR,e0];have g1:decide (ar<0)=true:=decide_eq_true h1;refine aue g1 ?_;refine bJ (by simp only[go_sem,reduceIte,jA,jB,jC,jD,reduceCtorEq,jE,jF]) h' (leo hd) ⟨?_,leo hd⟩;refine Zn ?_;rfl
 have g1:decide (ar<0)=false:=decide_eq_false h1;by_cases h2:6<ar
 ·have hR:dJ ar l=([],6):=by unfold dJ;rw[if_pos (.inr h2)]
  have hd3:d3P ar l=fC 0 []:=by unfold d3P;rw[hR];rfl
  rw[hd3,hR,e0];have g2:decide (6<ar)=true:=decide_eq_true h2;refine aue (e2 g1 g2) ?_;refine bJ (by simp only[go_sem,reduceIte,jA,jB,jC,jD,reduceCtorEq,jE,jF]) h' (leo hd) ⟨?_,leo hd⟩;refine Zn ?_;rfl
 have g2:decide (6<ar)=false:=decide_eq_false h2;have hR:dJ ar l=ofT ar [] l:=by unfold dJ;rw[if_neg or]
 have hP:d3P ar l=if (ofT ar [] l).2=0 then fC ar (aP (ofT ar [] l).1) else fC 0 []:=by unfold d3P;rw[hR]
 rw[hR,hP];obtain⟨RES,aA4⟩:∃R,ofT ar [] l=R:=⟨_,rfl⟩;rw[aA4];refine aue (e2 g1 g2) ?_
 refine aQ (fun q:Nat×List TR=>aD 42 0 [(0, .int .i64 ar),(1, .sl .leaf o (l.map TR.v)),(4, .ptr nx (.agg 2) 0 0),(5, .int .i64 0),(6, .ptr (nx+1) (.agg 2) 0 0),(7, .int .i64 q.1)])
  (fun q hp nx1=>q.1≤l.length∧nx+1<nx1∧aV hp nx1∧eB ar q.2∧ofT ar q.2 (l.drop q.1)=RES∧Kb nx h' hp∧hp nx=some (.arr (.agg 2) [fC 0 []])∧hp (nx+1)=some (.arr (.agg 2) [fC ar (aP q.2)]))
  (fun q=>l.length-q.1) (0,[]) ⟨Ko _,Zw,by exact dmo hd,oC ar,aA4,by exact kep Hp.same.aAz,by simp only[e0,go_sem,reduceIte,jA,jB,jC,jD,reduceCtorEq,jE,jF],by simp only[go_sem,reduceIte,jA,jB,jC,jD,reduceCtorEq,jE,jF];rfl⟩ (by simp only[WkL,aD,jH,jI,jJ,go_sem,reduceIte,jA,jB,jC,jD,reduceCtorEq,jE,jF]) ?_
 rintro⟨i,zs⟩ H nx1 ⟨hi,hnx,hdm,hro,hof,hsm,hb0,hb1⟩;generalize hQ:bB _ _ _ _ _=Q0;dsimp only at hi hro hof hb1;refine Zk ?_;have hle:=hsm.le hd (Ka _);have n1:nx+1<nx1:=or;have n0:nx<nx1:=or;rcases Kv i l.length with hlt|hge
 ·have hc:decide ((i:Int)<(l.length:Int))=true:=dct;have hg:=aN TR.v l i hlt;have hw:IntKind.i64.wrap ((i:Int)+1)=((i+1:Nat):Int):=wrp;rw[Kk hlt,sj] at hof
  obtain⟨hp1,hp2,hp3⟩:=hp l[i] (Ks hlt);have D1:=fun h=>zw ar zs hro l[i] hp2 hp3 h;have aGl:=hro.add hp1;have hfp:=TR.aAD l[i];generalize l[i].v=pv at*;generalize nS ar zs l[i]=P at*;have hf1:=jY ar (aP zs);have hf2:=jY ar (aP P.1);generalize fC ar (aP zs)=X1 at*;obtain⟨X2,hX2⟩:∃X2,fC ar (aP P.1)=X2:=⟨_,rfl⟩;rw[hX2] at hf2 D1;rw[e0] at hb0;have m1:(nx+1=nx1+10)=False:=fls;have m0:(nx=nx1+10)=False:=fls;by_cases he:P.2.2=0
  ·have g:(P.2.2 != 0)=false:=bnf;rw[if_neg (by simpa using he)] at hof
   refine aue (e11 hc hg hlt hml jG hfp hb1 n1 hf1 hf2 (e2 hb0 n0)) ?_;refine fj (D1 _) rfl (aH _) ?_;refine aue (e12 hc g hw hlt hml jG hb1 n1 hf1 hf2 m1 (e3 hb0 n0 m0)) ?_;rw[←hQ];exact aF (i+1,P.1) Zw ⟨hlt,or,dmo hdm,aGl,hof,kep hsm,by rw[e0];simp only[hb0,n0,m0,go_sem,reduceIte,jA,jB,jC,jD,reduceCtorEq,jE,jF],by dsimp only;rw[hX2];simp only[go_sem,reduceIte,jA,jB,jC,jD,reduceCtorEq,jE,jF]⟩ (by simp only[WkL,aD,jH,jI,jJ,hw,go_sem,reduceIte,jA,jB,jC,jD,reduceCtorEq,jE,jF])
  have g:(P.2.2 != 0)=true:=bnt;rw[if_pos he] at hof
  refine aue (e11 hc hg hlt hml jG hfp hb1 n1 hf1 hf2 (e2 hb0 n0)) ?_;refine fj (D1 _) rfl (aH _) ?_;refine aue (e12 hc g hw hlt hml jG hb1 n1 hf1 hf2 m1 (e3 hb0 n0 m0)) ?_;rw[←hQ];refine au ?_;refine bJ (by simp only[m0,go_sem,reduceIte,jA,jB,jC,jD,reduceCtorEq,jE,jF]) _ (Ka _) ⟨?_,lef hd hle⟩;simp only[m0,go_sem,reduceIte,jA,jB,jC,jD,reduceCtorEq,jE,jF];rw[←hof];dsimp only;rw[if_neg he];rfl
 have hc:decide ((i:Int)<(l.length:Int))=false:=dcf;rw[Km or] at hof
 have hR2:RES=(zs,0):=hof.symm;have hfz:=jY ar (aP zs);have hlz:=fV ar (aP zs);rw[←hQ,hR2,if_pos rfl];dsimp only;generalize fC ar (aP zs)=Y at*;rw[e0] at hb0;refine aue (e7 hc hml hb1 n1 n0 hfz hb0) ?_;refine bJ (by simp only[hfz,go_sem,reduceIte,jA,jB,jC,jD,reduceCtorEq,jE,jF]) _ (Ka _) ⟨?_,lef hd hle⟩;simp only[hfz,V.loose,Kc,Ke,hlz,go_sem,reduceIte,jA,jB,jC,jD,reduceCtorEq,jE,jF]
end Go.Proofs.YtlhedpgobaellaaGreatDoor
namespace Go.Proofs.YtlhedpgobaellaaGreatDoor
open Go.RowKit Go.Sort
def meS(p:Sr×Nat):ME:=⟨.str p.1.r,p.1.v,p.2⟩
def pu(es:List ME)(c:Nat)(S:List Sr):Prop:=∃T:List (Sr×Nat),es=T.map meS∧T.map Prod.fst=S∧(T.map Prod.snd).Nodup∧(∀p∈T,p.2<c)∧(S.map Sr.r).Nodup
theorem C9:pu [] 0 []:=⟨[],rfl,rfl,Zm,Zm,Zm⟩
theorem s9{x:ByteArray}:∀{S:List Sr},lkS x S=none→∀s∈S,s.r≠x
 |b::l,h,s,hs=>by
  unfold lkS at h;split at h
  ·cases h
  rename_i hb;rcases Kg.1 hs with rfl|hs
  ·exact hb
  exact s9 h s hs
theorem DU{x:ByteArray}:∀{S:List Sr},(∀s∈S,s.r≠x)→lkS x S=none
 | [],_=>rfl
 |b::l,h=>by
  unfold lkS;rw[if_neg (h b Kf)];exact DU fun s hs=>h s (Kd _ hs)
theorem pu.add{es:List ME}{c:Nat}{S:List Sr}(h:pu es c S){t:Sr}(hk:lkS t.r S=none):pu (es++[⟨.str t.r,t.v,c⟩]) (c+1) (S++[t]):=by
 obtain⟨T,rfl,rfl,h3,h4,h5⟩:=h;refine⟨T++[(t,c)],by rw[Ki];rfl,by rw[Ki];rfl,?_,fun p hp=>?_,?_⟩
 ·rw[Ki,Kq];refine⟨h3,Zm,fun a ha b hb=>?_⟩;obtain⟨p,hp,rfl⟩:=Kh.1 ha;simp only[Kc,Ke,Kj] at hb;subst hb;have:=h4 p hp;omega
 ·rcases List.mem_append.1 hp with hp|hp
  ·have:=h4 p hp;omega
  rw[Kj] at hp;subst hp;exact Nat.lt_succ_self c
 rw[Ki,Kq];refine⟨h5,Zm,fun a ha b hb=>?_⟩;obtain⟨s,hs,rfl⟩:=Kh.1 ha;simp only[Kc,Ke,Kj] at hb;subst hb;exact s9 hk s hs
theorem kM{S:List Sr}(hn:(S.map Sr.r).Nodup){x:ByteArray}{s:Sr}:lkS x S=some s↔s∈S∧s.r=x:=by
 induction S with
 |nil=>simp[lkS]
 |cons a S ih=>
  rw[Kc,Ku] at hn;unfold lkS;split
  ·rename_i e;simp only[Option.some.injEq,Kg];constructor
   ·rintro rfl;exact⟨.inl rfl,e⟩
   rintro⟨h|h,q⟩
   ·exact h.symm
   exact absurd (Kh.2 ⟨_,h,q.trans e.symm⟩) hn.1
  rename_i e;rw[ih hn.2,Kg];exact⟨fun h=>⟨.inr h.1,h.2⟩,fun h=>⟨h.1.resolve_left fun q=>e (q▸h.2),h.2⟩⟩
theorem s8{A B:List Sr}(h:A.Perm B)(hn:(A.map Sr.r).Nodup)(x:ByteArray):lkS x A=lkS x B:=by
 have hn2:(B.map Sr.r).Nodup:=(h.map Sr.r).nodup_iff.1 hn;cases hA:lkS x A with
 |some w=>exact((kM hn2).2 ⟨h.mem_iff.1 ((kM hn).1 hA).1,((kM hn).1 hA).2⟩).symm
 |none=>
  cases hB:lkS x B with
  |none=>rfl
  |some w=>rw[(kM hn).2 ⟨h.mem_iff.2 ((kM hn2).1 hB).1,((kM hn2).1 hB).2⟩] at hA;cases hA
def cpE(x0:ByteArray)(P:V):Nat→List Sr→List ME
 |_,[]=>[]
 |i,s::r=>⟨.str s.r,if s.r=x0 then P else s.v,i⟩::cpE x0 P (i+1) r
theorem FU(x0:ByteArray)(P:V):∀(S:List Sr) (i:Nat),(cpE x0 P i S).length=S.length
 | [],_=>rfl
 |_::r,i=>by simp[cpE,FU x0 P r]
theorem u7(x0:ByteArray)(P:V)(t:Sr):∀(S:List Sr) (i:Nat),cpE x0 P i (S++[t])=cpE x0 P i S++[⟨.str t.r,if t.r=x0 then P else t.v,i+S.length⟩]
 | [],_=>rfl
 |_::r,i=>by
  simp only[List.cons_append,cpE,u7 x0 P t r,Kt];rw[show i+1+r.length=i+(r.length+1) by omega]
theorem xR{x0:ByteArray}{P P':V}:∀{S:List Sr} {i:Nat},(∀s∈S,s.r≠x0)→cpE x0 P i S=cpE x0 P' i S
 | [],_,_=>rfl
 |s::r,i,h=>by
  unfold cpE;rw[if_neg (h s Kf),if_neg (h s Kf),xR (P':=P') fun t ht=>h t (Kd _ ht)]
theorem wB(x0:ByteArray)(P:V)(x:ByteArray):∀(S:List Sr) (i:Nat),(match lkS x S with
 |none=>bM (.plain .leaf [.str]) (.str x) (cpE x0 P i S)=some none
 |some s=>∃j,bM (.plain .leaf [.str]) (.str x) (cpE x0 P i S)=some (some j)∧((cpE x0 P i S).getD j default).v=(if x=x0 then P else s.v)∧j<(cpE x0 P i S).length)
 | [],_=>rfl
 |s::S,i=>by
  have ih:=wB x0 P x S (i+1);simp only[lkS,cpE,bM];rw[zL];by_cases h:s.r=x
  ·rw[if_pos h,decide_eq_true h.symm];exact⟨0,rfl,by rw[←h];rfl,Zm⟩
  rw[if_neg h,decide_eq_false (fun q=>h q.symm)];cases hk:lkS x S with
  |none=>
   rw[hk] at ih;show Kw _ (bM _ _ (cpE x0 P (i+1) S))=_;rw[ih];rfl
  |some w=>
   rw[hk] at ih;obtain⟨j,h1,h2,h3⟩:=ih;refine⟨j+1,?_,h2,by simpa using h3⟩;show Kw _ (bM _ _ (cpE x0 P (i+1) S))=_;rw[h1];rfl
theorem AZ{x0:ByteArray}{P P':V}:∀{S:List Sr} {i:Nat},(S.map Sr.r).Nodup→(∃s∈S,s.r=x0)→∃j,j<(cpE x0 P i S).length∧((cpE x0 P i S).getD j default).v=P∧(cpE x0 P i S).set j ⟨((cpE x0 P i S).getD j default).k,P',((cpE x0 P i S).getD j default).b⟩=cpE x0 P' i S
 | [],_,_,h=>by obtain⟨s,hs,_⟩:=h;cases hs
 |s::r,i,hn,h=>by
  rw[Kc,Ku] at hn;by_cases e:s.r=x0
  ·refine⟨0,by simp[cpE],by simp[cpE,e],?_⟩;unfold cpE;rw[if_pos e,if_pos e,Kp,List.set_cons_zero,xR (P':=P') fun t ht q=>hn.1 (Kh.2 ⟨t,ht,q.trans e.symm⟩)]
  obtain⟨t,ht,q⟩:=h;obtain⟨j,h1,h2,h3⟩:=AZ (P:=P) (P':=P') (S:=r) (i:=i+1) hn.2 ⟨t,(Kg.1 ht).resolve_left (fun h=>e (h▸q)),q⟩;refine⟨j+1,by simp only[cpE,Kt];omega,by simpa [cpE] using h2,?_⟩;unfold cpE;rw[if_neg e,if_neg e,List.getD_cons_succ,List.set_cons_succ,h3]
def wP(x:ByteArray)(z:List TR):List Sr→List Sr
 | []=>[]
 |s::r=>if s.r=x then {s with zs:=z}::r else s::wP x z r
theorem ot(x:ByteArray)(z:List TR)(y:ByteArray):∀S:List Sr,lkS y (wP x z S)=if y=x then (lkS x S).map (fun s=>{s with zs:=z}) else lkS y S
 | []=>by simp[wP,lkS]
 |s::r=>by
  unfold wP;by_cases e:s.r=x
  ·rw[if_pos e];by_cases q:y=x
   ·rw[if_pos q];simp only[lkS];rw[if_pos (by simpa [q] using e),if_pos e];rfl
   rw[if_neg q];simp only[lkS];rw[if_neg (fun h=>q (h.symm.trans e)),if_neg (fun h=>q (h.symm.trans e))]
  rw[if_neg e];simp only[lkS];rw[if_neg e,ot x z y r];by_cases q:y=x
  ·rw[if_pos q,if_neg (fun h=>e (h.trans q)),if_pos q]
  rw[if_neg q,if_neg q]
theorem qn{x:ByteArray}{z:List TR}:∀{S:List Sr} {s:Sr},s∈wP x z S→s∈S∨∃s0∈S,s0.r=x∧lkS x S=some s0∧s={s0 with zs:=z}
 | [],s,h=>by cases h
 |a::r,s,h=>by
  unfold wP at h;by_cases e:a.r=x
  ·rw[if_pos e] at h;rcases Kg.1 h with rfl|q
   ·exact .inr ⟨a,Kf,e,by simp[lkS,e],rfl⟩
   exact .inl (Kd _ q)
  rw[if_neg e] at h;rcases Kg.1 h with rfl|q
  ·exact .inl Kf
  rcases qn q with p|⟨s0,p1,p2,p3,p4⟩
  ·exact .inl (Kd _ p)
  exact .inr ⟨s0,Kd _ p1,p2,by simp[lkS,e,p3],p4⟩
theorem Cs{x0:ByteArray}{S S2:List Sr}(hp:S2.Perm S)(hn:(S.map Sr.r).Nodup){s0:Sr}(h0:lkS x0 S=some s0)(z:List TR):fH (cpE x0 (jS s0.ar z) 0 S2) (wP x0 z S):=by
 intro x;have h:=wB x0 (jS s0.ar z) x S2 0;rw[s8 hp ((hp.map Sr.r).nodup_iff.2 hn)] at h;rw[ot];by_cases e:x=x0
 ·subst e;rw[h0] at h;rw[if_pos rfl,h0];obtain⟨j,h1,h2,h3⟩:=h;rw[if_pos rfl] at h2;exact⟨j,h1,h2,h3⟩
 rw[if_neg e];cases k:lkS x S with
 |none=>rw[k] at h;exact h
 |some s=>
  rw[k] at h;simp only[if_neg e] at h;exact h
end Go.Proofs.YtlhedpgobaellaaGreatDoor
namespace Go.Proofs.YtlhedpgobaellaaGreatDoor
open Go.RowKit Go.Sort
attribute [local irreducible] IntKind.wrap
structure Fc where
 r:ByteArray
 ar:Int
 o:Own
 l:List TR
def Fc.v(f:Fc):V:= .agg [.str f.r, .int .i64 f.ar, .sl .leaf f.o (f.l.map TR.v)]
def nmD(s:Sr):V:= .agg [.str s.r, .int .i64 s.ar,lst .leaf (lsV (aP s.zs))]
def yU:Nat→Nat→List Sr→List Fc→Option (List Sr)
 |_,_,S,[]=>some S
 |i,n,S,f::r=>if 12<i∨80<n+f.l.length∨40<f.r.size∨qI 0 (aP f.l)=true∨(dJ f.ar f.l).2≠0∨lkS f.r S≠none then none
  else yU (i+1) (n+f.l.length) (S++[⟨f.r,f.ar,(dJ f.ar f.l).1⟩]) r
theorem rD(i n:Nat)(S:List Sr)(f:Fc)(r:List Fc):yU i n S (f::r)=if 12<i∨80<n+f.l.length∨40<f.r.size∨qI 0 (aP f.l)=true∨(dJ f.ar f.l).2≠0∨lkS f.r S≠none then none
 else yU (i+1) (n+f.l.length) (S++[⟨f.r,f.ar,(dJ f.ar f.l).1⟩]) r:=rfl
def HA(r:Option (List Sr))(nx:Nat)(v:V)(h':Hp):Prop:=match r with
 |none=>v= .tup [.aAH, .sl (.agg 3) .nil [], .bool false]
 |some S=>∃N es c o,v= .tup [.map N, .sl (.agg 3) o (S.map nmD), .bool true]∧nx≤N∧h' N=some (.mp es c)∧fH es S∧pu es c S
def Fc.ok(f:Fc):Prop:=f.l.length≤140737488355328∧∀p∈f.l,(p.1= .nil→p.2=[])∧∀v∈p.2,v.s.size≤9223372036854775807
theorem tU(o:Own)(l:List Fc)(hl:l.length≤140737488355328)(hok:∀f∈l,f.ok)(h:Hp)(nx:Nat):
 aR Tryz.prog 8 [.sl (.agg 3) o (l.map Fc.v)] h nx fun v h' _=>HA (yU 0 0 [] l) nx v h'∧∀k,k<nx→h' k=h k:=by
 refine aB L.g2z fun hd=>?_;have hd:aV h nx:=hd;have hml:(l.map Fc.v).length=l.length:=jK ..;obtain⟨RES,aA4⟩:∃R,yU 0 0 [] l=R:=⟨_,rfl⟩;rw[aA4];refine ZK ?_;refine aue hml ?_;refine oF ?_;refine aue hml ?_
 refine aQ (fun q:Nat×Nat×List Sr×Own=>aD 94 0 [(2, .aAH),(3, .sl (.agg 3) .nil []),(4, .bool false),(5, .map nx),(6, .sl (.agg 3) q.2.2.2 (q.2.2.1.map nmD)),(7, .int .i64 q.2.1),(17, .sl (.agg 3) o (l.map Fc.v)),(18, .int .i64 l.length),(19, .int .i64 q.1)])
  (fun q hp nx1=>q.1≤l.length∧nx<nx1∧aV hp nx1∧Kb nx h hp∧(∃es c,hp nx=some (.mp es c)∧fH es q.2.2.1∧pu es c q.2.2.1)∧Acc hp (nx+1) q.2.2.2 (q.2.2.1.map nmD)∧yU q.1 q.2.1 q.2.2.1 (l.drop q.1)=RES∧q.2.2.1.length≤q.1∧q.2.1≤80)
  (fun q=>l.length-q.1) (0,0,[], .nil) ⟨Ko _,Zw,by exact dmo hd,by exact kep Hp.same.aAz,⟨[],0,by simp only[go_sem,reduceIte,jA,jB,jC,jD,reduceCtorEq,jE,jF],ra,C9⟩, .inl ⟨rfl,rfl⟩,aA4,Ko _,Ko _⟩ (by simp only[WkL,aD,jH,jI,jJ,hml,go_sem,reduceIte,jA,jB,jC,jD,reduceCtorEq,jE,jF]) ?_
 rintro⟨i,n,S,om⟩ H nx1 ⟨hi,hnx,hdm,hk,⟨es,c,hm1,hst,hse⟩,aAs,hmt,hSl,aW1⟩;generalize hQ:bB _ _ _ _ _=Q0;dsimp only at hi aAs hst hmt hSl aW1;refine Zk ?_;rcases Kv i l.length with hlt|hge
 ·have hc:decide ((i:Int)<(l.length:Int))=true:=dct;have hg:=aN Fc.v l i hlt;have hw:IntKind.i64.wrap ((i:Int)+1)=((i+1:Nat):Int):=wrp;rw[Kk hlt,rD] at hmt;obtain⟨hf1,hf2⟩:=hok l[i] (Ks hlt);generalize l[i]=F at*;obtain⟨fr,ar,fo,fl⟩:=F;have hFv:(Fc.mk fr ar fo fl).v= .agg [.str fr, .int .i64 ar, .sl .leaf fo (fl.map TR.v)]:=rfl;rw[hFv] at hg;dsimp only at hmt hf1 hf2;have hwn:IntKind.i64.wrap ((n:Int)+(fl.length:Int))=((n+fl.length:Nat):Int):=wrp;have aFT:(fl.map TR.v).length=fl.length:=jK ..;have n1:nx<nx1:=hnx;by_cases t1:12<i
  ·have g1:decide ((i:Int)>12)=true:=dct;refine aue (e8 hc hg hlt hml aFT jG hwn g1) ?_;rw[←hQ];refine au ?_;refine bX _ (Ka _) ⟨?_,by exact kep hk⟩;rw[←hmt,if_pos (.inl t1)];rfl
  have g1:decide ((i:Int)>12)=false:=dcf;by_cases t2:80<n+fl.length
  ·have g2:decide (((n+fl.length:Nat):Int)>80)=true:=dct;refine aue (e9 hc hg hlt hml aFT jG hwn g1 g2) ?_;rw[←hQ];refine au ?_;refine bX _ (Ka _) ⟨?_,by exact kep hk⟩;rw[←hmt,if_pos (.inr (.inl t2))];rfl
  have g2:decide (((n+fl.length:Nat):Int)>80)=false:=dcf;by_cases t3:40<fr.size
  ·have g3:decide ((fr.size:Int)>40)=true:=dct;refine aue (e10 hc hg hlt hml aFT jG hwn g1 g2 g3) ?_;rw[←hQ];refine au ?_;refine bX _ (Ka _) ⟨?_,by exact kep hk⟩;rw[←hmt,if_pos (.inr (.inr (.inl t3)))];rfl
  have g3:decide ((fr.size:Int)>40)=false:=dcf;have C1:=fun h=>lf fo fl or h;cases t4:qI 0 (aP fl) with
  |true=>
   rw[t4] at C1;refine aue (e10 hc hg hlt hml aFT jG hwn g1 g2 g3) ?_;rw[←hQ];refine au ?_;refine bX _ (Ka _) ⟨?_,by exact kep hk⟩;rw[←hmt,if_pos (.inr (.inr (.inr (.inl t4))))];rfl
  |false=>
  rw[t4] at C1;have h50:∀p∈fl,p.2.length≤50:=fun p hp=>xE _ _ t4 _ (Kh.2 ⟨p,hp,rfl⟩);have C2:=fun h=>Di ar fo fl or (fun p hp=>⟨(hf2 p hp).1,by have:=h50 p hp;omega⟩) h;have C3:=fun h=>Cr ar fo fl or (fun p hp=>⟨(hf2 p hp).1,by have:=h50 p hp;omega,(hf2 p hp).2⟩) h;have hve:=eK (dJ ar fl).2;by_cases t5:(dJ ar fl).2=0
  ·have q5:ofP ar fl=jS ar (dJ ar fl).1:=by unfold ofP;rw[if_pos t5]
   have q6:d3P ar fl=fC ar (aP (dJ ar fl).1):=by unfold d3P;rw[if_pos t5]
   rw[t5] at C2 C3 hve;rw[q5] at C2;rw[q6] at C3;rw[decide_eq_true rfl] at hve;have hmt:=hmt;have hvp:veq .ptr (jS ar (dJ ar fl).1) .nilPtr=some false:=rfl;have hpl:(jS ar (dJ ar fl).1).aAE=true:=rfl;have hvf:=jY ar (aP (dJ ar fl).1);obtain⟨ow,how⟩:=eH .leaf (lsV (aP (dJ ar fl).1));have hrv:fC ar (aP (dJ ar fl).1)= .agg [.int .i64 ar, .sl .leaf ow (lsV (aP (dJ ar fl).1))]:=by rw[fC,how]
   have hnd:nmD ⟨fr,ar,(dJ ar fl).1⟩= .agg [.str fr, .int .i64 ar, .sl .leaf ow (lsV (aP (dJ ar fl).1))]:=by rw[nmD,how]
   rw[hrv] at C3 hvf;have hx:=hst fr;cases t6:lkS fr S with
   |some w=>
    rw[t6] at hx;obtain⟨j,hj1,hj2,hj3⟩:=hx;have hzz:((0:Int) != 0)=false:=rfl;have hg0:iY true .nilPtr es (some j)= .tup [w.v, .bool true]:=by rw[←hj2];rfl
    generalize jS ar (dJ ar fl).1=PR at*;refine aue (e12 hc hg hlt hml aFT jG hwn g1 g2 g3 hve (e8 hvp hvf hm1 n1 hj1 hg0 hpl hzz)) ?_;rw[←hQ];refine au ?_;refine bX _ (Ka _) ⟨?_,by exact kep hk⟩;rw[←hmt,if_pos (.inr (.inr (.inr (.inr (.inr (by rw[t6];simp))))))];rfl
   |none=>
    rw[t6] at hx;have hg0:iY true .nilPtr es none= .tup [.nilPtr, .bool false]:=rfl;have hmt:yU (i+1) (n+fl.length) (S++[(Sr.mk fr ar (dJ ar fl).1)]) (l.drop (i+1))=RES:=by
     rw[←hmt,if_neg];rintro(q|q|q|q|q|q)
     ·exact t1 q
     ·exact t2 q
     ·exact t3 q
     ·rw[t4] at q;cases q
     ·exact q t5
     exact q t6
    have aVf:fH (es++[⟨.str fr,(Sr.mk fr ar (dJ ar fl).1).v,c⟩]) _:=hst.add (t:=(Sr.mk fr ar (dJ ar fl).1)) (b:=c) t6;have aVg:pu (es++[⟨.str fr,(Sr.mk fr ar (dJ ar fl).1).v,c⟩]) (c+1) _:=hse.add (t:=(Sr.mk fr ar (dJ ar fl).1)) t6;have hzz:((0:Int) != 0)=false:=rfl;have hSm:(S.map nmD).length=S.length:=jK ..;have hsv:(Sr.mk fr ar (dJ ar fl).1).v=jS ar (dJ ar fl).1:=rfl;rw[hsv] at aVf aVg;have aGp:(S++[(Sr.mk fr ar (dJ ar fl).1)]).map nmD=S.map nmD++[nmD (Sr.mk fr ar (dJ ar fl).1)]:=Zm;rw[hnd] at aGp;generalize jS ar (dJ ar fl).1=PR at*;refine aue (e12 hc hg hlt hml aFT jG hwn g1 g2 g3 hve (e8 hvp hvf hm1 n1 hx hg0 hpl hzz)) ?_;refine kB (es:=es) (c:=c) (n:=nx) rfl rfl (by simp only[hm1,n1,(fls:(nx=nx1)=False),(fls:(nx=nx1+2)=False),go_sem,reduceIte,jA,jB,jC,jD,reduceCtorEq,jE,jF]) hx ?_;refine Zn ?_;have m1:(nx1=nx)=False:=fls;have m2:(nx1+2=nx)=False:=fls;have aXJ:S.length≤12:=or;generalize hES:es++[(⟨.str fr,PR,c⟩:ME)]=ES at*;generalize hG:Hp.set _ nx (.mp ES (c+1))=G;have hG0:G nx=some (.mp ES (c+1)):=by rw[←hG];simp only[Hp.set,if_true]
    have hG1:G nx1=some (.arr (.agg 3) [.agg [.str fr, .int .i64 ar, .sl .leaf fo (fl.map TR.v)]]):=by rw[←hG];simp only[m1,(fls:(nx1=nx1+2)=False),go_sem,reduceIte,jA,jB,jC,jD,reduceCtorEq,jE,jF]
    have hG2:G (nx1+2)=some (.arr (.agg 2) [.agg [.int .i64 ar, .sl .leaf ow (lsV (aP (dJ ar fl).1))]]):=by rw[←hG];simp only[m2,go_sem,reduceIte,jA,jB,jC,jD,reduceCtorEq,jE,jF]
    have hGs:Kb nx h G:=by rw[←hG];exact kep hk
    have aEc:=hdm;have aAs:Acc G (nx+1) om (S.map nmD):=by
     rcases aAs with q|⟨q1,id,q2,q3,q4⟩
     ·exact .inl q
     have:=hdm _ _ q4;refine .inr ⟨q1,id,q2,q3,?_⟩;rw[←hG];simp only[Hp.set];repeat rw[if_neg or]
     exact q4
    have hdm:aV G (nx1+5):=by rw[←hG];exact dmo aEc
    clear hG;have aD8:∀H:Hp,H.aBP om nx=H nx:=fun H=>rU fun id e=>by have:=aAs.ge id e;omega
    have l1:nx1<nx1+5:=or;have l2:nx1+2<nx1+5:=or;refine aue (e8 hSm aXJ hvf hw hG1 hG2 l1 l2) ?_;rw[←hQ];exact aF (i+1,n+fl.length,S++[Sr.mk fr ar (dJ ar fl).1], .tok (nx1+6)) Zw ⟨hlt,or,dmo hdm,GD hGs aAs,⟨ES,c+1,by simp only[aD8,hG0,(fls:(nx=nx1+5)=False),(fls:(nx=nx1+6)=False),go_sem,reduceIte,jA,jB,jC,jD,reduceCtorEq,jE,jF],aVf,aVg⟩,by dsimp only;rw[aGp];exact Acc.new _ Zm or,hmt,by dsimp only;simp;omega,Zw⟩ (by simp only[WkL,aD,jH,jI,jJ,hw,aGp,go_sem,reduceIte,jA,jB,jC,jD,reduceCtorEq,jE,jF])
  have q5:ofP ar fl= .nilPtr:=by unfold ofP;rw[if_neg t5]
  have q6:d3P ar fl=fC 0 []:=by unfold d3P;rw[if_neg t5]
  have q0:fC 0 []= .agg [.int .i64 0, .sl .leaf .nil []]:=rfl;rw[q5] at C2;rw[q6,q0] at C3;rw[decide_eq_false t5] at hve;refine aue (e11 hc hg hlt hml aFT jG hwn g1 g2 g3 hve) ?_;rw[←hQ];refine au ?_;refine bX _ (Ka _) ⟨?_,by exact kep hk⟩;rw[←hmt,if_pos (.inr (.inr (.inr (.inr (.inl t5)))))];rfl
 have hc:decide ((i:Int)<(l.length:Int))=false:=dcf;rw[Km or] at hmt;refine aue hc ?_;rw[←hQ];refine au ?_;refine bX H (Ka _) ⟨?_,hk⟩;rw[←hmt];exact⟨nx,es,c,om,rfl,Nat.le_refl _,hm1,hst,hse⟩
end Go.Proofs.YtlhedpgobaellaaGreatDoor
