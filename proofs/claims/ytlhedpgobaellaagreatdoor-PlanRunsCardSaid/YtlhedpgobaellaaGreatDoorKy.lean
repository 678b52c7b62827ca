/-
Texts of this proof,one behind the other. No conditions.
-/
import Derived.Test.YtlhedpgobaellaaGreatDoorKx
open Go.Proofs.YtlhedpgobaellaaGreatDoor.Hp renaming le_refl→Ka,same→Kb
open List renaming map_cons→Kc,map_nil→Kd,map_append→Ke,mem_singleton→Kf,drop_eq_getElem_cons→Kg,mem_map→Kh,drop_of_length_le→Ki,nodup_append→Kk,getElem_mem→Km
open Nat renaming zero_le→Kj,lt_or_ge→Ko
open Nat renaming reduceAdd→jA,reduceSub→jB,reduceLT→jC,reduceLeDiff→jD,reduceEqDiff→jE
open Int renaming reduceToNat→jF,toNat_natCast→jG,natCast_add→jH,natCast_one→jI,natCast_zero→jJ
open List renaming length_map→jK
set_option linter.all false
set_option maxHeartbeats 8000000
namespace Go.Proofs.YtlhedpgobaellaaGreatDoor
open Go.RowKit Go.Sort
attribute [local irreducible] IntKind.wrap
theorem wD{t u w n:Nat}{k:Sh}{x:V}{R:V→Hp→Nat→Prop}{s:St}(hx:s.sl.getD t V.undef= .ptr n k 0 0)(hn:s.h n=some (.arr k [x]))(hf:x.fits k=true)(h':Hp)(hle:h'.le s.h)(hR:R (.tup [x,s.sl.getD u V.undef,s.sl.getD w V.undef]) h' s.nx):rM [.cell t k, .slot u, .slot w] R .ret s:=by
 simp only[rM,lT,zF.sem,aW.sem,aK.ev,hx,hn];refine⟨?_,Zm,eL _,h',hle,?_⟩
 ·trivial
 have e:=bI hf;simp only[List.getD_cons_zero,e];exact hR
theorem gI(ar:Int)(ls:List (List Vl)):(dG ar ls).loose=dG ar ls:=by
 unfold dG;cases ls<;>rfl
theorem AC(ar:Int)(zs:List TR)(hr:fR ar zs)(p:TR)(hl:p.2.length≤1000000)(hz:∀v∈p.2,v.s.size≤9223372036854775807)(h:Hp):
 aM Tryz.prog 87 [dG ar (aQ zs),p.v] h (.tup [dG ar (aQ (qY ar zs p).1), .bool (qY ar zs p).2.1, .int .i64 (qY ar zs p).2.2]):=by
 refine fW (fun L=>⟨pY _ _ L,trivial,trivial,trivial⟩) fun h' nx hh=>aB L.bAt fun hd=>?_;have hzl:=hr.len;have hrw:∀t∈aQ zs,t.length≤6:=fun t ht=>by
  obtain⟨z,q,rfl⟩:=Kh.1 ht;have:=(hr.row z q).1;unfold qV at this;simp only[Bool.and_eq_true,decide_eq_true_eq] at this;exact this.1
 have hrl:(aQ zs).length=zs.length:=jK ..;obtain⟨o,t⟩:=p;have hv:TR.v (o,t)= .sl (.agg 3) o (t.map Vl.v):=rfl;rw[hv];have hl:t.length≤1000000:=hl;have C1:=fun h=>yA ar (aQ zs) or (fun q hq=>by have:=hrw q hq;omega) o t or h;have C2:=p8 o t hl hz;have C3:=fun h=>l5 ar (aQ zs) hr.str or (fun q hq=>by have:=hrw q hq;omega) o t hl h;have hfz:=fU ar (aQ zs);have hml:=@jK Vl V t Vl.v;have hll:(lsV (aQ zs)).length=zs.length:=by rw[jK,hrl]
 obtain⟨ow,how⟩:=bX .leaf (lsV (aQ zs));have hrv:dG ar (aQ zs)= .agg [.int .i64 ar, .sl .leaf ow (lsV (aQ zs))]:=by rw[dG,how]
 have hlo:=gI ar (aQ zs);unfold qY;dsimp only;refine ZK ?_;by_cases h1:(t.length:Int)=ar
 ·have g1:((t.length:Int) != ar)=false:=bnf;rw[if_neg (by simpa using h1)];cases h2:qV t with
  |false=>
   rw[h2] at C2;rw[if_pos rfl];rw[hrv] at C1 C3 hfz hlo⊢;refine aue (e3 hml g1 hfz) ?_;refine wD rfl (by simp only[go_sem,reduceIte,jA,jB,jC,jD,reduceCtorEq,jE,jF]) hfz _ (leo hd) ⟨?_,Ka _⟩;rw[←hrv];simp only[V.loose,Kc,Kd,gI,go_sem,reduceIte,jA,jB,jC,jD,reduceCtorEq,jE,jF]
  |true=>
   rw[h2] at C2;rw[if_neg Zm];cases h3:nL (aQ zs) t with
   |true=>
    rw[decide_eq_true (pJ.1 h3)] at C1;rw[if_pos rfl];rw[hrv] at C1 C3 hfz hlo⊢;refine aue (e3 hml g1 hfz) ?_;refine wD rfl (by simp only[go_sem,reduceIte,jA,jB,jC,jD,reduceCtorEq,jE,jF]) hfz _ (leo hd) ⟨?_,Ka _⟩;rw[←hrv];simp only[V.loose,Kc,Kd,gI,go_sem,reduceIte,jA,jB,jC,jD,reduceCtorEq,jE,jF]
   |false=>
    have hni:t∉aQ zs:=fun e=>by rw[pJ.2 e] at h3;cases h3
    rw[decide_eq_false hni] at C1;rw[if_neg Zm];by_cases h4:2000≤zs.length
    ·have g4:((zs.length:Int)==2000)=true:=bqt;rw[if_pos h4];rw[hrv] at C1 C3 hfz hlo⊢;refine aue (e5 hml g1 hfz hll g4) ?_;refine wD rfl (by simp only[go_sem,reduceIte,jA,jB,jC,jD,reduceCtorEq,jE,jF]) hfz _ (leo hd) ⟨?_,Ka _⟩;rw[←hrv];simp only[V.loose,Kc,Kd,gI,go_sem,reduceIte,jA,jB,jC,jD,reduceCtorEq,jE,jF]
    have g4:((zs.length:Int)==2000)=false:=bqf;rw[if_neg h4];have aD5:=ns (p:=(o,t)) hr.str hni;have hf2:=fU ar (iW cP t (aQ zs));have hY2:=gI ar (iW cP t (aQ zs));rw[aD5];rw[hrv] at C1 C3 hfz hlo⊢;dsimp only;generalize dG ar (iW cP t (aQ zs))=Y at*;refine aue (e6 hml g1 hfz hll g4 hf2) ?_;refine wD rfl (by simp only[hf2,go_sem,reduceIte,jA,jB,jC,jD,reduceCtorEq,jE,jF]) hf2 _ (leo hd) ⟨?_,Ka _⟩;simp only[V.loose,Kc,Kd,hY2,go_sem,reduceIte,jA,jB,jC,jD,reduceCtorEq,jE,jF]
 have g1:((t.length:Int) != ar)=true:=bnt;rw[if_pos h1];rw[hrv] at C1 C3 hfz hlo⊢;refine aue (e3 hml g1 hfz) ?_;refine wD rfl (by simp only[go_sem,reduceIte,jA,jB,jC,jD,reduceCtorEq,jE,jF]) hfz _ (leo hd) ⟨?_,Ka _⟩;rw[←hrv];simp only[V.loose,Kc,Kd,gI,go_sem,reduceIte,jA,jB,jC,jD,reduceCtorEq,jE,jF]
def d3P(ar:Int)(l:List TR):V:=if (dZ ar l).2=0 then dG ar (aQ (dZ ar l).1) else dG 0 []
theorem Dv(ar:Int)(o:Own)(l:List TR)(hl:l.length≤1000000)(hp:∀p∈l,(p.1= .nil→p.2=[])∧p.2.length≤1000000∧∀v∈p.2,v.s.size≤9223372036854775807)(h:Hp):
 aM Tryz.prog 40 [.int .i64 ar, .sl .leaf o (l.map TR.v)] h (.tup [d3P ar l, .int .i64 (dZ ar l).2]):=by
 refine fW (fun L=>⟨by unfold d3P;split;exact pY _ _ L;exact pY _ _ L,trivial,trivial⟩) fun h' nx hh=>aB L.bBW fun hd=>?_;have hml:(l.map TR.v).length=l.length:=jK ..;have hl0:=gI 0 [];have hf0:=fU 0 [];have e0:dG 0 []= .agg [.int .i64 0, .sl .leaf .nil []]:=rfl;refine ZK ?_;by_cases h1:ar<0
 ·have hR:dZ ar l=([],6):=by unfold dZ;rw[if_pos (.inl h1)]
  have hd3:d3P ar l=dG 0 []:=by unfold d3P;rw[hR];rfl
  rw[hd3,hR,e0];have g1:decide (ar<0)=true:=decide_eq_true h1;refine aue g1 ?_;refine bC (by simp only[go_sem,reduceIte,jA,jB,jC,jD,reduceCtorEq,jE,jF]) h' (leo hd) ⟨?_,leo hd⟩;refine Zn ?_;rfl
 have g1:decide (ar<0)=false:=decide_eq_false h1;by_cases h2:6<ar
 ·have hR:dZ ar l=([],6):=by unfold dZ;rw[if_pos (.inr h2)]
  have hd3:d3P ar l=dG 0 []:=by unfold d3P;rw[hR];rfl
  rw[hd3,hR,e0];have g2:decide (6<ar)=true:=decide_eq_true h2;refine aue (e2 g1 g2) ?_;refine bC (by simp only[go_sem,reduceIte,jA,jB,jC,jD,reduceCtorEq,jE,jF]) h' (leo hd) ⟨?_,leo hd⟩;refine Zn ?_;rfl
 have g2:decide (6<ar)=false:=decide_eq_false h2;have hR:dZ ar l=ofT ar [] l:=by unfold dZ;rw[if_neg or]
 have hP:d3P ar l=if (ofT ar [] l).2=0 then dG ar (aQ (ofT ar [] l).1) else dG 0 []:=by unfold d3P;rw[hR]
 rw[hR,hP];obtain⟨RES,aAi⟩:∃R,ofT ar [] l=R:=⟨_,rfl⟩;rw[aAi];refine aue (e2 g1 g2) ?_
 refine aP (fun q:Nat×List TR=>aD 42 0 [(0, .int .i64 ar),(1, .sl .leaf o (l.map TR.v)),(4, .ptr nx (.agg 2) 0 0),(5, .int .i64 0),(6, .ptr (nx+1) (.agg 2) 0 0),(7, .int .i64 q.1)])
  (fun q hp nx1=>q.1≤l.length∧nx+1<nx1∧aS hp nx1∧fR ar q.2∧ofT ar q.2 (l.drop q.1)=RES∧Kb nx h' hp∧hp nx=some (.arr (.agg 2) [dG 0 []])∧hp (nx+1)=some (.arr (.agg 2) [dG ar (aQ q.2)]))
  (fun q=>l.length-q.1) (0,[]) ⟨Kj _,Zw,by exact dmo hd,oX ar,aAi,by exact kep Hp.same.aAr,by simp only[e0,go_sem,reduceIte,jA,jB,jC,jD,reduceCtorEq,jE,jF],by simp only[go_sem,reduceIte,jA,jB,jC,jD,reduceCtorEq,jE,jF];rfl⟩ (by simp only[WkL,aD,jH,jI,jJ,go_sem,reduceIte,jA,jB,jC,jD,reduceCtorEq,jE,jF]) ?_
 rintro⟨i,zs⟩ H nx1 ⟨hi,hnx,hdm,hro,hof,hsm,hb0,hb1⟩;generalize hQ:aZ _ _ _ _ _=Q0;dsimp only at hi hro hof hb1;refine Zk ?_;have hle:=hsm.le hd (Ka _);have n1:nx+1<nx1:=or;have n0:nx<nx1:=or;rcases Ko i l.length with hlt|hge
 ·have hc:decide ((i:Int)<(l.length:Int))=true:=dct;have hg:=aL TR.v l i hlt;have hw:IntKind.i64.wrap ((i:Int)+1)=((i+1:Nat):Int):=wrp;rw[Kg hlt,ul] at hof
  obtain⟨hp1,hp2,hp3⟩:=hp l[i] (Km hlt);have D1:=fun h=>AC ar zs hro l[i] hp2 hp3 h;have aPT:=hro.add hp1;have hfp:=TR.aAC l[i];generalize l[i].v=pv at*;generalize qY ar zs l[i]=P at*;have hf1:=fU ar (aQ zs);have hf2:=fU ar (aQ P.1);generalize dG ar (aQ zs)=X1 at*;obtain⟨X2,hX2⟩:∃X2,dG ar (aQ P.1)=X2:=⟨_,rfl⟩;rw[hX2] at hf2 D1;rw[e0] at hb0;have m1:(nx+1=nx1+10)=False:=fls;have m0:(nx=nx1+10)=False:=fls;by_cases he:P.2.2=0
  ·have g:(P.2.2 != 0)=false:=bnf;rw[if_neg (by simpa using he)] at hof
   refine aue (e11 hc hg hlt hml jG hfp hb1 n1 hf1 hf2 (e2 hb0 n0)) ?_;refine io (D1 _) rfl (aI _) ?_;refine aue (e12 hc g hw hlt hml jG hb1 n1 hf1 hf2 m1 (e3 hb0 n0 m0)) ?_;rw[←hQ];exact aF (i+1,P.1) Zw ⟨hlt,or,dmo hdm,aPT,hof,kep hsm,by rw[e0];simp only[hb0,n0,m0,go_sem,reduceIte,jA,jB,jC,jD,reduceCtorEq,jE,jF],by dsimp only;rw[hX2];simp only[go_sem,reduceIte,jA,jB,jC,jD,reduceCtorEq,jE,jF]⟩ (by simp only[WkL,aD,jH,jI,jJ,hw,go_sem,reduceIte,jA,jB,jC,jD,reduceCtorEq,jE,jF])
  have g:(P.2.2 != 0)=true:=bnt;rw[if_pos he] at hof
  refine aue (e11 hc hg hlt hml jG hfp hb1 n1 hf1 hf2 (e2 hb0 n0)) ?_;refine io (D1 _) rfl (aI _) ?_;refine aue (e12 hc g hw hlt hml jG hb1 n1 hf1 hf2 m1 (e3 hb0 n0 m0)) ?_;rw[←hQ];refine au ?_;refine bC (by simp only[m0,go_sem,reduceIte,jA,jB,jC,jD,reduceCtorEq,jE,jF]) _ (Ka _) ⟨?_,lef hd hle⟩;simp only[m0,go_sem,reduceIte,jA,jB,jC,jD,reduceCtorEq,jE,jF];rw[←hof];dsimp only;rw[if_neg he];rfl
 have hc:decide ((i:Int)<(l.length:Int))=false:=dcf;rw[Ki or] at hof
 have hR2:RES=(zs,0):=hof.symm;have hfz:=fU ar (aQ zs);have hlz:=gI ar (aQ zs);rw[←hQ,hR2,if_pos rfl];dsimp only;generalize dG ar (aQ zs)=Y at*;rw[e0] at hb0;refine aue (e7 hc hml hb1 n1 n0 hfz hb0) ?_;refine bC (by simp only[hfz,go_sem,reduceIte,jA,jB,jC,jD,reduceCtorEq,jE,jF]) _ (Ka _) ⟨?_,lef hd hle⟩;simp only[hfz,V.loose,Kc,Kd,hlz,go_sem,reduceIte,jA,jB,jC,jD,reduceCtorEq,jE,jF]
end Go.Proofs.YtlhedpgobaellaaGreatDoor
namespace Go.Proofs.YtlhedpgobaellaaGreatDoor
open Go.RowKit Go.Sort
def meS(p:Sr×Nat):ME:=⟨.str p.1.r,p.1.v,p.2⟩
def AL(es:List ME)(c:Nat)(S:List Sr):Prop:=∃T:List (Sr×Nat),es=T.map meS∧T.map Prod.fst=S∧(T.map Prod.snd).Nodup∧(∀p∈T,p.2<c)∧(S.map Sr.r).Nodup
theorem DZ:AL [] 0 []:=⟨[],rfl,rfl,Zm,Zm,Zm⟩
theorem u5{x:ByteArray}:∀{S:List Sr},lkS x S=none→∀s∈S,s.r≠x
 |b::l,h,s,hs=>by
  unfold lkS at h;split at h
  ·cases h
  rename_i hb;rcases List.mem_cons.1 hs with rfl|hs
  ·exact hb
  exact u5 h s hs
theorem AL.add{es:List ME}{c:Nat}{S:List Sr}(h:AL es c S){t:Sr}(hk:lkS t.r S=none):AL (es++[⟨.str t.r,t.v,c⟩]) (c+1) (S++[t]):=by
 obtain⟨T,rfl,rfl,h3,h4,h5⟩:=h;refine⟨T++[(t,c)],by rw[Ke];rfl,by rw[Ke];rfl,?_,fun p hp=>?_,?_⟩
 ·rw[Ke,Kk];refine⟨h3,Zm,fun a ha b hb=>?_⟩;obtain⟨p,hp,rfl⟩:=Kh.1 ha;simp only[Kc,Kd,Kf] at hb;subst hb;have:=h4 p hp;omega
 ·rcases List.mem_append.1 hp with hp|hp
  ·have:=h4 p hp;omega
  rw[Kf] at hp;subst hp;exact Nat.lt_succ_self c
 rw[Ke,Kk];refine⟨h5,Zm,fun a ha b hb=>?_⟩;obtain⟨s,hs,rfl⟩:=Kh.1 ha;simp only[Kc,Kd,Kf] at hb;subst hb;exact u5 hk s hs
end Go.Proofs.YtlhedpgobaellaaGreatDoor
namespace Go.Proofs.YtlhedpgobaellaaGreatDoor
open Go.RowKit Go.Sort
attribute [local irreducible] IntKind.wrap
structure Fc where
 r:ByteArray
 ar:Int
 o:Own
 l:List TR
def Fc.v(f:Fc):V:= .agg [.str f.r, .int .i64 f.ar, .sl .leaf f.o (f.l.map TR.v)]
def nmD(s:Sr):V:= .agg [.str s.r, .int .i64 s.ar,lst .leaf (lsV (aQ s.zs))]
def c8:Nat→Nat→List Sr→List Fc→Option (List Sr)
 |_,_,S,[]=>some S
 |i,n,S,f::r=>if 12<i∨80<n+f.l.length∨40<f.r.size∨tN 0 (aQ f.l)=true∨(dZ f.ar f.l).2≠0∨lkS f.r S≠none then none
  else c8 (i+1) (n+f.l.length) (S++[⟨f.r,f.ar,(dZ f.ar f.l).1⟩]) r
theorem xU(i n:Nat)(S:List Sr)(f:Fc)(r:List Fc):c8 i n S (f::r)=if 12<i∨80<n+f.l.length∨40<f.r.size∨tN 0 (aQ f.l)=true∨(dZ f.ar f.l).2≠0∨lkS f.r S≠none then none
 else c8 (i+1) (n+f.l.length) (S++[⟨f.r,f.ar,(dZ f.ar f.l).1⟩]) r:=rfl
def Iu(r:Option (List Sr))(nx:Nat)(v:V)(h':Hp):Prop:=match r with
 |none=>v= .tup [.aAG, .sl (.agg 3) .nil [], .bool false]
 |some S=>∃N es c o,v= .tup [.map N, .sl (.agg 3) o (S.map nmD), .bool true]∧nx≤N∧h' N=some (.mp es c)∧gW es S∧AL es c S
def Fc.ok(f:Fc):Prop:=f.l.length≤140737488355328∧∀p∈f.l,(p.1= .nil→p.2=[])∧∀v∈p.2,v.s.size≤9223372036854775807
theorem pj(o:Own)(l:List Fc)(hl:l.length≤140737488355328)(hok:∀f∈l,f.ok)(h:Hp)(nx:Nat):
 aR Tryz.prog 8 [.sl (.agg 3) o (l.map Fc.v)] h nx fun v h' _=>Iu (c8 0 0 [] l) nx v h'∧∀k,k<nx→h' k=h k:=by
 refine aB L.g1z fun hd=>?_;have hd:aS h nx:=hd;have hml:(l.map Fc.v).length=l.length:=jK ..;obtain⟨RES,aAi⟩:∃R,c8 0 0 [] l=R:=⟨_,rfl⟩;rw[aAi];refine ZK ?_;refine aue hml ?_;refine pF ?_;refine aue hml ?_
 refine aP (fun q:Nat×Nat×List Sr×Own=>aD 94 0 [(2, .aAG),(3, .sl (.agg 3) .nil []),(4, .bool false),(5, .map nx),(6, .sl (.agg 3) q.2.2.2 (q.2.2.1.map nmD)),(7, .int .i64 q.2.1),(17, .sl (.agg 3) o (l.map Fc.v)),(18, .int .i64 l.length),(19, .int .i64 q.1)])
  (fun q hp nx1=>q.1≤l.length∧nx<nx1∧aS hp nx1∧Kb nx h hp∧(∃es c,hp nx=some (.mp es c)∧gW es q.2.2.1∧AL es c q.2.2.1)∧Acc hp (nx+1) q.2.2.2 (q.2.2.1.map nmD)∧c8 q.1 q.2.1 q.2.2.1 (l.drop q.1)=RES∧q.2.2.1.length≤q.1∧q.2.1≤80)
  (fun q=>l.length-q.1) (0,0,[], .nil) ⟨Kj _,Zw,by exact dmo hd,by exact kep Hp.same.aAr,⟨[],0,by simp only[go_sem,reduceIte,jA,jB,jC,jD,reduceCtorEq,jE,jF],s6,DZ⟩, .inl ⟨rfl,rfl⟩,aAi,Kj _,Kj _⟩ (by simp only[WkL,aD,jH,jI,jJ,hml,go_sem,reduceIte,jA,jB,jC,jD,reduceCtorEq,jE,jF]) ?_
 rintro⟨i,n,S,om⟩ H nx1 ⟨hi,hnx,hdm,hk,⟨es,c,hm1,hst,hse⟩,aAO,hmt,hSl,aY9⟩;generalize hQ:aZ _ _ _ _ _=Q0;dsimp only at hi aAO hst hmt hSl aY9;refine Zk ?_;rcases Ko i l.length with hlt|hge
 ·have hc:decide ((i:Int)<(l.length:Int))=true:=dct;have hg:=aL Fc.v l i hlt;have hw:IntKind.i64.wrap ((i:Int)+1)=((i+1:Nat):Int):=wrp;rw[Kg hlt,xU] at hmt;obtain⟨hf1,hf2⟩:=hok l[i] (Km hlt);generalize l[i]=F at*;obtain⟨fr,ar,fo,fl⟩:=F;have hFv:(Fc.mk fr ar fo fl).v= .agg [.str fr, .int .i64 ar, .sl .leaf fo (fl.map TR.v)]:=rfl;rw[hFv] at hg;dsimp only at hmt hf1 hf2;have hwn:IntKind.i64.wrap ((n:Int)+(fl.length:Int))=((n+fl.length:Nat):Int):=wrp;have aEf:(fl.map TR.v).length=fl.length:=jK ..;have n1:nx<nx1:=hnx;by_cases t1:12<i
  ·have g1:decide ((i:Int)>12)=true:=dct;refine aue (e8 hc hg hlt hml aEf jG hwn g1) ?_;rw[←hQ];refine au ?_;refine bE _ (Ka _) ⟨?_,by exact kep hk⟩;rw[←hmt,if_pos (.inl t1)];rfl
  have g1:decide ((i:Int)>12)=false:=dcf;by_cases t2:80<n+fl.length
  ·have g2:decide (((n+fl.length:Nat):Int)>80)=true:=dct;refine aue (e9 hc hg hlt hml aEf jG hwn g1 g2) ?_;rw[←hQ];refine au ?_;refine bE _ (Ka _) ⟨?_,by exact kep hk⟩;rw[←hmt,if_pos (.inr (.inl t2))];rfl
  have g2:decide (((n+fl.length:Nat):Int)>80)=false:=dcf;by_cases t3:40<fr.size
  ·have g3:decide ((fr.size:Int)>40)=true:=dct;refine aue (e10 hc hg hlt hml aEf jG hwn g1 g2 g3) ?_;rw[←hQ];refine au ?_;refine bE _ (Ka _) ⟨?_,by exact kep hk⟩;rw[←hmt,if_pos (.inr (.inr (.inl t3)))];rfl
  have g3:decide ((fr.size:Int)>40)=false:=dcf;have C1:=fun h=>CC fo fl or h;cases t4:tN 0 (aQ fl) with
  |true=>
   rw[t4] at C1;refine aue (e10 hc hg hlt hml aEf jG hwn g1 g2 g3) ?_;rw[←hQ];refine au ?_;refine bE _ (Ka _) ⟨?_,by exact kep hk⟩;rw[←hmt,if_pos (.inr (.inr (.inr (.inl t4))))];rfl
  |false=>
  rw[t4] at C1;have h50:∀p∈fl,p.2.length≤50:=fun p hp=>m6 _ _ t4 _ (Kh.2 ⟨p,hp,rfl⟩);have C2:=fun h=>Eg ar fo fl or (fun p hp=>⟨(hf2 p hp).1,by have:=h50 p hp;omega⟩) h;have C3:=fun h=>Dv ar fo fl or (fun p hp=>⟨(hf2 p hp).1,by have:=h50 p hp;omega,(hf2 p hp).2⟩) h;have hve:=dK (dZ ar fl).2;by_cases t5:(dZ ar fl).2=0
  ·have q5:ofP ar fl=yC ar (dZ ar fl).1:=by unfold ofP;rw[if_pos t5]
   have q6:d3P ar fl=dG ar (aQ (dZ ar fl).1):=by unfold d3P;rw[if_pos t5]
   rw[t5] at C2 C3 hve;rw[q5] at C2;rw[q6] at C3;rw[decide_eq_true rfl] at hve;have hmt:=hmt;have hvp:veq .ptr (yC ar (dZ ar fl).1) .nilPtr=some false:=rfl;have hpl:(yC ar (dZ ar fl).1).aAE=true:=rfl;have hvf:=fU ar (aQ (dZ ar fl).1);obtain⟨ow,how⟩:=bX .leaf (lsV (aQ (dZ ar fl).1));have hrv:dG ar (aQ (dZ ar fl).1)= .agg [.int .i64 ar, .sl .leaf ow (lsV (aQ (dZ ar fl).1))]:=by rw[dG,how]
   have hnd:nmD ⟨fr,ar,(dZ ar fl).1⟩= .agg [.str fr, .int .i64 ar, .sl .leaf ow (lsV (aQ (dZ ar fl).1))]:=by rw[nmD,how]
   rw[hrv] at C3 hvf;have hx:=hst fr;cases t6:lkS fr S with
   |some w=>
    rw[t6] at hx;obtain⟨j,hj1,hj2,hj3⟩:=hx;have hzz:((0:Int) != 0)=false:=rfl;have hg0:jW true .nilPtr es (some j)= .tup [w.v, .bool true]:=by rw[←hj2];rfl
    generalize yC ar (dZ ar fl).1=PR at*;refine aue (e12 hc hg hlt hml aEf jG hwn g1 g2 g3 hve (e8 hvp hvf hm1 n1 hj1 hg0 hpl hzz)) ?_;rw[←hQ];refine au ?_;refine bE _ (Ka _) ⟨?_,by exact kep hk⟩;rw[←hmt,if_pos (.inr (.inr (.inr (.inr (.inr (by rw[t6];simp))))))];rfl
   |none=>
    rw[t6] at hx;have hg0:jW true .nilPtr es none= .tup [.nilPtr, .bool false]:=rfl;have hmt:c8 (i+1) (n+fl.length) (S++[(Sr.mk fr ar (dZ ar fl).1)]) (l.drop (i+1))=RES:=by
     rw[←hmt,if_neg];rintro(q|q|q|q|q|q)
     ·exact t1 q
     ·exact t2 q
     ·exact t3 q
     ·rw[t4] at q;cases q
     ·exact q t5
     exact q t6
    have aXh:gW (es++[⟨.str fr,(Sr.mk fr ar (dZ ar fl).1).v,c⟩]) _:=hst.add (t:=(Sr.mk fr ar (dZ ar fl).1)) (b:=c) t6;have aXk:AL (es++[⟨.str fr,(Sr.mk fr ar (dZ ar fl).1).v,c⟩]) (c+1) _:=hse.add (t:=(Sr.mk fr ar (dZ ar fl).1)) t6;have hzz:((0:Int) != 0)=false:=rfl;have hSm:(S.map nmD).length=S.length:=jK ..;have hsv:(Sr.mk fr ar (dZ ar fl).1).v=yC ar (dZ ar fl).1:=rfl;rw[hsv] at aXh aXk;have aPf:(S++[(Sr.mk fr ar (dZ ar fl).1)]).map nmD=S.map nmD++[nmD (Sr.mk fr ar (dZ ar fl).1)]:=Zm;rw[hnd] at aPf;generalize yC ar (dZ ar fl).1=PR at*;refine aue (e12 hc hg hlt hml aEf jG hwn g1 g2 g3 hve (e8 hvp hvf hm1 n1 hx hg0 hpl hzz)) ?_;refine mK (es:=es) (c:=c) (n:=nx) rfl rfl (by simp only[hm1,n1,(fls:(nx=nx1)=False),(fls:(nx=nx1+2)=False),go_sem,reduceIte,jA,jB,jC,jD,reduceCtorEq,jE,jF]) hx ?_;refine Zn ?_;have m1:(nx1=nx)=False:=fls;have m2:(nx1+2=nx)=False:=fls;have aZV:S.length≤12:=or;generalize hES:es++[(⟨.str fr,PR,c⟩:ME)]=ES at*;generalize hG:Hp.set _ nx (.mp ES (c+1))=G;have hG0:G nx=some (.mp ES (c+1)):=by rw[←hG];simp only[Hp.set,if_true]
    have hG1:G nx1=some (.arr (.agg 3) [.agg [.str fr, .int .i64 ar, .sl .leaf fo (fl.map TR.v)]]):=by rw[←hG];simp only[m1,(fls:(nx1=nx1+2)=False),go_sem,reduceIte,jA,jB,jC,jD,reduceCtorEq,jE,jF]
    have hG2:G (nx1+2)=some (.arr (.agg 2) [.agg [.int .i64 ar, .sl .leaf ow (lsV (aQ (dZ ar fl).1))]]):=by rw[←hG];simp only[m2,go_sem,reduceIte,jA,jB,jC,jD,reduceCtorEq,jE,jF]
    have hGs:Kb nx h G:=by rw[←hG];exact kep hk
    have aEh:=hdm;have aAO:Acc G (nx+1) om (S.map nmD):=by
     rcases aAO with q|⟨q1,id,q2,q3,q4⟩
     ·exact .inl q
     have:=hdm _ _ q4;refine .inr ⟨q1,id,q2,q3,?_⟩;rw[←hG];simp only[Hp.set];repeat rw[if_neg or]
     exact q4
    have hdm:aS G (nx1+5):=by rw[←hG];exact dmo aEh
    clear hG;have aDB:∀H:Hp,H.aAy om nx=H nx:=fun H=>kZ fun id e=>by have:=aAO.ge id e;omega
    have l1:nx1<nx1+5:=or;have l2:nx1+2<nx1+5:=or;refine aue (e8 hSm aZV hvf hw hG1 hG2 l1 l2) ?_;rw[←hQ];exact aF (i+1,n+fl.length,S++[Sr.mk fr ar (dZ ar fl).1], .tok (nx1+6)) Zw ⟨hlt,or,dmo hdm,gm hGs aAO,⟨ES,c+1,by simp only[aDB,hG0,(fls:(nx=nx1+5)=False),(fls:(nx=nx1+6)=False),go_sem,reduceIte,jA,jB,jC,jD,reduceCtorEq,jE,jF],aXh,aXk⟩,by dsimp only;rw[aPf];exact Acc.new _ Zm or,hmt,by dsimp only;simp;omega,Zw⟩ (by simp only[WkL,aD,jH,jI,jJ,hw,aPf,go_sem,reduceIte,jA,jB,jC,jD,reduceCtorEq,jE,jF])
  have q5:ofP ar fl= .nilPtr:=by unfold ofP;rw[if_neg t5]
  have q6:d3P ar fl=dG 0 []:=by unfold d3P;rw[if_neg t5]
  have q0:dG 0 []= .agg [.int .i64 0, .sl .leaf .nil []]:=rfl;rw[q5] at C2;rw[q6,q0] at C3;rw[decide_eq_false t5] at hve;refine aue (e11 hc hg hlt hml aEf jG hwn g1 g2 g3 hve) ?_;rw[←hQ];refine au ?_;refine bE _ (Ka _) ⟨?_,by exact kep hk⟩;rw[←hmt,if_pos (.inr (.inr (.inr (.inr (.inl t5)))))];rfl
 have hc:decide ((i:Int)<(l.length:Int))=false:=dcf;rw[Ki or] at hmt;refine aue hc ?_;rw[←hQ];refine au ?_;refine bE H (Ka _) ⟨?_,hk⟩;rw[←hmt];exact⟨nx,es,c,om,rfl,Nat.le_refl _,hm1,hst,hse⟩
end Go.Proofs.YtlhedpgobaellaaGreatDoor
