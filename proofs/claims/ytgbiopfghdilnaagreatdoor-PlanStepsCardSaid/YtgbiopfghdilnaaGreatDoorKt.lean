/-
Texts of this proof,one behind the other. No conditions.
-/
import Derived.Test.YtgbiopfghdilnaaGreatDoorKd
import Derived.Test.YtgbiopfghdilnaaGreatDoorKs
open List renaming take_succ_eq_append_getElem→Ka,length_append→Kb,mem_of_find?_eq_some→Kd,map_append→Ke,take_of_length_le→Kf,mem_append→Kh,mem_cons_of_mem→Ki,mem_cons_self→Kj,mem_singleton→Kk,flatMap_cons→Km,length_take→Ko,nil_append→Ks,append_nil→Kt,find?_some→Ku,take_zero→Kv
open Bool renaming and_eq_true→Kc,or_eq_true→Kg,true_and→Kw
open Nat renaming le_refl→Kp,lt_succ_self→Kq,lt_or_ge→Kx,zero_le→Ky
set_option linter.unusedSimpArgs false
set_option linter.unusedVariables false
set_option linter.unusedSectionVars false
set_option maxHeartbeats 8000000
open Nat renaming reduceAdd→jA,reduceSub→jB,reduceLT→jC,reduceLeDiff→jD,reduceEqDiff→jE
open Int renaming reduceToNat→jF,toNat_natCast→jG,natCast_add→jH,natCast_one→jI,natCast_zero→jJ
open List renaming length_map→jK,length_cons→jL,length_nil→jM,replicate_succ→jN,replicate_zero→jO,cons_append→jP,nil_append→jQ
namespace Go.Proofs.YtgbiopfghdilnaaGreatDoor
open Go.RowKit Go.Sort
attribute [local irreducible] IntKind.wrap
set_option maxHeartbeats 4000000
theorem pE(l:Li)(hr:bJ l=true)(h:Hp):aI Tryz.prog 48 [l.v] h (lst .leaf (l.vars.map V.str)):=by
 refine aH (fun L=>bO (fun L=>aS (f:=V.str) (fun _=>trivial) _) L) fun h' nx hh=>aC L.aWT fun hd=>?_;have hts:=fF hr;have C1:=fun h=>sW l hr h;have C2:=fun h=>oT .free l.ts or h;have hf:=Li.aAF l;obtain⟨X,hX⟩:∃X,l.v=X:=⟨_,rfl⟩;rw[hX] at C1 hf⊢;simp only[List.length_cons,List.length_nil,Nat.reduceAdd,Nat.reduceSub,List.replicate_succ,List.replicate_zero,List.cons_append,Ks,V.undef];refine aue (e2 hf trs.eq_1) ?_;exact aB h' (leo hd) ⟨rfl,rfl⟩
end Go.Proofs.YtgbiopfghdilnaaGreatDoor
namespace Go.Proofs.YtgbiopfghdilnaaGreatDoor
open Go.RowKit Go.Sort
attribute [local irreducible] IntKind.wrap
set_option maxHeartbeats 4000000
theorem yI(o:Own)(s:List ByteArray)(hl:s.length≤1000000000)(l:Li)(hr:bJ l=true)(h:Hp):aI Tryz.prog 93 [.sl .leaf o (s.map V.str),l.v] h (.bool (cE s l)):=by
 refine aH (fun L=>trivial) fun h' nx hh=>aC L.aV4 fun hd=>?_;obtain⟨hal,hbx,hby⟩:=iW hr;have hlx:=fY hbx;have hly:=fY hby
 have hf:=Li.aAF l;obtain⟨T,hT,htx,hty,htk,hto⟩:∃T,l.v= .agg T∧(.agg ((T.drop 4).take 6))=l.x.v∧(.agg ((T.drop 10).take 6))=l.y.v∧(V.agg T).cell 0= .int .i64 l.k∧(V.agg T).cell 3= .int .i64 l.op:=⟨_,rfl,by rw[Ex.aAW];rfl,by rw[Ex.aAW];rfl,rfl,rfl⟩;have aBY:bC (.agg 6) 4 (.agg T)=l.x.v:=htx;have aBX:bC (.agg 6) 10 (.agg T)=l.y.v:=hty;have hXf:=Ex.aAF l.x;have hYf:=Ex.aAF l.y;have D1:=fun h=>wS l.x h;have D2:=fun h=>wS l.y h;obtain⟨ox,hox⟩:=bR .leaf ((nmL [] l.x.ts).map V.str);obtain⟨oy,hoy⟩:=bR .leaf ((nmL [] l.y.ts).map V.str);have C1:=fun h=>jV o s hl (bQ l.x) h;have E1:=fun h=>jV o s hl (bQ l.y) h;have C2:=fun h=>ns l.y hby h;have E2:=fun h=>ns l.x hbx h;have lx:=iE l.x.ts [];have ly:=iE l.y.ts [];simp only[jM] at lx ly;have C3:=fun h=>vP o oy s (nmL [] l.y.ts) hl or h;have E3:=fun h=>vP o ox s (nmL [] l.x.ts) hl or h;rw[hoy] at C2;rw[hox] at E2;obtain⟨X,hX⟩:∃X,l.x.v=X:=⟨_,rfl⟩;obtain⟨Y,hY⟩:∃Y,l.y.v=Y:=⟨_,rfl⟩;rw[hX] at D1 E2 hXf aBY;rw[hY] at D2 C2 hYf aBX;rw[hT] at hf⊢;unfold cE;simp only[jL,jM,jA,jB,jN,jO,jP,jQ,V.undef];by_cases hk:l.k=3
 ·have g1:(l.k != 3)=false:=bnf;by_cases hop:l.op=1
  ·have g2:(l.op != 1)=false:=bnf;generalize bQ l.x=A at*;generalize bQ l.y=B at*;generalize nmL [] l.x.ts=XS at*;generalize nmL [] l.y.ts=YS at*;have aUO:decide (l.k=3∧l.op=1)=true:=decide_eq_true ⟨hk,hop⟩;rw[aUO,Kw];by_cases z1:A.size=0
   ·have z1d:decide ((0:Int)<(A.size:Int))=false:=dcf;refine aue (e10 hf htk hto g1 g2 aBY aBX hXf hYf z1d) ?_;clear C1 C2 C3;have C1:=E1;have C2:=E2;have C3:=E3;clear E1 E2 E3;by_cases z2:B.size=0
    ·have z2d:decide ((0:Int)<(B.size:Int))=false:=dcf;simp only[z2d,go_sem,reduceIte,jA,jB,jC,jD,reduceCtorEq,jE,jF];refine aue (e6 hf aBY aBX hXf hYf z2d) ?_;refine aB h' (leo hd) ⟨?_,rfl⟩;simp_all
    have z2d:decide ((0:Int)<(B.size:Int))=true:=dct;cases b2:bB B s with
    |true=>
     rw[b2] at C1;simp only[z2d,go_sem,reduceIte,jA,jB,jC,jD,reduceCtorEq,jE,jF];refine aue (e6 hf aBY aBX hXf hYf z2d) ?_;refine aB h' (leo hd) ⟨?_,rfl⟩;simp_all
    |false=>
     rw[b2] at C1;cases a2:gU s XS with
     |false=>
      rw[a2] at C3;simp only[z2d,go_sem,reduceIte,jA,jB,jC,jD,reduceCtorEq,jE,jF];refine aue (e6 hf aBY aBX hXf hYf z2d) ?_;refine aB h' (leo hd) ⟨?_,rfl⟩;simp_all
     |true=>
      rw[a2] at C3;simp only[z2d,go_sem,reduceIte,jA,jB,jC,jD,reduceCtorEq,jE,jF];refine aue (e6 hf aBY aBX hXf hYf z2d) ?_;refine aB h' (leo hd) ⟨?_,rfl⟩;simp_all
   have z1d:decide ((0:Int)<(A.size:Int))=true:=dct;cases b1:bB A s with
   |true=>
    rw[b1] at C1;refine aue (e10 hf htk hto g1 g2 aBY aBX hXf hYf z1d) ?_;clear C1 C2 C3;have C1:=E1;have C2:=E2;have C3:=E3;clear E1 E2 E3;by_cases z2:B.size=0
    ·have z2d:decide ((0:Int)<(B.size:Int))=false:=dcf;simp only[z2d,go_sem,reduceIte,jA,jB,jC,jD,reduceCtorEq,jE,jF];refine aue (e6 hf aBY aBX hXf hYf z2d) ?_;refine aB h' (leo hd) ⟨?_,rfl⟩;simp_all
    have z2d:decide ((0:Int)<(B.size:Int))=true:=dct;cases b2:bB B s with
    |true=>
     rw[b2] at C1;simp only[z2d,go_sem,reduceIte,jA,jB,jC,jD,reduceCtorEq,jE,jF];refine aue (e6 hf aBY aBX hXf hYf z2d) ?_;refine aB h' (leo hd) ⟨?_,rfl⟩;simp_all
    |false=>
     rw[b2] at C1;cases a2:gU s XS with
     |false=>
      rw[a2] at C3;simp only[z2d,go_sem,reduceIte,jA,jB,jC,jD,reduceCtorEq,jE,jF];refine aue (e6 hf aBY aBX hXf hYf z2d) ?_;refine aB h' (leo hd) ⟨?_,rfl⟩;simp_all
     |true=>
      rw[a2] at C3;simp only[z2d,go_sem,reduceIte,jA,jB,jC,jD,reduceCtorEq,jE,jF];refine aue (e6 hf aBY aBX hXf hYf z2d) ?_;refine aB h' (leo hd) ⟨?_,rfl⟩;simp_all
   |false=>
    rw[b1] at C1;cases a1:gU s YS with
    |false=>
     rw[a1] at C3;refine aue (e10 hf htk hto g1 g2 aBY aBX hXf hYf z1d) ?_;clear C1 C2 C3;have C1:=E1;have C2:=E2;have C3:=E3;clear E1 E2 E3;by_cases z2:B.size=0
     ·have z2d:decide ((0:Int)<(B.size:Int))=false:=dcf;simp only[z2d,go_sem,reduceIte,jA,jB,jC,jD,reduceCtorEq,jE,jF];refine aue (e6 hf aBY aBX hXf hYf z2d) ?_;refine aB h' (leo hd) ⟨?_,rfl⟩;simp_all
     have z2d:decide ((0:Int)<(B.size:Int))=true:=dct;cases b2:bB B s with
     |true=>
      rw[b2] at C1;simp only[z2d,go_sem,reduceIte,jA,jB,jC,jD,reduceCtorEq,jE,jF];refine aue (e6 hf aBY aBX hXf hYf z2d) ?_;refine aB h' (leo hd) ⟨?_,rfl⟩;simp_all
     |false=>
      rw[b2] at C1;cases a2:gU s XS with
      |false=>
       rw[a2] at C3;simp only[z2d,go_sem,reduceIte,jA,jB,jC,jD,reduceCtorEq,jE,jF];refine aue (e6 hf aBY aBX hXf hYf z2d) ?_;refine aB h' (leo hd) ⟨?_,rfl⟩;simp_all
      |true=>
       rw[a2] at C3;simp only[z2d,go_sem,reduceIte,jA,jB,jC,jD,reduceCtorEq,jE,jF];refine aue (e6 hf aBY aBX hXf hYf z2d) ?_;refine aB h' (leo hd) ⟨?_,rfl⟩;simp_all
    |true=>
     rw[a1] at C3;refine aue (e10 hf htk hto g1 g2 aBY aBX hXf hYf z1d) ?_;refine aB h' (leo hd) ⟨?_,rfl⟩;simp_all
  have g2:(l.op != 1)=true:=bnt;refine aue (e5 hf htk hto g1 g2) ?_;refine aB h' (leo hd) ⟨?_,rfl⟩;rw[decide_eq_false (fun e=>hop e.2)];rfl
 have g1:(l.k != 3)=true:=bnt;refine aue (e3 hf htk g1) ?_;refine aB h' (leo hd) ⟨?_,rfl⟩;rw[decide_eq_false (fun e=>hk e.1)];rfl
set_option maxHeartbeats 4000000
theorem nw:∀(b:List Li) (o:List ByteArray),nmL o (b.flatMap Li.ts)=b.foldl (fun o l=>nmL o l.ts) o
 | [],o=>rfl
 |l::b,o=>by rw[Km,xF,nw b];rfl
theorem af:∀(b:List Li),(∀l∈b,bJ l=true)→(b.flatMap Li.ts).length≤b.length*2097158
 | [],_=>Zm
 |l::b,h=>by
  have h1:=af b fun x hx=>h x (Ki _ hx);have h2:=fF (h l Kj);rw[Km,Kb,jL];omega
theorem rf(r:Ru)(hr:bM r=true)(h:Hp):aI Tryz.prog 181 [r.v] h (lst .leaf (r.vars.map V.str)):=by
 refine aH (fun L=>bO (fun L=>aS (f:=V.str) (fun _=>trivial) _) L) fun h' nx hh=>aC L.aSx fun hd=>?_;have hd:aQ h' nx:=hd;obtain⟨b1,b2,b3⟩:=cF hr;simp only[jL,jM,jA,jB,jN,jO,jP,jQ,V.undef];have aOV:(r.h.l.length*48≤140737488355328)=True:=eq_true or;refine aue (e4 Ru.v.eq_1 trs.eq_1 (@jK Tr V) aOV) ?_
 refine aO (fun q:Nat×Nat=>aD 27 0 [(1, .ptr nx (.agg 6) 0 0),(3, .sl (.agg 4) (.tok q.2) ((r.h.l++(r.b.take q.1).flatMap Li.ts).map Tr.v)),(4, .int .i64 q.1)])
  (fun q hp nx1=>q.1≤r.b.length∧nx+1≤nx1∧aQ hp nx1∧Hp.same nx h' hp∧hp nx=some (.arr (.agg 6) [.agg [.str r.h.r, .sl (.agg 4) r.h.o (r.h.l.map Tr.v), .int .i64 r.g, .int .i64 r.c, .sl (.agg 17) r.o (r.b.map Li.v), .int .i64 r.at_]])∧nx<q.2∧hp q.2=some .tip)
  (fun q=>r.b.length-q.1) (0,nx+2) ⟨Ky _,Zw,by exact dmo hd,by exact kep Hp.same.aA0,by simp only[go_sem,reduceIte,jA,jB,jC,jD,reduceCtorEq,jE,jF],Zw,by simp only[go_sem,reduceIte,jA,jB,jC,jD,reduceCtorEq,jE,jF]⟩ (by simp only[WkL,aD,jH,jI,jJ,jK,Kv,List.flatMap_nil,Kt,go_sem,reduceIte,jA,jB,jC,jD,reduceCtorEq,jE,jF]) ?_
 rintro⟨i,id⟩ hp nx1 ⟨hi,hnx,hdm,hsm,hb,hid,hti⟩;generalize hQ:aX _ _ _ _ _=Q0;dsimp only at hi hid hti;simp only[aD,go_sem,reduceIte,jA,jB,jC,jD,reduceCtorEq,jE,jF];have n1:nx<nx1:=or;have hle:=hsm.le hd (Hp.le_refl _);have hfl:=af r.b b3;have aTc:∀j,(r.h.l++(r.b.take j).flatMap Li.ts).length≤16777270:=fun j=>by
  have h1:=af (r.b.take j) fun l hl=>b3 l (List.mem_of_mem_take hl);have h2:(r.b.take j).length≤r.b.length:=by rw[Ko];omega
  rw[Kb];omega
 rcases Kx i r.b.length with hlt|hge
 ·have hc:decide ((i:Int)<(r.b.length:Int))=true:=dct;have hg:=aM Li.v r.b i hlt;have hw:IntKind.i64.wrap ((i:Int)+1)=((i+1:Nat):Int):=wrp;have htk:r.h.l++(r.b.take (i+1)).flatMap Li.ts=(r.h.l++(r.b.take i).flatMap Li.ts)++r.b[i].ts:=by
   rw[Ka hlt,List.flatMap_append,List.append_assoc];simp
  have hrl:=b3 r.b[i] (List.getElem_mem _);have hLi:=aTc i;generalize r.h.l++(r.b.take i).flatMap Li.ts=W at*;generalize r.b[i]=K at*;have hKt:=fF hrl;have C1:=fun h=>sW K hrl h;have hKf:=Li.aAF K;obtain⟨X,hX⟩:∃X,K.v=X:=⟨_,rfl⟩;rw[hX] at hg hKf C1;have hcap:((W.length+K.ts.length)*48≤140737488355328)=True:=eq_true or;have aGm:=hdm _ _ hti;have e1:(nx=id)=False:=fls;refine aue (e10 hc hg hlt hb n1 hKf (@jK Tr V) (@jK Li V) jG (e4 hcap hti e1 hw)) ?_;rw[←hQ];exact aE (i+1,nx1) Zw ⟨hlt,or,dmo hdm,fun m hm=>by rw[←hsm m hm];simp only[Hp.set,Hp.del];rw[if_neg or,if_neg or],by simp only[hb,e1,n1,go_sem,reduceIte,jA,jB,jC,jD,reduceCtorEq,jE,jF],Zw,by simp only[go_sem,reduceIte,jA,jB,jC,jD,reduceCtorEq,jE,jF]⟩ (by simp only[WkL,aD,jH,jI,jJ,htk,Ke,go_sem,reduceIte,jA,jB,jC,jD,reduceCtorEq,jE,jF])
 have hc:decide ((i:Int)<(r.b.length:Int))=false:=dcf;have hLi:=aTc r.b.length;rw[Kf or] at*;have C1:=fun h=>oT (.tok id) (r.h.l++r.b.flatMap Li.ts) or h;have hv:nmL [] (r.h.l++r.b.flatMap Li.ts)=r.vars:=by rw[xF,nw];rfl
 rw[hv] at C1;refine aue (e4 hc hb n1 (@jK Li V)) ?_;rw[←hQ];refine au ?_;exact aB h' hle ⟨rfl,rfl⟩
set_option maxHeartbeats 4000000
theorem mt(r:Ru)(hr:bM r=true)(o:Own)(s:List ByteArray)(hl:s.length≤1000000000)(b:Bool)(h:Hp):aI Tryz.prog 142 [r.v, .sl .leaf o (s.map V.str), .bool b] h (lst .leaf ((bY r s b).map V.str)):=by
 refine cP (fun L=>bO (fun L=>aS (f:=V.str) (fun _=>trivial) _) L) fun h' nx hh=>aC L.aVF fun hd=>?_;have hd:aQ h' nx:=hd;have hvl:r.vars.length≤16777270:=by
  have:=xX hr r.b.length;rw[List.take_length] at this;exact this
 obtain⟨ov,hov⟩:=bR .leaf (r.vars.map V.str);have C1:=fun h=>rf r hr h;rw[hov] at C1;have hf:r.v.fits (.agg 6)=true:=rfl;obtain⟨X,hX⟩:∃X,r.v=X:=⟨_,rfl⟩;rw[hX] at C1 hf⊢;simp only[jL,jM,jA,jB,jN,jO,jP,jQ,V.undef];refine aue hf ?_;clear C1;unfold bY;generalize r.vars=vs at*
 refine aO (fun q:Nat×Own=>aD 34 0 [(1, .sl .leaf o (s.map V.str)),(2, .bool b),(7, .sl .leaf q.2 (((vs.take q.1).filter fun v=>bB v s==b).map V.str)),(8, .sl .leaf ov (vs.map V.str)),(9, .int .i64 q.1)])
  (fun q hp nx1=>q.1≤vs.length∧nx≤nx1∧aQ hp nx1∧Hp.same nx h' hp∧Acc hp nx q.2 (((vs.take q.1).filter fun v=>bB v s==b).map V.str))
  (fun q=>vs.length-q.1) (0, .nil) ⟨Ky _,Zw,by exact dmo hd,by exact kep Hp.same.aA0, .inl ⟨rfl,rfl⟩⟩ (by simp only[WkL,aD,jH,jI,jJ,jK,Kv,List.filter_nil,go_sem,reduceIte,jA,jB,jC,jD,reduceCtorEq,jE,jF]) ?_
 rintro⟨i,oo⟩ hp nx1 ⟨hi,hnx,hdm,hsm,aAK⟩;generalize hQ:aX _ _ _ _ _=Q0;dsimp only at hi aAK;simp only[aD,go_sem,reduceIte,jA,jB,jC,jD,reduceCtorEq,jE,jF];rcases Kx i vs.length with hlt|hge
 ·have hc:decide ((i:Int)<(vs.length:Int))=true:=dct;have hg:=aM V.str vs i hlt;have hw:IntKind.i64.wrap ((i:Int)+1)=((i+1:Nat):Int):=wrp;have hN:(vs.take (i+1)).filter (fun v=>bB v s==b)=(vs.take i).filter (fun v=>bB v s==b)++(if (bB vs[i] s==b)=true then [vs[i]] else []):=by
   rw[Ka hlt,List.filter_append];congr 1;cases hq:bB vs[i] s==b<;>simp[hq]
  have hWl:((vs.take i).filter fun v=>bB v s==b).length≤16777270:=by
   have:=List.length_filter_le (fun v=>bB v s==b) (vs.take i);rw[Ko] at this;omega
  generalize ((vs.take i).filter fun v=>bB v s==b)=W at*;generalize vs[i]=x at*;have C1:=fun h=>jV o s hl x h;have hml:(W.map V.str).length=W.length:=jK ..;cases he:bB x s==b with
  |false=>
   rw[he,if_neg Zm,Kt] at hN;refine aue (e6 hc hg hlt hw he (@jK ByteArray V)) ?_;rw[←hQ];exact aE (i+1,oo) Zw ⟨hlt,or,dmo hdm,kep hsm,by dsimp only;rw[hN];exact aAK⟩ (by simp only[WkL,aD,jH,jI,jJ,hN,go_sem,reduceIte,jA,jB,jC,jD,reduceCtorEq,jE,jF])
  |true=>
   rw[he,if_pos rfl] at hN;refine aue (e8 hc hg hlt hw he hml hWl (@jK ByteArray V)) ?_;rw[←hQ];refine aE (i+1, .tok (nx1+1)) Zw ⟨hlt,or,dmo hdm,rM hsm aAK,?_⟩ (by simp only[WkL,aD,jH,jI,jJ,hN,Ke,List.map_cons,List.map_nil,go_sem,reduceIte,jA,jB,jC,jD,reduceCtorEq,jE,jF]);dsimp only;rw[hN,Ke];exact Acc.new _ Zm or
 have hc:decide ((i:Int)<(vs.length:Int))=false:=dcf;rw[Kf or] at aAK⊢;refine aue (e2 hc (@jK ByteArray V)) ?_;rw[←hQ];refine au ?_;refine aB h' (hsm.le hd (Hp.le_refl _)) ⟨?_,Hp.le_refl _⟩;exact kA aAK
end Go.Proofs.YtgbiopfghdilnaaGreatDoor
namespace Go.Proofs.YtgbiopfghdilnaaGreatDoor
open Go.RowKit Go.Sort
def wT(s:List ByteArray)(l:Li):Bool:=decide (l.k=3∧l.op=1)&&
 ((decide ((bQ l.x).size≠0)&&gU s (nmL [] l.y.ts))||(decide ((bQ l.y).size≠0)&&gU s (nmL [] l.x.ts)))
theorem Cb{s:List ByteArray}{l:Li}(h:cE s l=true):wT s l=true:=by
 unfold cE at h;unfold wT;simp only[Kc,Kg,decide_eq_true_eq] at h⊢;exact⟨h.1,h.2.imp (fun e=>⟨e.1.1,e.2⟩) fun e=>⟨e.1.1,e.2⟩⟩
theorem zz{s t:List ByteArray}{l:Li}(hst:∀x∈s,x∈t)(h:wT s l=true):wT t l=true:=by
 unfold wT at h⊢;simp only[Kc,Kg,decide_eq_true_eq] at h⊢;exact⟨h.1,h.2.imp (fun e=>⟨e.1,qL hst e.2⟩) fun e=>⟨e.1,qL hst e.2⟩⟩
theorem CH{l:Li}(h:bJ l=true)(hk:l.k=3):l.a.l=[]:=by
 unfold bJ at h;rw[if_neg or] at h;simp only[Kc,decide_eq_true_eq] at h;exact h.1.1.2.2.1
theorem wn{s:List ByteArray}{l:Li}(hr:bJ l=true)(h:wT s l=true)(hn:cE s l=false):∀v∈l.vars,v∈s:=by
 intro v hv;unfold wT at h;unfold cE at hn;simp only[Kc,Kg,decide_eq_true_eq] at h;rw[decide_eq_true h.1,Kw,Bool.or_eq_false_iff] at hn;obtain⟨t,ht,hx,hz⟩:=oa.1 hv;unfold Li.ts at ht;rw[CH hr h.1.1,Ks,Kh] at ht;rcases h.2 with⟨h1,h2⟩|⟨h1,h2⟩
 ·have hh:bB (bQ l.x) s=true:=by
   have:=hn.1;rw[decide_eq_true h1,h2] at this;simpa using this
  rcases ht with ht|ht
  ·obtain⟨g1,g2⟩:=bq h1;rw[g1,Kk] at ht;rw[←hx,ht,←g2];exact dB.1 hh
  exact iQ.1 h2 v (xI.2 (.inr ⟨t,ht,hx,hz⟩))
 have hh:bB (bQ l.y) s=true:=by
  have:=hn.2;rw[decide_eq_true h1,h2] at this;simpa using this
 rcases ht with ht|ht
 ·exact iQ.1 h2 v (xI.2 (.inr ⟨t,ht,hx,hz⟩))
 obtain⟨g1,g2⟩:=bq h1;rw[g1,Kk] at ht;rw[←hx,ht,←g2];exact dB.1 hh
inductive Grow(b:List Li)(s:List ByteArray):List ByteArray→Prop
 |refl:Grow b s s
 |step {t:List ByteArray} {l:Li} (g:Grow b s t) (hl:l∈b) (h:cE t l=true):Grow b s (t++l.vars)
theorem Grow.trans{b:List Li}{s t u:List ByteArray}(g:Grow b s t)(k:Grow b t u):Grow b s u:=by
 induction k with
 |refl=>exact g
 |step _ hl h ih=>exact ih.step hl h
theorem Grow.least{b:List Li}{s t u:List ByteArray}(g:Grow b s t)(hs:∀x∈s,x∈u)(hc:∀l∈b,wT u l=true→∀v∈l.vars,v∈u):∀x∈t,x∈u:=by
 induction g with
 |refl=>exact hs
 |step g hl h ih=>
  intro x hx;rcases Kh.1 hx with hx|hx
  ·exact ih x hx
  exact hc _ hl (zz ih (Cb h)) x hx
theorem Grow.sub{b:List Li}{s t:List ByteArray}(g:Grow b s t):∀x∈s,x∈t:=by
 induction g with
 |refl=>exact fun x h=>h
 |step g hl h ih=>exact fun x hx=>Kh.2 (.inl (ih x hx))
theorem Grow.same{b:List Li}{s t u:List ByteArray}(hb:∀l∈b,bJ l=true)(g:Grow b s t)(k:Grow b s u)(ht:∀l∈b,cE t l=false)(hu:∀l∈b,cE u l=false)(x:ByteArray):x∈t↔x∈u:=
 ⟨g.least k.sub (fun l hl h=>wn (hb l hl) h (hu l hl)) x,k.least g.sub (fun l hl h=>wn (hb l hl) h (ht l hl)) x⟩
theorem wO(b:List Li):∀(n:Nat) (s:List ByteArray),Grow b s (dW b n s)
 |0,s=> .refl
 |n+1,s=>by
  unfold dW;cases hf:b.find? (cE s) with
  |none=>exact .refl
  |some l=>exact(Grow.refl.step (Kd hf) (Ku hf)).trans (wO b n _)
theorem bj(b:List Li):∀(n:Nat) (s:List ByteArray),aAd b s≤n→∀l∈b,cE (dW b n s) l=false
 |n,s,h,l,hl=>by
  cases hf:b.find? (cE s) with
  |none=>
   rw[wQ hf];simpa using List.find?_eq_none.1 hf l hl
  |some a=>
   have hlt:=lZ (Kd hf) (Ku hf);cases n with
   |zero=>omega
   |succ n=>
    unfold dW;rw[hf];exact bj b n _ or l hl
def dN(b:List Li)(s:List ByteArray):List ByteArray:=b.foldl (fun s l=>if cE s l=true then s++l.vars else s) s
def fJ(b:List Li):Nat→List ByteArray→List ByteArray
 |0,s=>s
 |n+1,s=>if (dN b s).length=s.length then dN b s else fJ b n (dN b s)
def mN(r:Ru):List ByteArray:=fJ r.b (aAd r.b (iR r.b)+1) (iR r.b)
theorem rI(a:Li)(b:List Li)(s:List ByteArray):dN (a::b) s=dN b (if cE s a=true then s++a.vars else s):=rfl
theorem r9(b:List Li)(s:List ByteArray)(i:Nat)(h:i<b.length):dN (b.take (i+1)) s=if cE (dN (b.take i) s) b[i]=true then dN (b.take i) s++b[i].vars else dN (b.take i) s:=by
 unfold dN;rw[Ka h,List.foldl_append];rfl
theorem iY(c:List Li):∀(b:List Li) (s:List ByteArray),(∀l∈b,l∈c)→Grow c s (dN b s)
 | [],s,_=> .refl
 |a::b,s,h=>by
  rw[rI];have hb:=fun l hl=>h l (Ki _ hl);split
  ·rename_i hs;exact(Grow.refl.step (h a Kj) hs).trans (iY c b _ hb)
  exact iY c b _ hb
theorem w6{s:List ByteArray}{l:Li}(h:cE s l=true):l.vars.length≠0:=by
 intro e;have:=ez h;rw[List.length_eq_zero_iff.1 e] at this;cases this
theorem yX:∀(b:List Li) (s:List ByteArray),s.length≤(dN b s).length
 | [],s=>Kp _
 |a::b,s=>by
  rw[rI];split
  ·have:=yX b (s++a.vars);rw[Kb] at this;omega
  exact yX b s
theorem nE:∀(b:List Li) (s:List ByteArray),(dN b s).length=s.length→dN b s=s∧∀l∈b,cE s l=false
 | [],s,_=>⟨rfl,fun l hl=>by cases hl⟩
 |a::b,s,h=>by
  rw[rI] at h⊢;split at h
  ·rename_i hs;have h1:=yX b (s++a.vars);have h2:=w6 hs;rw[Kb] at h1;omega
  rename_i hs;obtain⟨h1,h2⟩:=nE b s h;rw[if_neg hs];refine⟨h1,fun l hl=>?_⟩;rcases List.mem_cons.1 hl with rfl|hl
  ·simpa using hs
  exact h2 l hl
theorem Grow.aAd{b:List Li}{s t:List ByteArray}(g:Grow b s t):t=s∨aAd b t<aAd b s:=by
 induction g with
 |refl=>exact .inl rfl
 |@step t l g hl h ih=>
  have:=lZ hl h;rcases ih with rfl|e
  ·exact .inr this
  exact .inr or
theorem pY{b:List Li}{s:List ByteArray}(h:(dN b s).length≠s.length):aAd b (dN b s)<aAd b s:=by
 rcases(iY b b s fun _ h=>h).aAd with e|e
 ·rw[e] at h;exact absurd rfl h
 exact e
theorem Grow.len{b:List Li}(hb:∀l∈b,bJ l=true){s t:List ByteArray}(g:Grow b s t):t.length+Go.Proofs.YtgbiopfghdilnaaGreatDoor.aAd b t*2097158≤s.length+Go.Proofs.YtgbiopfghdilnaaGreatDoor.aAd b s*2097158:=by
 induction g with
 |refl=>exact Kp _
 |@step t l g hl h ih=>
  have h1:=lZ hl h;have h2:=gM (hb l hl);rw[Kb];have:=Nat.mul_le_mul_right 2097158 h1;omega
theorem nN(b:List Li):∀(n:Nat) (s:List ByteArray),Go.Proofs.YtgbiopfghdilnaaGreatDoor.aAd b s<n→Grow b s (fJ b n s)∧∀l∈b,cE (fJ b n s) l=false
 |0,s,h=>or
 |n+1,s,h=>by
  have hg:=iY b b s fun _ h=>h;unfold fJ;split
  ·rename_i hs;obtain⟨h1,h2⟩:=nE b s hs;rw[h1];exact⟨.refl,h2⟩
  rename_i hs;have:=pY hs;obtain⟨h1,h2⟩:=nN b n (dN b s) or;exact⟨hg.trans h1,h2⟩
theorem ug{r:Ru}(hr:bM r=true)(x:ByteArray):x∈mN r↔x∈dJ r:=by
 obtain⟨b1,b2,b3⟩:=cF hr;obtain⟨h1,h2⟩:=nN r.b _ _ (Kq (Go.Proofs.YtgbiopfghdilnaaGreatDoor.aAd r.b (iR r.b)));exact Grow.same b3 h1 (wO _ _ _) h2 (bj _ _ _ (Kp _)) x
theorem tJ(b:List Li):∀(n k:Nat) (s:List ByteArray),Go.Proofs.YtgbiopfghdilnaaGreatDoor.aAd b s<n→Go.Proofs.YtgbiopfghdilnaaGreatDoor.aAd b s<k→fJ b n s=fJ b k s
 |0,_,_,h,_=>or
 |_+1,0,_,_,h=>or
 |n+1,k+1,s,h1,h2=>by
  unfold fJ;split
  ·rfl
  rename_i hs;have:=pY hs;exact tJ b n k _ or or
theorem j6{b:List Li}{s:List ByteArray}(h:(dN b s).length≠s.length):fJ b (Go.Proofs.YtgbiopfghdilnaaGreatDoor.aAd b s+1) s=fJ b (Go.Proofs.YtgbiopfghdilnaaGreatDoor.aAd b (dN b s)+1) (dN b s):=by
 have:=pY h;conv=>lhs;unfold fJ
 rw[if_neg h];exact tJ b _ _ _ this (Kq _)
theorem j7{b:List Li}{s:List ByteArray}(n:Nat)(h:(dN b s).length=s.length):fJ b (n+1) s=s:=by
 unfold fJ;rw[if_pos h,(nE b s h).1]
theorem wz{r:Ru}(hr:bM r=true)(b:Bool):bY r (mN r) b=bY r (dJ r) b:=by
 unfold bY;refine List.filter_congr fun v _=>?_;congr 1;rw[Bool.eq_iff_iff,dB,dB];exact ug hr v
end Go.Proofs.YtgbiopfghdilnaaGreatDoor
