/-
Texts of this proof,one behind the other. No conditions.
-/
import Derived.Test.YtgbiopfghdilnaaGreatDoorKd
import Derived.Test.YtgbiopfghdilnaaGreatDoorKe
import Derived.Test.YtgbiopfghdilnaaGreatDoorKh
import Derived.Test.YtgbiopfghdilnaaGreatDoorKi
import Derived.Test.YtgbiopfghdilnaaGreatDoorKg
open Go.Proofs.YtgbiopfghdilnaaGreatDoor.V renaming undef→Ka
open Go.Proofs.YtgbiopfghdilnaaGreatDoor.Hp renaming le_refl→Kb,set→Kc,del→Kd,same→Kf
open List renaming take_succ_eq_append_getElem→Ke,getD_eq_getElem?_getD→Kh,getElem_mem→Ki,map_append→Kk,take_length→Km,drop_eq_getElem_cons→Ko,drop_eq_nil_of_le→Kq,sizeOf_lt_of_mem→Ks,filter_append→Ku,map_nil→Kv,map_map→Kw,take_of_length_le→Kx,take_zero→Ky,filter_eq_self→Kz,append_assoc→KA,drop_drop→KB,map_cons→KC,mem_map→KE,drop→KF
open Nat renaming le_refl→Kg,lt_or_ge→Kj,zero_le→Kp
open Go.IntKind renaming wrap→Kt
open Function renaming comp→KD
open Nat renaming reduceAdd→jA,reduceSub→jB,reduceLT→jC,reduceLeDiff→jD,reduceEqDiff→jE
open Int renaming reduceToNat→jF,toNat_natCast→jG,natCast_add→jH,natCast_one→jI,natCast_zero→jJ
open List renaming length_map→jK,length_cons→jL,length_nil→jM,replicate_succ→jN,replicate_zero→jO,cons_append→jP,nil_append→jQ
set_option linter.unusedSimpArgs false
set_option linter.unusedVariables false
set_option linter.unusedSectionVars false
set_option maxHeartbeats 8000000
namespace Go.Proofs.YtgbiopfghdilnaaGreatDoor
open Go.RowKit Go.Sort
attribute [local irreducible] Kt
set_option maxHeartbeats 4000000
theorem dv(n:Nat)(h:n≤300000000000000):IntKind.i64.wrap ((n:Int).tdiv 50)=((n / 50:Nat):Int):=by
 have e:((n / 50:Nat):Int)=(n:Int).tdiv 50:=Int.ofNat_tdiv n 50;rw[←e];exact fH or or
theorem mf(t:Tr)(r:List Tr)(l:Int):gC (t::r) l=if l-dR t<0 then-1 else gC r (l-dR t):=rfl
theorem ti(k:Ex)(r:List Ex)(l:Int):gK (k::r) l=if l<0 then-1 else gK r (jW k l):=by rw[gK]
theorem zh(l:Int):gK [] l=l:=by rw[gK]
theorem sx(b:Li)(r:List Li)(l:Int):oX (b::r) l=if l<0 then-1 else oX r (uY b l):=rfl
theorem zT(a:Am)(ha:a.s47)(l:Int)(hl:-100000000000000≤l∧l≤300)(h:Hp):aI Tryz.prog 34 [a.v, .int .i64 l] h (.int .i64 (eR a l)):=by
 refine aH (fun L=>trivial) fun h' nx hh=>aC L.aWn fun hd=>?_;obtain⟨r,o,ts⟩:=a;simp only[jL,jM,jA,jB,jN,jO,jP,jQ,Ka];have hn:=sK ha;have hr:r.size≤nW:=ha.1;unfold nW at hr;dsimp only at hn;have d1:=dv r.size or;have hat:eR ⟨r,o,ts⟩ l=gC ts (l-(1+((r.size / 50:Nat):Int))):=rfl;rw[hat];generalize ((r.size / 50:Nat):Int)=D at hn d1;have d2:IntKind.i64.wrap (1+D)=1+D:=wrp;have d3:IntKind.i64.wrap (l-(1+D))=l-(1+D):=wrp;refine aue (e6 Am.v.eq_1 d1 d2 d3 trs.eq_1 (@jK Tr V)) ?_
 refine aO (fun q:Nat×Int=>aD 37 0 [(1, .int .i64 q.2),(15,trs o ts),(16, .int .i64 ts.length),(17, .int .i64 q.1)])
  (fun q hp nx1=>q.1≤ts.length∧nx≤nx1∧aQ hp nx1∧Kf nx h' hp∧gC ts (l-(1+D))=gC (ts.drop q.1) q.2∧-200000000000000≤q.2∧q.2≤300-q.1∧q.1≤301)
  (fun q=>ts.length-q.1) (0,l-(1+D)) ⟨Kp _,Zw,by exact dmo hd,by exact kep Hp.same.aA0,rfl,Zw,Zw,Zw⟩ (by simp only[WkL,aD,jH,jI,jJ,trs,go_sem,reduceIte,jA,jB,jC,jD,reduceCtorEq,jE,jF]) ?_
 rintro⟨i,c⟩ hp nx1 ⟨hi,hnx,hdm,hsm,hTe,hb1,hb2,hb3⟩;generalize hQ:aX _ _ _ _ _=Q0;dsimp only at hi hTe hb1 hb2 hb3;simp only[aD,go_sem,reduceIte,jA,jB,jC,jD,reduceCtorEq,jE,jF];have hle:=hsm.le hd (Kb _);rcases Kj i ts.length with hlt|hge
 ·have hc:decide ((i:Int)<(ts.length:Int))=true:=dct;have hg:=aM Tr.v ts i hlt;have hdr:ts.drop i=ts[i]::ts.drop (i+1):=Ko hlt;have aTI:ts[i].s47:=ha.2 _ (Ki _);have hcb:=nB aTI;rw[hdr,mf] at hTe;have hct:dR ts[i]=1+((ts[i].x.size+ts[i].w.s.size)/ 50:Nat):=rfl;obtain⟨q1,q2⟩:=aTI;unfold nW at q1 q2;obtain⟨N,hN⟩:∃N,ts[i].x.size+ts[i].w.s.size=N:=⟨_,rfl⟩;rw[hN] at hct;have w1:IntKind.i64.wrap ((ts[i].x.size:Int)+(ts[i].w.s.size:Int))=(N:Int):=wrp;have w2:=dv N or;obtain⟨D2,hD2⟩:∃D2,N / 50=D2:=⟨_,rfl⟩;rw[hD2] at w2 hct;have w3:IntKind.i64.wrap (1+(D2:Int))=dR ts[i]:=wrp;have w4:IntKind.i64.wrap (c-dR ts[i])=c-dR ts[i]:=wrp;by_cases aBl:c-dR ts[i]<0
  ·have g1:decide (c-dR ts[i]<0)=true:=dct;rw[if_pos aBl] at hTe;refine aue (e12 hc hg hlt w1 w2 w3 w4 g1 Tr.v.eq_1 trs.eq_1 (@jK Tr V) jG) ?_;rw[←hQ];refine au ?_;refine aB h' (lef hd hle) ⟨?_,rfl⟩;rw[hTe];rfl
  have g1:decide (c-dR ts[i]<0)=false:=dcf;have hw:IntKind.i64.wrap ((i:Int)+1)=((i+1:Nat):Int):=wrp;rw[if_neg aBl] at hTe;refine aue (e13 hc hg hlt w1 w2 w3 w4 g1 Tr.v.eq_1 trs.eq_1 (@jK Tr V) jG hw) ?_;rw[←hQ];exact aE (i+1,c-dR ts[i]) Zw ⟨hlt,or,dmo hdm,kep hsm,hTe,Zw,Zw,Zw⟩ (by simp only[WkL,aD,jH,jI,jJ,trs,go_sem,reduceIte,jA,jB,jC,jD,reduceCtorEq,jE,jF])
 have hc:decide ((i:Int)<(ts.length:Int))=false:=dcf;refine aue hc ?_;rw[←hQ];refine au ?_;refine aB h' hle ⟨?_,rfl⟩;rw[hTe,Kq hge];rfl
theorem vA:∀(n:Nat) (e:Ex),SizeOf.sizeOf e≤n→e.s47→∀(l:Int),(-100000000000000≤l∧l≤300)→∀(h:Hp),aI Tryz.prog 35 [e.v, .int .i64 l] h (.int .i64 (jW e l))
 |0, .mk op t o ks,h,_,_,_,_=>by simp at h
 |n+1, .mk op t o ks,hz,hs,l,hl,h=>by
  have hcb:=nB hs.1;have hk:∀e∈ks,SizeOf.sizeOf e≤n∧e.s47:=fun e he=>by
   refine⟨?_,Ex.aA6.1 hs.2 e he⟩;have:=Ks he;simp only[Ex.mk.sizeOf_spec] at hz;omega
  refine aH (fun L=>trivial) fun h' nx hh=>aC L.aWm fun hd=>?_;rw[Ex.aAW];simp only[jL,jM,jA,jB,jN,jO,jP,jQ,Ka];have hat:jW (.mk op t o ks) l=gK ks (l-dR t):=by rw[jW]
  rw[hat];have hct:dR t=1+((t.x.size+t.w.s.size)/ 50:Nat):=rfl;obtain⟨q1,q2⟩:=hs.1;unfold nW at q1 q2;obtain⟨N,hN⟩:∃N,t.x.size+t.w.s.size=N:=⟨_,rfl⟩;rw[hN] at hct;have w1:IntKind.i64.wrap ((t.x.size:Int)+(t.w.s.size:Int))=(N:Int):=wrp;have w2:=dv N or;obtain⟨D2,hD2⟩:∃D2,N / 50=D2:=⟨_,rfl⟩;rw[hD2] at w2 hct;have w3:IntKind.i64.wrap (1+(D2:Int))=dR t:=wrp;have w4:IntKind.i64.wrap (l-dR t)=l-dR t:=wrp;refine aue (e10 Ex.cs.eq_1 Ex.op.eq_1 Ex.t.eq_1 Ex.o.eq_1 Ex.kids.eq_1 w1 w2 w3 w4 (@jK Ex V)) ?_
  refine aO (fun q:Nat×Int=>aD 35 0 [(1, .int .i64 q.2),(22, .sl (.agg 6) o (ks.map Ex.v)),(23, .int .i64 ks.length),(24, .int .i64 q.1)])
   (fun q hp nx1=>q.1≤ks.length∧nx≤nx1∧aQ hp nx1∧Kf nx h' hp∧gK ks (l-dR t)=gK (ks.drop q.1) q.2∧q.2≤300∧(0≤q.2→q.2≤300-q.1)∧q.1≤301)
   (fun q=>ks.length-q.1) (0,l-dR t) ⟨Kp _,Zw,by exact dmo hd,by exact kep Hp.same.aA0,rfl,Zw,Zw,Zw⟩ (by simp only[WkL,aD,jH,jI,jJ,go_sem,reduceIte,jA,jB,jC,jD,reduceCtorEq,jE,jF]) ?_
  rintro⟨i,c⟩ hp nx1 ⟨hi,hnx,hdm,hsm,hTe,hb2,hb4,hb3⟩;generalize hQ:aX _ _ _ _ _=Q0;dsimp only at hi hTe hb2 hb3 hb4;simp only[aD,go_sem,reduceIte,jA,jB,jC,jD,reduceCtorEq,jE,jF];have hle:=hsm.le hd (Kb _);rcases Kj i ks.length with hlt|hge
  ·have hc:decide ((i:Int)<(ks.length:Int))=true:=dct;have hg:=aM Ex.v ks i hlt;have hdr:ks.drop i=ks[i]::ks.drop (i+1):=Ko hlt;have hfl:=Ex.aAF ks[i];rw[hdr,ti] at hTe;by_cases aBl:c<0
   ·have g1:decide (c<0)=true:=dct;rw[if_pos aBl] at hTe;refine aue (e6 hc hg hlt g1 (@jK Ex V) (e2 hfl jG)) ?_;rw[←hQ];refine au ?_;refine aB h' (lef hd hle) ⟨?_,rfl⟩;rw[hTe];rfl
   have g1:decide (c<0)=false:=dcf;have hi3:=hb4 or;have hw:IntKind.i64.wrap ((i:Int)+1)=((i+1:Nat):Int):=wrp;rw[if_neg aBl] at hTe;obtain⟨hk1,hk2⟩:=hk _ (Ki hlt);have C1:=fun h=>vA n ks[i] hk1 hk2 c ⟨or,hb2⟩ h;have hbd:=pI n ks[i] hk1 hk2 c;refine aue (e7 hc hg hlt g1 (@jK Ex V) (e2 hfl jG) hw) ?_;rw[←hQ];exact aE (i+1,jW ks[i] c) Zw ⟨hlt,or,dmo hdm,kep hsm,hTe,Zw,Zw,Zw⟩ (by simp only[WkL,aD,jH,jI,jJ,go_sem,reduceIte,jA,jB,jC,jD,reduceCtorEq,jE,jF])
  have hc:decide ((i:Int)<(ks.length:Int))=false:=dcf;refine aue hc ?_;rw[←hQ];refine au ?_;refine aB h' hle ⟨?_,rfl⟩;rw[hTe,Kq hge];rw[zh];rfl
theorem sj(r:Ru)(hr:r.s47)(h:Hp):aI Tryz.prog 8 [r.v, .int .i64 300] h (.int .i64 (m6 r)):=by
 refine aH (fun L=>trivial) fun h' nx hh=>aC L.g2z fun hd=>?_;obtain⟨⟨hr',ho,hl⟩,g,c0,o,b,at_⟩:=r;simp only[jL,jM,jA,jB,jN,jO,jP,jQ,Ka];have C1:∀h:Hp,aI Tryz.prog 34 [.agg [.str hr', .sl (.agg 4) ho (hl.map Tr.v)], .int .i64 300] h (.int .i64 (eR ⟨hr',ho,hl⟩ 300)):=fun h=>zT ⟨hr',ho,hl⟩ hr.1 300 or h;have hab:=tM hr.1 300;have hat:m6 ⟨⟨hr',ho,hl⟩,g,c0,o,b,at_⟩=oX b (eR ⟨hr',ho,hl⟩ 300):=rfl;rw[hat];dsimp only at hab;generalize eR ⟨hr',ho,hl⟩ 300=A at C1 hab;refine aue (e2 Ru.v.eq_1 (@jK Li V)) ?_;clear C1
 refine aO (fun q:Nat×Int=>aD 32 0 [(1, .int .i64 q.2),(12, .sl (.agg 17) o (b.map Li.v)),(13, .int .i64 b.length),(14, .int .i64 q.1)])
  (fun q hp nx1=>q.1≤b.length∧nx≤nx1∧aQ hp nx1∧Kf nx h' hp∧oX b A=oX (b.drop q.1) q.2∧q.2≤300∧(0≤q.2→q.2≤300-q.1)∧q.1≤301)
  (fun q=>b.length-q.1) (0,A) ⟨Kp _,Zw,by exact dmo hd,by exact kep Hp.same.aA0,rfl,Zw,Zw,Zw⟩ (by simp only[WkL,aD,jH,jI,jJ,go_sem,reduceIte,jA,jB,jC,jD,reduceCtorEq,jE,jF]) ?_
 rintro⟨i,c⟩ hp nx1 ⟨hi,hnx,hdm,hsm,hTe,hb2,hb4,hb3⟩;generalize hQ:aX _ _ _ _ _=Q0;dsimp only at hi hTe hb2 hb3 hb4;simp only[aD,go_sem,reduceIte,jA,jB,jC,jD,reduceCtorEq,jE,jF];have hle:=hsm.le hd (Kb _);rcases Kj i b.length with hlt|hge
 ·have hc:decide ((i:Int)<(b.length:Int))=true:=dct;have hg:=aM Li.v b i hlt;have hdr:b.drop i=b[i]::b.drop (i+1):=Ko hlt;have hs:=hr.2 _ (Ki hlt);rw[hdr,sx] at hTe;by_cases aBl:c<0
  ·have g1:decide (c<0)=true:=dct;rw[if_pos aBl] at hTe;have hfl:=Li.aAF b[i];refine aue (e6 hc hg hlt g1 (@jK Li V) (e2 hfl jG)) ?_;rw[←hQ];refine au ?_;refine aB h' (lef hd hle) ⟨?_,rfl⟩;rw[hTe];rfl
  have g1:decide (c<0)=false:=dcf;have hi3:=hb4 or;have hw:IntKind.i64.wrap ((i:Int)+1)=((i+1:Nat):Int):=wrp;rw[if_neg aBl] at hTe;obtain⟨x1,y1⟩:=tM hs.1 c;obtain⟨x2,y2⟩:=pI _ b[i].x (Kg _) hs.2.1 (eR b[i].a c);obtain⟨x3,y3⟩:=pI _ b[i].y (Kg _) hs.2.2 (jW b[i].x (eR b[i].a c));have hA:-50000000000000≤eR b[i].a c∧eR b[i].a c≤300:=by split at x1<;>omega
  have hX:-100000000000000≤jW b[i].x (eR b[i].a c)∧jW b[i].x (eR b[i].a c)≤300:=by split at x2<;>omega
  have hv:=Li.aAW b[i];generalize b[i]=B at hs hv hg hTe x1 x2 x3 y1 y2 y3 hA hX;have D1:∀h:Hp,aI Tryz.prog 34 [.agg [.str B.a.r, .sl (.agg 4) B.a.o (B.a.l.map Tr.v)], .int .i64 c] h (.int .i64 (eR B.a c)):=fun h=>zT B.a hs.1 c or h;have D2:∀h:Hp,aI Tryz.prog 35 [.agg [.int .i64 B.x.op, .str B.x.t.x, .int .i64 B.x.t.w.k, .int .i64 B.x.t.w.n, .str B.x.t.w.s, .sl (.agg 6) B.x.o (B.x.kids.map Ex.v)], .int .i64 (eR B.a c)] h (.int .i64 (jW B.x (eR B.a c))):=fun h=>Ex.aAW B.x▸vA _ B.x (Kg _) hs.2.1 _ or h;have D3:∀h:Hp,aI Tryz.prog 35 [.agg [.int .i64 B.y.op, .str B.y.t.x, .int .i64 B.y.t.w.k, .int .i64 B.y.t.w.n, .str B.y.t.w.s, .sl (.agg 6) B.y.o (B.y.kids.map Ex.v)], .int .i64 (jW B.x (eR B.a c))] h (.int .i64 (jW B.y (jW B.x (eR B.a c)))):=fun h=>Ex.aAW B.y▸vA _ B.y (Kg _) hs.2.2 _ or h;refine aue (e8 hc hg hlt g1 (@jK Li V) hv jG hw) ?_;rw[←hQ];exact aE (i+1,uY B c) Zw ⟨hlt,or,dmo hdm,kep hsm,hTe,by dsimp only;unfold uY;omega,by dsimp only;unfold uY;omega,Zw⟩ (by simp only[WkL,aD,jH,jI,jJ,uY,go_sem,reduceIte,jA,jB,jC,jD,reduceCtorEq,jE,jF])
 have hc:decide ((i:Int)<(b.length:Int))=false:=dcf;refine aue hc ?_;rw[←hQ];refine au ?_;refine aB h' hle ⟨?_,rfl⟩;rw[hTe,Kq hge];rfl
set_option maxHeartbeats 4000000
def Am.cp(a:Am):Am:=⟨a.r,frO a.l,a.l⟩
mutual
def Ex.cp:Ex→Ex
 | .mk op t _ ks=> .mk op t (frO ks) (Ex.cps ks)
def Ex.cps:List Ex→List Ex
 | []=>[]
 |e::r=>e.cp::Ex.cps r
end
theorem Ex.aA5:∀l:List Ex,Ex.cps l=l.map Ex.cp
 | []=>rfl
 |e::r=>by rw[Ex.cps,Ex.aA5 r];rfl
def Li.cp(l:Li):Li:=⟨l.k,l.a.cp,l.op,l.x.cp,l.y.cp,l.at_⟩
def Ru.cp(r:Ru):Ru:=⟨r.h.cp,r.g,r.c,frO r.b,r.b.map Li.cp,r.at_⟩
theorem mY{α:Type}(k:Sh)(l:List α)(vs:List V)(L:Nat→Prop)(h:bF L vs):(V.sl k (frO l) vs).names L:=by
 refine⟨?_,h⟩;intro n e;unfold frO at e;split at e<;>cases e
theorem jk{h:Hp}{n:Nat}{o:Own}{α:Type}{l:List α}{f:α→V}(a:Acc h n o (l.map f)):(o= .nil∧frO l= .nil)∨∃id,o= .tok id∧frO l= .free:=by
 rcases a with⟨e,rfl⟩|⟨e,id,_,rfl,_⟩
 ·have:l=[]:=by simpa using e
  subst this;exact .inl ⟨rfl,rfl⟩
 cases l with
 |nil=>exact absurd rfl e
 |cons a r=>exact .inr ⟨id,rfl,rfl⟩
theorem sT(a:Am)(hl:a.l.length≤300)(h:Hp):aI Tryz.prog 51 [a.v] h a.cp.v:=by
 refine dM (fun L=>⟨trivial,mY _ _ _ _ (aS (fun x=>Tr.aAQ L x) _),trivial⟩) fun h' nx hh=>aC L.aWQ fun hd=>?_;obtain⟨r,o,ts⟩:=a;dsimp only at hl;simp only[jL,jM,jA,jB,jN,jO,jP,jQ,Ka];refine aue (e3 Am.v.eq_1 trs.eq_1 (@jK Tr V)) ?_
 refine aO (fun i:Nat=>aD 24 0 [(2, .ptr (nx+1) (.agg 2) 0 0),(3, .ptr (nx+2) (.agg 2) 0 0),(10,trs o ts),(11, .int .i64 ts.length),(12, .int .i64 i)])
  (fun i hp nx1=>i≤ts.length∧nx+3≤nx1∧aQ hp nx1∧Kf nx h' hp∧hp (nx+1)=some (.arr (.agg 2) [.agg [.str ⟨#[]⟩, .sl (.agg 4) .nil []]])∧∃o',hp (nx+2)=some (.arr (.agg 2) [.agg [.str r, .sl (.agg 4) o' ((ts.take i).map Tr.v)]])∧Acc hp (nx+3) o' ((ts.take i).map Tr.v))
  (fun i=>ts.length-i) 0 ⟨Kp _,Zw,by exact dmo hd,by exact kep Hp.same.aA0,by simp only[go_sem,reduceIte,jA,jB,jC,jD,reduceCtorEq,jE,jF], .nil,by simp only[Ky,Kv,go_sem,reduceIte,jA,jB,jC,jD,reduceCtorEq,jE,jF], .inl ⟨Zm,rfl⟩⟩ (by simp only[WkL,aD,jH,jI,jJ,trs,go_sem,reduceIte,jA,jB,jC,jD,reduceCtorEq,jE,jF]) ?_
 rintro i hp nx1 ⟨hi,hnx,hdm,hsm,hb1,o',hb2,aAK⟩;generalize hQ:aX _ _ _ _ _=Q0;simp only[aD,go_sem,reduceIte,jA,jB,jC,jD,reduceCtorEq,jE,jF];have hle:=hsm.le hd (Kb _);rcases Kj i ts.length with hlt|hge
 ·have hc:decide ((i:Int)<(ts.length:Int))=true:=dct;have hg:=aM Tr.v ts i hlt;have hw:IntKind.i64.wrap ((i:Int)+1)=((i+1:Nat):Int):=wrp;have hcap:((ts.take i).map Tr.v).length≤1000000:=by simp;omega
  have aCJ:(ts.take i).length≤1000000:=by simp;omega
  have n1:nx+1<nx1:=or;have n2:nx+2<nx1:=or;have aHE:∀H:Hp,H.aA7 o' (nx+1)=H (nx+1):=fun H=>iN fun id e=>by have:=aAK.ge id e;omega
  have aON:∀H:Hp,H.aA7 o' (nx+2)=H (nx+2):=fun H=>iN fun id e=>by have:=aAK.ge id e;omega
  refine aue (e13 hc hg hlt hw hb1 hb2 hcap aCJ n1 n2 (@jK Tr V) (e4 jG Tr.aAF aHE aON) trs.eq_1) ?_;rw[←hQ];refine aE (i+1) or ⟨hlt,or,dmo hdm,rM hsm aAK,by simp only[aHE,hb1,n1,n2,go_sem,reduceIte,jA,jB,jC,jD,reduceCtorEq,jE,jF], .tok (nx1+3),?_,?_⟩ (by simp only[WkL,aD,jH,jI,jJ,trs,go_sem,reduceIte,jA,jB,jC,jD,reduceCtorEq,jE,jF])
  ·rw[Ke hlt,Kk];simp only[KC,Kv,go_sem,reduceIte,jA,jB,jC,jD,reduceCtorEq,jE,jF]
  rw[Ke hlt,Kk];exact Acc.set (Acc.new _ Zm or) (by simp only[aON,hb2,n2,go_sem,reduceIte,jA,jB,jC,jD,reduceCtorEq,jE,jF]) _
 have hc:decide ((i:Int)<(ts.length:Int))=false:=dcf;have n1:nx+1<nx1:=or;refine aue (e4 hc hb1 hb2 n1) ?_;rw[←hQ];refine aue (e4 hc hb1 hb2 n1) ?_;have hil:i=ts.length:=or;rw[hil,Km] at aAK hb2⊢;refine lL (by simp only[n1,go_sem,reduceIte,jA,jB,jC,jD,reduceCtorEq,jE,jF]) _ (Kb _) ⟨?_,lef hd hle⟩;simp only[n1,go_sem,reduceIte,jA,jB,jC,jD,reduceCtorEq,jE,jF];show _=V.agg [.str r, .sl (.agg 4) (frO ts) (ts.map Tr.v)];rcases jk aAK with⟨rfl,e⟩|⟨id,rfl,e⟩<;>rw[e]<;>rfl
end Go.Proofs.YtgbiopfghdilnaaGreatDoor
namespace Go.Proofs.YtgbiopfghdilnaaGreatDoor
open Go.RowKit Go.Sort
attribute [local irreducible] Kt
set_option maxHeartbeats 4000000
theorem Ex.aAZ:∀(n:Nat) (e:Ex),SizeOf.sizeOf e≤n→∀L,e.cp.v.names L
 |0, .mk op t o ks,h,L=>by simp at h
 |n+1, .mk op t o ks,h,L=>by
  have hk:∀e∈ks,∀L,e.cp.v.names L:=fun e he=>by
   have:=Ks he;simp only[Ex.mk.sizeOf_spec] at h;exact Ex.aAZ n e or
  rw[Ex.aAW];refine⟨trivial,trivial,trivial,trivial,trivial,?_,trivial⟩;show(V.sl (.agg 6) (frO ks) ((Ex.cps ks).map Ex.v)).names L;refine mY _ _ _ _ ?_;rw[Ex.aA5,gQ];intro v hv;simp only[Kw,KE,KD] at hv;obtain⟨e,he,rfl⟩:=hv;exact hk e he L
theorem oZ:∀(n:Nat) (e:Ex),SizeOf.sizeOf e≤n→e.few→∀(h:Hp),aI Tryz.prog 96 [e.v] h e.cp.v
 |0, .mk op t o ks,h,_,_=>by simp at h
 |n+1, .mk op t o ks,hz,hs,h=>by
  have hk:∀e∈ks,SizeOf.sizeOf e≤n∧e.few:=fun e he=>by
   refine⟨?_,Ex.aBk.1 hs.2 e he⟩;have:=Ks he;simp only[Ex.mk.sizeOf_spec] at hz;omega
  refine dM (fun L=>Ex.aAZ _ _ (Kg _) L) fun h' nx hh=>aC L.aV1 fun hd=>?_;rw[Ex.aAW (.mk op t o ks)];simp only[jL,jM,jA,jB,jN,jO,jP,jQ,Ka];have aUP:ks.length≤300:=hs.1;refine aue (e6 Ex.cs.eq_1 Ex.op.eq_1 Ex.t.eq_1 Ex.o.eq_1 Ex.kids.eq_1 (@jK Ex V)) ?_
  refine aO (fun i:Nat=>aD 27 0 [(2, .ptr (nx+1) (.agg 6) 0 0),(3, .ptr (nx+2) (.agg 6) 0 0),(12, .sl (.agg 6) o (ks.map Ex.v)),(13, .int .i64 ks.length),(14, .int .i64 i)])
   (fun i hp nx1=>i≤ks.length∧nx+3≤nx1∧aQ hp nx1∧Kf nx h' hp∧hp (nx+1)=some (.arr (.agg 6) [.agg [.int .i64 0, .str ⟨#[]⟩, .int .i64 0, .int .i64 0, .str ⟨#[]⟩, .sl (.agg 6) .nil []]])∧∃o',hp (nx+2)=some (.arr (.agg 6) [.agg [.int .i64 op, .str t.x, .int .i64 t.w.k, .int .i64 t.w.n, .str t.w.s, .sl (.agg 6) o' ((ks.take i).map fun e=>e.cp.v)]])∧Acc hp (nx+3) o' ((ks.take i).map fun e=>e.cp.v))
   (fun i=>ks.length-i) 0 ⟨Kp _,Zw,by exact dmo hd,by exact kep Hp.same.aA0,by simp only[go_sem,reduceIte,jA,jB,jC,jD,reduceCtorEq,jE,jF], .nil,by simp only[Ky,Kv,go_sem,reduceIte,jA,jB,jC,jD,reduceCtorEq,jE,jF], .inl ⟨Zm,rfl⟩⟩ (by simp only[WkL,aD,jH,jI,jJ,go_sem,reduceIte,jA,jB,jC,jD,reduceCtorEq,jE,jF]) ?_
  rintro i hp nx1 ⟨hi,hnx,hdm,hsm,hb1,o',hb2,aAK⟩;generalize hQ:aX _ _ _ _ _=Q0;simp only[aD,go_sem,reduceIte,jA,jB,jC,jD,reduceCtorEq,jE,jF];have hle:=hsm.le hd (Kb _);rcases Kj i ks.length with hlt|hge
  ·have hc:decide ((i:Int)<(ks.length:Int))=true:=dct;have hg:=aM Ex.v ks i hlt;have hw:IntKind.i64.wrap ((i:Int)+1)=((i+1:Nat):Int):=wrp;have hcap:((ks.take i).map fun e=>e.cp.v).length≤1000000:=by simp;omega
   have aCJ:(ks.take i).length≤1000000:=by simp;omega
   have n1:nx+1<nx1:=or;have n2:nx+2<nx1:=or;have aHE:∀H:Hp,H.aA7 o' (nx+1)=H (nx+1):=fun H=>iN fun id e=>by have:=aAK.ge id e;omega
   have aON:∀H:Hp,H.aA7 o' (nx+2)=H (nx+2):=fun H=>iN fun id e=>by have:=aAK.ge id e;omega
   obtain⟨hk1,hk2⟩:=hk _ (Ki hlt);have D1:=fun h=>oZ n ks[i] hk1 hk2 h;have hf1:=Ex.aAF ks[i];have hf2:=Ex.aAF ks[i].cp;have aGg:∀(H:Hp) (id:Nat),(∀m,m<nx1→m≠nx+2→o'≠ .tok m→H m=hp m)→H (nx+2)=some (.arr (.agg 6) [.agg [.int .i64 op, .str t.x, .int .i64 t.w.k, .int .i64 t.w.n, .str t.w.s, .sl (.agg 6) (.tok id) (((ks.take i).map fun e=>e.cp.v)++[ks[i].cp.v])]])→H id=some .tip→nx1≤id→∀nx2 sl,nx1≤nx2→aQ H nx2→WkL sl (aD 27 0 [(2, .ptr (nx+1) (.agg 6) 0 0),(3, .ptr (nx+2) (.agg 6) 0 0),(12, .sl (.agg 6) o (ks.map Ex.v)),(13, .int .i64 ks.length),(14, .int .i64 ((i+1:Nat):Int))])→Q0 .normal ⟨sl,H,nx2⟩:=fun H id q1 q2 q3 q4 nx2 sl q5 q6 q7=>by
    rw[←hQ];refine aE (i+1) or ⟨hlt,or,q6,fun m hm=>?_,?_, .tok id,?_,?_⟩ q7
    ·rw[q1 m or or (fun e=>by have:=aAK.ge m e;omega)];exact hsm m hm
    ·rw[q1 _ or or (fun e=>by have:=aAK.ge _ e;omega)];exact hb1
    ·rw[Ke hlt,Kk];exact q2
    rw[Ke hlt,Kk];exact .inr ⟨Zm,id,or,rfl,q3⟩
   have aFK:=aAK;rcases aFK with⟨e,rfl⟩|⟨e,id,hge,rfl,ht⟩
   ·refine aue (e11 hc hg hlt hw hb2 hcap aCJ n2 (@jK Ex V) (e2 jG hf1) hf2) ?_;refine aGg _ (nx1+7) (fun m q1 q2 _=>?_) (by simp only[go_sem,reduceIte,jA,jB,jC,jD,reduceCtorEq,jE,jF]) (by simp only[n2,go_sem,reduceIte,jA,jB,jC,jD,reduceCtorEq,jE,jF]) or _ _ or (dmo hdm) (by simp only[WkL,aD,jH,jI,jJ,go_sem,reduceIte,jA,jB,jC,jD,reduceCtorEq,jE,jF]);simp only[Kc];repeat rw[if_neg or]
   have hid:=hdm _ _ ht;have n3:nx+2<id:=or
   (repeat' (first|(with_reducible first|refine stp ?_|refine bW ZM ?_|refine nL (fun _=>?_) (fun _=>?_))|((first|(with_reducible refine kQ ?_;first|refine iI rfl ?_ ?_|refine Zx ?_)|(with_reducible refine kU ?_;first|refine iM rfl ?_ ?_|refine bI (D1 _) rfl (aZ _) ?_|refine ZX ?_)|refine Zy ?_)<;>try simp only[hc,hg,hlt,hw,hb2,hcap,aCJ,n2,jK,jG,hf1,hf2,ht,hid,n3,go_sem,reduceIte,jA,jB,jC,jD,reduceCtorEq,jE,jF])|refine ZY ?_|omega))
   ·exact⟨or,vM or (by simp only[ht,hid,go_sem,reduceIte,jA,jB,jC,jD,reduceCtorEq,jE,jF]) (by simp only[dC])⟩
   refine aGg _ (nx1+7) (fun m q1 q2 q3=>?_) (by simp only[go_sem,reduceIte,jA,jB,jC,jD,reduceCtorEq,jE,jF]) (by simp only[n2,go_sem,reduceIte,jA,jB,jC,jD,reduceCtorEq,jE,jF];rw[if_neg or]) or _ _ or (dmo hdm) (by simp only[WkL,aD,jH,jI,jJ,go_sem,reduceIte,jA,jB,jC,jD,reduceCtorEq,jE,jF]);have q4:m≠id:=fun e=>q3 (by rw[e]);simp only[Kc,Kd];repeat rw[if_neg or]
  have hc:decide ((i:Int)<(ks.length:Int))=false:=dcf;have n1:nx+1<nx1:=or;refine aue (e4 hc hb1 hb2 n1) ?_;rw[←hQ];refine aue (e4 hc hb1 hb2 n1) ?_;have hil:i=ks.length:=or;rw[hil,Km] at aAK hb2⊢;refine lL (by simp only[n1,go_sem,reduceIte,jA,jB,jC,jD,reduceCtorEq,jE,jF]) _ (Kb _) ⟨?_,lef hd hle⟩;simp only[n1,go_sem,reduceIte,jA,jB,jC,jD,reduceCtorEq,jE,jF];have e0:(Ex.mk op t o ks).cp.v=V.agg [.int .i64 op, .str t.x, .int .i64 t.w.k, .int .i64 t.w.n, .str t.w.s, .sl (.agg 6) (frO ks) (ks.map fun e=>e.cp.v)]:=by
   rw[Ex.aAW];show V.agg [_,_,_,_,_, .sl (.agg 6) (frO ks) ((Ex.cps ks).map Ex.v)]=_;rw[Ex.aA5,Kw];rfl
  rw[e0];rcases jk aAK with⟨rfl,e⟩|⟨id,rfl,e⟩<;>rw[e]<;>rfl
theorem Li.aAZ(l:Li)(L:Nat→Prop):l.cp.v.names L:=by
 have h1:=Ex.aAZ _ l.x (Kg _) L;have h2:=Ex.aAZ _ l.y (Kg _) L;rw[Ex.aAW] at h1 h2;obtain⟨-,-,-,-,-,h1,-⟩:=h1;obtain⟨-,-,-,-,-,h2,-⟩:=h2;exact⟨trivial,trivial,mY _ _ _ _ (aS (fun x=>Tr.aAQ L x) _),trivial,trivial,trivial,trivial,trivial,trivial,h1,trivial,trivial,trivial,trivial,trivial,h2,trivial,trivial⟩
theorem ol(l:Li)(h1:l.a.l.length≤300)(h2:l.x.few)(h3:l.y.few)(h:Hp):aI Tryz.prog 52 [l.v] h l.cp.v:=by
 refine aH (fun L=>Li.aAZ l L) fun h' nx hh=>aC L.aWP fun hd=>?_;have hv:=Li.aAW l;rw[hv];simp only[jL,jM,jA,jB,jN,jO,jP,jQ,Ka];have D1:∀h:Hp,aI Tryz.prog 51 [.agg [.str l.a.r, .sl (.agg 4) l.a.o (l.a.l.map Tr.v)]] h (.agg [.str l.a.r, .sl (.agg 4) (frO l.a.l) (l.a.l.map Tr.v)]):=fun h=>sT l.a h1 h;have D2:∀h:Hp,aI Tryz.prog 96 [.agg [.int .i64 l.x.op, .str l.x.t.x, .int .i64 l.x.t.w.k, .int .i64 l.x.t.w.n, .str l.x.t.w.s, .sl (.agg 6) l.x.o (l.x.kids.map Ex.v)]] h (.agg l.x.cp.cs):=fun h=>Ex.aAW l.x▸Ex.aAW l.x.cp▸oZ _ l.x (Kg _) h2 h;have D3:∀h:Hp,aI Tryz.prog 96 [.agg [.int .i64 l.y.op, .str l.y.t.x, .int .i64 l.y.t.w.k, .int .i64 l.y.t.w.n, .str l.y.t.w.s, .sl (.agg 6) l.y.o (l.y.kids.map Ex.v)]] h (.agg l.y.cp.cs):=fun h=>Ex.aAW l.y▸Ex.aAW l.y.cp▸oZ _ l.y (Kg _) h3 h;refine aue Ex.cs.eq_1 ?_;refine lL (by simp only[go_sem,reduceIte,jA,jB,jC,jD,reduceCtorEq,jE,jF]) h' (leo hd) ⟨?_,rfl⟩;refine Zn ?_;rfl
theorem Ru.aAZ(r:Ru)(L:Nat→Prop):r.cp.v.names L:=by
 refine⟨trivial,mY _ _ _ _ (aS (fun x=>Tr.aAQ L x) _),trivial,trivial,mY _ _ _ _ ?_,trivial,trivial⟩;rw[gQ];intro v hv;simp only[Ru.cp,Kw,KE,KD] at hv;obtain⟨e,he,rfl⟩:=hv;exact Li.aAZ e L
theorem oe(r:Ru)(hr:r.few)(h:Hp):aI Tryz.prog 15 [r.v] h r.cp.v:=by
 refine dM (fun L=>Ru.aAZ r L) fun h' nx hh=>aC L.g9z fun hd=>?_;obtain⟨⟨hr',ho,hl⟩,g,c0,o,b,at_⟩:=r;obtain⟨f1,f2,f3⟩:=hr;dsimp only at f1 f2 f3;rw[Ru.v.eq_1 ⟨⟨hr',ho,hl⟩,g,c0,o,b,at_⟩];simp only[jL,jM,jA,jB,jN,jO,jP,jQ,Ka];have D1:∀h:Hp,aI Tryz.prog 51 [.agg [.str hr', .sl (.agg 4) ho (hl.map Tr.v)]] h (.agg [.str hr', .sl (.agg 4) (frO hl) (hl.map Tr.v)]):=fun h=>sT ⟨hr',ho,hl⟩ f1 h;refine aue (e2 trs.eq_1 (@jK Li V)) ?_;clear D1
 refine aO (fun i:Nat=>aD 32 0 [(2, .ptr (nx+1) (.agg 6) 0 0),(3, .ptr (nx+12) (.agg 6) 0 0),(17, .sl (.agg 17) o (b.map Li.v)),(18, .int .i64 b.length),(19, .int .i64 i)])
  (fun i hp nx1=>i≤b.length∧nx+14≤nx1∧aQ hp nx1∧Kf nx h' hp∧hp (nx+1)=some (.arr (.agg 6) [.agg [.str ⟨#[]⟩, .sl (.agg 4) .nil [], .int .i64 0, .int .i64 0, .sl (.agg 17) .nil [], .int .i64 0]])∧∃o',hp (nx+12)=some (.arr (.agg 6) [.agg [.str hr', .sl (.agg 4) (frO hl) (hl.map Tr.v), .int .i64 g, .int .i64 c0, .sl (.agg 17) o' ((b.take i).map fun e=>e.cp.v), .int .i64 at_]])∧Acc hp (nx+13) o' ((b.take i).map fun e=>e.cp.v))
  (fun i=>b.length-i) 0 ⟨Kp _,Zw,by exact dmo hd,by exact kep Hp.same.aA0,by simp only[go_sem,reduceIte,jA,jB,jC,jD,reduceCtorEq,jE,jF], .nil,by simp only[Ky,Kv,go_sem,reduceIte,jA,jB,jC,jD,reduceCtorEq,jE,jF], .inl ⟨Zm,rfl⟩⟩ (by simp only[WkL,aD,jH,jI,jJ,go_sem,reduceIte,jA,jB,jC,jD,reduceCtorEq,jE,jF]) ?_
 rintro i hp nx1 ⟨hi,hnx,hdm,hsm,hb1,o',hb2,aAK⟩;generalize hQ:aX _ _ _ _ _=Q0;simp only[aD,go_sem,reduceIte,jA,jB,jC,jD,reduceCtorEq,jE,jF];have hle:=hsm.le hd (Kb _);rcases Kj i b.length with hlt|hge
 ·have hc:decide ((i:Int)<(b.length:Int))=true:=dct;have hg:=aM Li.v b i hlt;have hw:IntKind.i64.wrap ((i:Int)+1)=((i+1:Nat):Int):=wrp;have hcap:((b.take i).map fun e=>e.cp.v).length≤1000000:=by simp;omega
  have aCJ:(b.take i).length≤1000000:=by simp;omega
  have n1:nx+1<nx1:=or;have n2:nx+12<nx1:=or;obtain⟨q1,q2,q3⟩:=f3 _ (Ki hlt);have D1:=fun h=>ol b[i] q1 q2 q3 h;have hf1:=Li.aAF b[i];have hf2:=Li.aAF b[i].cp;have aGg:∀(H:Hp) (id:Nat),(∀m,m<nx1→m≠nx+12→o'≠ .tok m→H m=hp m)→H (nx+12)=some (.arr (.agg 6) [.agg [.str hr', .sl (.agg 4) (frO hl) (hl.map Tr.v), .int .i64 g, .int .i64 c0, .sl (.agg 17) (.tok id) (((b.take i).map fun e=>e.cp.v)++[b[i].cp.v]), .int .i64 at_]])→H id=some .tip→nx1≤id→∀nx2 sl,nx1≤nx2→aQ H nx2→WkL sl (aD 32 0 [(2, .ptr (nx+1) (.agg 6) 0 0),(3, .ptr (nx+12) (.agg 6) 0 0),(17, .sl (.agg 17) o (b.map Li.v)),(18, .int .i64 b.length),(19, .int .i64 ((i+1:Nat):Int))])→Q0 .normal ⟨sl,H,nx2⟩:=fun H id q1 q2 q3 q4 nx2 sl q5 q6 q7=>by
   rw[←hQ];refine aE (i+1) or ⟨hlt,or,q6,fun m hm=>?_,?_, .tok id,?_,?_⟩ q7
   ·rw[q1 m or or (fun e=>by have:=aAK.ge m e;omega)];exact hsm m hm
   ·rw[q1 _ or or (fun e=>by have:=aAK.ge _ e;omega)];exact hb1
   ·rw[Ke hlt,Kk];exact q2
   rw[Ke hlt,Kk];exact .inr ⟨Zm,id,or,rfl,q3⟩
  generalize b[i]=B at hg D1 hf1 hf2 aGg;have aFK:=aAK;rcases aFK with⟨e,rfl⟩|⟨e,id,hge,rfl,ht⟩
  ·refine aue (e11 hc hg hlt hw hb2 hcap aCJ n2 (@jK Li V) (e2 jG hf1) hf2) ?_;refine aGg _ (nx1+7) (fun m q1 q2 _=>?_) (by simp only[go_sem,reduceIte,jA,jB,jC,jD,reduceCtorEq,jE,jF]) (by simp only[n2,go_sem,reduceIte,jA,jB,jC,jD,reduceCtorEq,jE,jF]) or _ _ or (dmo hdm) (by simp only[WkL,aD,jH,jI,jJ,go_sem,reduceIte,jA,jB,jC,jD,reduceCtorEq,jE,jF]);simp only[Kc];repeat rw[if_neg or]
  have hid:=hdm _ _ ht;have n3:nx+12<id∨id<nx+14:=or;have n4:nx+12≠id:=fun e=>by rw[e,ht] at hb2;cases hb2
  have n5:(nx+12=id)=False:=eq_false n4;have n6:(id=nx+12)=False:=eq_false (fun e=>n4 e.symm)
  (repeat' (first|(with_reducible first|refine stp ?_|refine bW ZM ?_|refine nL (fun _=>?_) (fun _=>?_))|((first|(with_reducible refine kQ ?_;first|refine iI rfl ?_ ?_|refine Zx ?_)|(with_reducible refine kU ?_;first|refine iM rfl ?_ ?_|refine bI (D1 _) rfl (aZ _) ?_|refine ZX ?_)|refine Zy ?_)<;>try simp only[hc,hg,hlt,hw,hb2,hcap,aCJ,n2,jK,jG,hf1,hf2,ht,hid,n5,n6,go_sem,reduceIte,jA,jB,jC,jD,reduceCtorEq,jE,jF])|refine ZY ?_|omega))
  ·exact⟨or,vM or (by simp only[ht,hid,go_sem,reduceIte,jA,jB,jC,jD,reduceCtorEq,jE,jF]) (by simp only[dC])⟩
  refine aGg _ (nx1+7) (fun m q1 q2 q3=>?_) (by simp only[go_sem,reduceIte,jA,jB,jC,jD,reduceCtorEq,jE,jF]) (by simp only[n2,go_sem,reduceIte,jA,jB,jC,jD,reduceCtorEq,jE,jF];rw[if_neg or]) or _ _ or (dmo hdm) (by simp only[WkL,aD,jH,jI,jJ,go_sem,reduceIte,jA,jB,jC,jD,reduceCtorEq,jE,jF]);have q4:m≠id:=fun e=>q3 (by rw[e]);simp only[Kc,Kd];repeat rw[if_neg or]
 have hc:decide ((i:Int)<(b.length:Int))=false:=dcf;have n1:nx+1<nx1:=or;refine aue (e4 hc hb1 hb2 n1) ?_;rw[←hQ];refine aue (e4 hc hb1 hb2 n1) ?_;have hil:i=b.length:=or;rw[hil,Km] at aAK hb2⊢;refine lL (by simp only[n1,go_sem,reduceIte,jA,jB,jC,jD,reduceCtorEq,jE,jF]) _ (Kb _) ⟨?_,lef hd hle⟩;simp only[n1,go_sem,reduceIte,jA,jB,jC,jD,reduceCtorEq,jE,jF];have e0:(Ru.cp ⟨⟨hr',ho,hl⟩,g,c0,o,b,at_⟩).v=V.agg [.str hr', .sl (.agg 4) (frO hl) (hl.map Tr.v), .int .i64 g, .int .i64 c0, .sl (.agg 17) (frO b) (b.map fun e=>e.cp.v), .int .i64 at_]:=by
  show V.agg [_,_,_,_, .sl (.agg 17) (frO b) ((b.map Li.cp).map Li.v),_]=_;rw[Kw];rfl
 rw[e0];cases hl with
 |nil=>rcases jk aAK with⟨rfl,e⟩|⟨id,rfl,e⟩<;>rw[e]<;>rfl
 |cons t r=>rcases jk aAK with⟨rfl,e⟩|⟨id,rfl,e⟩<;>rw[e]<;>rfl
end Go.Proofs.YtgbiopfghdilnaaGreatDoor
namespace Go.Proofs.YtgbiopfghdilnaaGreatDoor
open Go.RowKit Go.Sort
attribute [local irreducible] Kt
set_option maxHeartbeats 4000000
theorem gj(e:di)(k:V)(m:ME):∀es:List ME,cB e k (es++[m])=(match cB e k es with
 |some (some j)=>some (some j)
 |some none=>(match veq e k m.k with|some true=>some (some es.length)|some false=>some none|none=>none)
 |none=>none)
 | []=>by
  simp only[List.nil_append,cB,List.length_nil];cases veq e k m.k with
  |none=>rfl
  |some b=>cases b<;>rfl
 |a::es=>by
  simp only[List.cons_append,cB,List.length_cons];cases veq e k a.k with
  |none=>rfl
  |some b=>
   cases b with
   |true=>rfl
   |false=>
    simp only;rw[gj e k m es];cases cB e k es with
    |none=>rfl
    |some o=>
     cases o with
     |some j=>rfl
     |none=>
      simp only[Option.map_some,Option.map_none];cases veq e k m.k with
      |none=>rfl
      |some b=>cases b<;>rfl
theorem Bs(x y:ByteArray):veq (.plain .leaf [.str]) (.str x) (.str y)=some (decide (x=y)):=by
 have e:veq (.plain .leaf [.str]) (.str x) (.str y)=some (x.toList==y.toList):=rfl;rw[e,cV]
section
variable{P:Program}{Q:St→Prop}{s:St}{dst:Option Nat}{r:List aA}{x:aJ}
theorem oi(h:aW P r Q ⟨bG s.sl dst (.map s.nx),s.h.set s.nx (.mp [] 0),s.nx+1⟩):aW P (⟨dst,none, .mp .mk⟩::r) Q s:=h
theorem yp{kS:Sh}{ks:List LK}{n c:Nat}{es:List ME}{k v:aJ}(hk:(k.ev s.sl).fits kS=true)(hx:x.ev s.sl= .map n)(hn:s.h n=some (.mp es c))(hf:cB (.plain kS ks) (k.ev s.sl) es=some none)
 (h2:aW P r Q ⟨bG s.sl dst Ka,s.h.set n (.mp (es++[⟨k.ev s.sl,v.ev s.sl,c⟩]) (c+1)),s.nx+1⟩):aW P (⟨dst,none, .mp (.put kS ks x k v)⟩::r) Q s:=by
 unfold aW;simp only[LOp.run,LOp.sem,MOp.sem,hx,hn,hf];exact⟨hk,h2⟩
end
end Go.Proofs.YtgbiopfghdilnaaGreatDoor
namespace Go.Proofs.YtgbiopfghdilnaaGreatDoor
open Go.RowKit Go.Sort
attribute [local irreducible] Kt
set_option maxHeartbeats 4000000
def gA(es:List ME)(l:List ByteArray):Prop:=∀x:ByteArray,match cB (.plain .leaf [.str]) (.str x) es with
 |some none=>x∉l
 |some (some j)=>j<es.length∧x∈l∧∃n:Int,(es.getD j default).v= .int .i64 n∧1≤n∧n≤l.length
 |none=>False
theorem fa:gA [] []:=fun x=>by simp[cB]
theorem zI(e:di)(k:V):∀(a b:List ME),a.map ME.k=b.map ME.k→cB e k a=cB e k b
 | [],[],_=>rfl
 |x::a,y::b,h=>by
  simp only[KC,List.cons.injEq] at h;simp only[cB,h.1,zI e k a b h.2]
theorem gh(e:di)(k:V):∀(l:List ME) (j:Nat),cB e k l=some (some j)→veq e k (l.getD j default).k=some true
 | [],j,h=>by cases h
 |x::l,j,h=>by
  simp only[cB] at h;cases hv:veq e k x.k with
  |none=>rw[hv] at h;cases h
  |some b=>
   rw[hv] at h;cases b with
   |true=>cases h;exact hv
   |false=>
    simp only[Option.map_eq_some_iff] at h;obtain⟨o,h1,i,rfl,rfl⟩:=h;exact gh e k l i h1
theorem qz{x:ByteArray}{v:V}(h:veq (.plain .leaf [.str]) (.str x) v=some true):v= .str x:=by
 simp only[veq] at h;split at h
 ·rename_i hf;cases v<;>first|(simp[V.fits,V.aAD] at hf;done)|simp only[V.cells,gG,gR,reduceCtorEq,Option.some.injEq] at h
  rename_i s;rw[cV] at h;rw[of_decide_eq_true h]
 cases h
theorem w8{es:List ME}{l:List ByteArray}{x:ByteArray}{b:Nat}(h:gA es l)(hx:cB (.plain .leaf [.str]) (.str x) es=some none):gA (es++[⟨.str x, .int .i64 1,b⟩]) (l++[x]):=fun y=>by
 have hy:=h y;rw[gj];cases hm:cB (.plain .leaf [.str]) (.str y) es with
 |none=>rw[hm] at hy;exact hy.elim
 |some o=>
  rw[hm] at hy;cases o with
  |some j=>
   obtain⟨h1,h2,n,h3,h4,h5⟩:=hy;refine⟨by simp;omega,by simp[h2],n,?_,h4,by simp;omega⟩;rw[←h3];simp only[Kh];rw[List.getElem?_append_left h1]
  |none=>
   simp only[Bs] at hy⊢;by_cases e:y=x
   ·rw[decide_eq_true e];exact⟨Zm,by simp[e],1,by simp[Kh],or,by simp;omega⟩
   rw[decide_eq_false e];simp[hy,e]
theorem w7{es:List ME}{l:List ByteArray}{x:ByteArray}{j:Nat}{n:Int}(h:gA es l)(hx:cB (.plain .leaf [.str]) (.str x) es=some (some j))(hn:(es.getD j default).v= .int .i64 n)(b:Nat):gA (es.set j ⟨.str x, .int .i64 (n+1),b⟩) (l++[x]):=fun y=>by
 have hk:=qz (gh _ _ _ _ hx);have hX:=h x;rw[hx] at hX;obtain⟨p1,p2,n',p3,p4,p5⟩:=hX;rw[hn] at p3;obtain rfl:n=n':=by injection p3
 have aOH:cB (.plain .leaf [.str]) (.str y) (es.set j ⟨.str x, .int .i64 (n+1),b⟩)=cB (.plain .leaf [.str]) (.str y) es:=by
  refine zI _ _ _ _ (List.ext_getElem Zm fun i h1 h2=>?_);simp only[List.getElem_map,List.getElem_set];split
  ·rename_i e;subst e;rw[Kh,List.getElem?_eq_getElem p1] at hk;exact hk.symm
  rfl
 have hy:=h y;rw[aOH];cases hm:cB (.plain .leaf [.str]) (.str y) es with
 |none=>rw[hm] at hy;exact hy.elim
 |some o=>
  rw[hm] at hy;cases o with
  |none=>
   have:y≠x:=fun e=>hy (e▸p2);simp[hy,this]
  |some i=>
   obtain⟨h1,h2,m,h3,h4,h5⟩:=hy;refine⟨by simpa using h1,by simp[h2],?_⟩;by_cases e:j=i
   ·subst e;refine⟨n+1,?_,or,by simp;omega⟩;rw[Kh,List.getElem?_set_self p1];rfl
   refine⟨m,?_,h4,by simp;omega⟩;rw[←h3];simp only[Kh];rw[List.getElem?_set_ne e]
theorem pT{es:List ME}{l:List ByteArray}(h:gA es l)(x:ByteArray):∃r n,cB (.plain .leaf [.str]) (.str x) es=some r∧sL false (.int .i64 0) es r= .int .i64 n∧0≤n∧n≤l.length∧(n=0↔bB x l=false):=by
 have hx:=h x;cases hm:cB (.plain .leaf [.str]) (.str x) es with
 |none=>rw[hm] at hx;exact hx.elim
 |some o=>
  rw[hm] at hx;cases o with
  |none=>exact⟨none,0,rfl,rfl,or,or,by simp[iK.2 hx]⟩
  |some j=>
   obtain⟨h1,h2,n,h3,h4,h5⟩:=hx;refine⟨some j,n,rfl,h3,or,h5,⟨fun e=>or,fun e=>absurd h2 (iK.1 e)⟩⟩
section
variable{P:Program}{Q:St→Prop}{s:St}{dst:Option Nat}{r:List aA}{x:aJ}
theorem ym{kS:Sh}{ks:List LK}{n c j:Nat}{es:List ME}{k v:aJ}(hk:(k.ev s.sl).fits kS=true)(hx:x.ev s.sl= .map n)(hn:s.h n=some (.mp es c))(hf:cB (.plain kS ks) (k.ev s.sl) es=some (some j))
 (h2:aW P r Q ⟨bG s.sl dst Ka,s.h.set n (.mp (es.set j ⟨k.ev s.sl,v.ev s.sl,(es.getD j default).b⟩) c),s.nx+1⟩):aW P (⟨dst,none, .mp (.put kS ks x k v)⟩::r) Q s:=by
 unfold aW;simp only[LOp.run,LOp.sem,MOp.sem,hx,hn,hf];exact⟨hk,h2⟩
end
theorem rB(o:Own)(vs:List ByteArray)(l:List ByteArray)(hl:l.length+vs.length≤1000000000)(n:Nat)(es:List ME)(c:Nat)(h:Hp)(nx:Nat)(hm:h n=some (.mp es c))(hs:gA es l):
 aV Tryz.prog 86 [.map n, .sl .leaf o (vs.map V.str)] h nx fun v h' nx'=>∃es' c',h' n=some (.mp es' c')∧gA es' (l++vs)∧∀m,m<nx→m≠n→h' m=h m:=by
 refine aC L.aWD fun hd=>?_;simp only[jL,jM,jA,jB,jN,jO,jP,jQ,Ka];have hn2:n<nx:=hd _ _ hm;refine aue (@jK ByteArray V) ?_
 refine aO (fun i:Nat=>aD 17 0 [(0, .map n),(6, .sl .leaf o (vs.map V.str)),(7, .int .i64 vs.length),(8, .int .i64 i)])
  (fun i hp nx1=>i≤vs.length∧nx≤nx1∧(∃es c,hp n=some (.mp es c)∧gA es (l++vs.take i))∧∀m,m<nx→m≠n→hp m=h m)
  (fun i=>vs.length-i) 0 ⟨Kp _,Kg _,⟨es,c,hm,by simpa using hs⟩,fun _ _ _=>rfl⟩ (by simp only[WkL,aD,jH,jI,jJ,jK,go_sem,reduceIte,jA,jB,jC,jD,reduceCtorEq,jE,jF]) ?_
 rintro i hp nx1 ⟨hi,hnx,⟨es1,c1,hm1,hs1⟩,hsm⟩;generalize hQ:aX _ _ _ _ _=Q0;simp only[aD,go_sem,reduceIte,jA,jB,jC,jD,reduceCtorEq,jE,jF];rcases Kj i vs.length with hlt|hge
 ·have hc:decide ((i:Int)<(vs.length:Int))=true:=dct;have hg:=aM V.str vs i hlt;have hw:IntKind.i64.wrap ((i:Int)+1)=((i+1:Nat):Int):=wrp;have htk:l++vs.take (i+1)=(l++vs.take i)++[vs[i]]:=by rw[Ke hlt,KA]
  have hlen:(l++vs.take i).length≤l.length+i:=by rw[List.length_append,List.length_take];omega
  have hn3:n<nx1:=or;generalize vs[i]=x at hg htk;have hx:=hs1 x;cases hf:cB (.plain .leaf [.str]) (.str x) es1 with
  |none=>rw[hf] at hx;exact hx.elim
  |some r=>
   cases r with
   |none=>
    have hg0:sL false (.int .i64 0) es1 none= .int .i64 0:=rfl;have hw1:IntKind.i64.wrap ((0:Int)+1)=1:=wrp;have hs2:=w8 (b:=c1) hs1 hf;refine aue (e9 hc hg hlt hm1 hf hg0 hw1 (@jK ByteArray V) jG) ?_;refine yp (es:=es1) (c:=c1) (n:=n) rfl rfl (by simp only[hm1,go_sem,reduceIte,jA,jB,jC,jD,reduceCtorEq,jE,jF]) hf ?_;refine Zn ?_;refine aue hw ?_;rw[←hQ];refine aE (i+1) or ⟨hlt,or,⟨_,_,by simp only[go_sem,reduceIte,jA,jB,jC,jD,reduceCtorEq,jE,jF];rfl,by rw[htk];exact hs2⟩,fun m h1 h2=>?_⟩ (by simp only[WkL,aD,jH,jI,jJ,go_sem,reduceIte,jA,jB,jC,jD,reduceCtorEq,jE,jF]);simp only[Kc];rw[if_neg h2];exact hsm m h1 h2
   |some j=>
    rw[hf] at hx;obtain⟨p1,p2,m,p3,p4,p5⟩:=hx;have hg0:sL false (.int .i64 0) es1 (some j)= .int .i64 m:=p3;have hw1:IntKind.i64.wrap (m+1)=m+1:=wrp;have hs2:=w7 hs1 hf p3 (es1.getD j default).b;refine aue (e9 hc hg hlt hm1 hf hg0 hw1 (@jK ByteArray V) jG) ?_;refine ym (es:=es1) (c:=c1) (n:=n) (j:=j) rfl rfl (by simp only[hm1,go_sem,reduceIte,jA,jB,jC,jD,reduceCtorEq,jE,jF]) hf ?_;refine Zn ?_;refine aue hw ?_;rw[←hQ];refine aE (i+1) or ⟨hlt,or,⟨_,_,by simp only[go_sem,reduceIte,jA,jB,jC,jD,reduceCtorEq,jE,jF];rfl,by rw[htk];exact hs2⟩,fun m h1 h2=>?_⟩ (by simp only[WkL,aD,jH,jI,jJ,go_sem,reduceIte,jA,jB,jC,jD,reduceCtorEq,jE,jF]);simp only[Kc];rw[if_neg h2];exact hsm m h1 h2
 have hc:decide ((i:Int)<(vs.length:Int))=false:=dcf;refine aue hc ?_;rw[←hQ];refine au ?_;rw[Kx or] at hs1;exact⟨hp,Kb _,es1,c1,hm1,hs1,hsm⟩
def gU(l vs:List ByteArray):Bool:=vs.all fun v=>bB v l
theorem xK:aF Tryz.prog 173=some (LB.aAe .leaf):=Zz
theorem BS:aF Tryz.prog 192=some (LB.ContainsFunc .leaf 173):=Zz
theorem ru(l:List ByteArray)(hl:l.length≤1000000000)(n:Nat)(es:List ME)(c:Nat)(h:Hp)(hm:h n=some (.mp es c))(hs:gA es l)(p:Nat)(hp:h p=some (.arr .leaf [.map n]))(x:ByteArray):aI Tryz.prog 193 [.str x, .ptr p .leaf 0 0] h (.bool (!bB x l)):=by
 refine aH (fun L=>trivial) fun h' nx hh=>aC L.aSq fun hd=>?_;simp only[jL,jM,jA,jB,jN,jO,jP,jQ,Ka];have hm1:=hh _ _ hm rfl;have hp1:=hh _ _ hp rfl;have n1:n<nx:=hd _ _ hm1;have n2:p<nx:=hd _ _ hp1;obtain⟨r,m,q1,q2,q3,q4,q5⟩:=pT hs x;have hb:(m==0)= !bB x l:=by
  cases k:bB x l with
  |true=>exact bqf (fun e=>by rw[q5.1 e] at k;cases k)
  |false=>exact bqt (q5.2 k)
 refine aue (e6 hm1 hp1 q1 q2 hb n1) ?_;exact aB h' (leo hd) ⟨rfl,rfl⟩
theorem tX(l:List ByteArray)(hl:l.length≤1000000000)(n:Nat)(es:List ME)(c:Nat)(h:Hp)(hm:h n=some (.mp es c))(hs:gA es l)(o:Own)(vs:List ByteArray)(hv:vs.length≤1000000000):aI Tryz.prog 175 [.map n, .sl .leaf o (vs.map V.str)] h (.bool (gU l vs)):=by
 refine aH (fun L=>trivial) fun h' nx hh=>aC L.aS6 fun hd=>?_;simp only[jL,jM,jA,jB,jN,jO,jP,jQ,Ka];have hm1:=hh _ _ hm rfl;have n1:n<nx:=hd _ _ hm1;refine aue trivial ?_;refine aK (jX V.str (fun _=>rfl) BS xK (fun x=> !bB x l) o vs _ _ (h'.set nx (.arr .leaf [.map n])) (fun x _=>ru l hl n es c _ (by simp only[Kc];rw[if_neg or];exact hm1) hs nx (by simp[Kc]) x) hv) rfl (aL _) ?_;refine Zn ?_;refine au ?_;exact aB h' (leo hd) ⟨by unfold gU;rw[←ki];rfl,rfl⟩
def bQ(e:Ex):ByteArray:=if e.op≠0∨e.kids≠ [] then ⟨#[]⟩ else e.t.x
theorem br(e:Ex)(h:Hp):aI Tryz.prog 174 [e.v] h (.str (bQ e)):=by
 refine aH (fun L=>trivial) fun h' nx hh=>aC L.aS7 fun hd=>?_;obtain⟨op,t,o,ks⟩:=e;rw[Ex.aAW];simp only[jL,jM,jA,jB,jN,jO,jP,jQ,Ka];unfold bQ;by_cases h1:op=0
 ·have g1:(op != 0)=false:=bnf;cases ks with
  |nil=>
   have hk:decide ((0:Int)<((0:Nat):Int))=false:=rfl;have hk':decide (((0:Nat):Int)>0)=false:=rfl;refine aue (e8 Ex.cs.eq_1 Ex.op.eq_1 Ex.t.eq_1 Ex.o.eq_1 Ex.kids.eq_1 g1 hk hk') ?_;refine aB h' (leo hd) ⟨?_,rfl⟩;rw[if_neg (by simp[h1,Ex.op,Ex.kids])];rfl
  |cons a r=>
   obtain⟨ks,hks⟩:∃ks,ks=a::r:=⟨_,rfl⟩;have hk:decide ((0:Int)<(ks.length:Int))=true:=dct (by rw[hks];simp);rw[←hks];refine aue (e8 Ex.cs.eq_1 Ex.op.eq_1 Ex.t.eq_1 Ex.o.eq_1 Ex.kids.eq_1 g1 hk (@jK Ex V)) ?_;refine aB h' (leo hd) ⟨?_,rfl⟩;rw[if_pos (.inr (by rw[hks];simp[Ex.kids]))];rfl
 have g1:(op != 0)=true:=bnt;refine aue (e6 Ex.cs.eq_1 Ex.op.eq_1 Ex.t.eq_1 Ex.o.eq_1 Ex.kids.eq_1 g1) ?_;refine aB h' (leo hd) ⟨?_,rfl⟩;rw[if_pos (.inl h1)];rfl
def cE(s:List ByteArray)(l:Li):Bool:=decide (l.k=3∧l.op=1)&&
 ((decide ((bQ l.x).size≠0)&& !bB (bQ l.x) s&&gU s (nmL [] l.y.ts))||(decide ((bQ l.y).size≠0)&& !bB (bQ l.y) s&&gU s (nmL [] l.x.ts)))
theorem yD(s:List ByteArray)(hl:s.length≤1000000000)(n:Nat)(es:List ME)(c:Nat)(h:Hp)(hm:h n=some (.mp es c))(hs:gA es s)(l:Li)(hr:bJ l=true):aI Tryz.prog 131 [.map n,l.v] h (.bool (cE s l)):=by
 refine aH (fun L=>trivial) fun h' nx hh=>aC L.aVT fun hd=>?_;rw[Li.aAW];simp only[jL,jM,jA,jB,jN,jO,jP,jQ,Ka];have hm1:=hh _ _ hm rfl;have n1:n<nx:=hd _ _ hm1;obtain⟨b1,b2,b3⟩:=iW hr;have b4:=fY b2;have b5:=fY b3;have b6:=iE l.x.ts [];have b7:=iE l.y.ts [];simp only[jM] at b6 b7;have D1:∀h:Hp,aI Tryz.prog 174 [.agg [.int .i64 l.x.op, .str l.x.t.x, .int .i64 l.x.t.w.k, .int .i64 l.x.t.w.n, .str l.x.t.w.s, .sl (.agg 6) l.x.o (l.x.kids.map Ex.v)]] h (.str (bQ l.x)):=fun h=>(show V.agg l.x.cs=_ from rfl)▸Ex.aAW l.x▸br l.x h;have D2:∀h:Hp,aI Tryz.prog 174 [.agg [.int .i64 l.y.op, .str l.y.t.x, .int .i64 l.y.t.w.k, .int .i64 l.y.t.w.n, .str l.y.t.w.s, .sl (.agg 6) l.y.o (l.y.kids.map Ex.v)]] h (.str (bQ l.y)):=fun h=>(show V.agg l.y.cs=_ from rfl)▸Ex.aAW l.y▸br l.y h;obtain⟨o1,ho1⟩:=bR .leaf ((nmL [] l.x.ts).map V.str);obtain⟨o2,ho2⟩:=bR .leaf ((nmL [] l.y.ts).map V.str);have C1:∀h:Hp,aI Tryz.prog 176 [.agg [.int .i64 l.x.op, .str l.x.t.x, .int .i64 l.x.t.w.k, .int .i64 l.x.t.w.n, .str l.x.t.w.s, .sl (.agg 6) l.x.o (l.x.kids.map Ex.v)]] h (.sl .leaf o1 ((nmL [] l.x.ts).map V.str)):=fun h=>(show V.agg l.x.cs=_ from rfl)▸Ex.aAW l.x▸ho1▸wq l.x b2 h;have C2:∀h:Hp,aI Tryz.prog 176 [.agg [.int .i64 l.y.op, .str l.y.t.x, .int .i64 l.y.t.w.k, .int .i64 l.y.t.w.n, .str l.y.t.w.s, .sl (.agg 6) l.y.o (l.y.kids.map Ex.v)]] h (.sl .leaf o2 ((nmL [] l.y.ts).map V.str)):=fun h=>(show V.agg l.y.cs=_ from rfl)▸Ex.aAW l.y▸ho2▸wq l.y b3 h;have z1:=cd (bQ l.x);have z2:=cd (bQ l.y);obtain⟨r1,m1,p1,p2,p3,p4,p5⟩:=pT hs (bQ l.x);obtain⟨r2,m2,q1,q2,q3,q4,q5⟩:=pT hs (bQ l.y);have e1:(m1==0)= !bB (bQ l.x) s:=by
  cases k:bB (bQ l.x) s with
  |true=>exact bqf (fun e=>by rw[p5.1 e] at k;cases k)
  |false=>exact bqt (p5.2 k)
 have e2':(m2==0)= !bB (bQ l.y) s:=by
  cases k:bB (bQ l.y) s with
  |true=>exact bqf (fun e=>by rw[q5.1 e] at k;cases k)
  |false=>exact bqt (q5.2 k)
 unfold cE;generalize bQ l.x=A at*;generalize bQ l.y=B at*;have C5:aI Tryz.prog 175 [.map n, .sl .leaf o2 ((nmL [] l.y.ts).map V.str)] h' (.bool (gU s (nmL [] l.y.ts))):=tX s hl n es c h' hm1 hs o2 _ or;have C6:aI Tryz.prog 175 [.map n, .sl .leaf o1 ((nmL [] l.x.ts).map V.str)] h' (.bool (gU s (nmL [] l.x.ts))):=tX s hl n es c h' hm1 hs o1 _ or;have hle:=vB (leo hd:h'.le (h'.set nx (Blk.arr (Sh.agg 17) [.agg [.int .i64 l.k, .str l.a.r,trs l.a.o l.a.l, .int .i64 l.op, .int .i64 l.x.op, .str l.x.t.x, .int .i64 l.x.t.w.k, .int .i64 l.x.t.w.n, .str l.x.t.w.s, .sl (.agg 6) l.x.o (l.x.kids.map Ex.v), .int .i64 l.y.op, .str l.y.t.x, .int .i64 l.y.t.w.k, .int .i64 l.y.t.w.n, .str l.y.t.w.s, .sl (.agg 6) l.y.o (l.y.kids.map Ex.v), .int .i64 l.at_]])))
 replace C5:=C5.mono hle
 replace C6:=C6.mono hle
 (repeat' (first|(with_reducible first|refine stp ?_|refine bW ZM ?_|refine nL (fun _=>?_) (fun _=>?_))|((first|(with_reducible refine kQ ?_;first|refine iI rfl ?_ ?_|refine aK (C1 _) rfl (aL _) ?_|refine aK (C2 _) rfl (aL _) ?_|refine aK C5 rfl (aL _) ?_|refine aK C6 rfl (aL _) ?_|refine Zx ?_)|(with_reducible refine kU ?_;first|refine iM rfl ?_ ?_|refine bI (D1 _) rfl (aZ _) ?_|refine bI (D2 _) rfl (aZ _) ?_|refine ZX ?_)|refine Zy ?_)<;>try simp only[hm1,n1,z1,z2,p1,p2,q1,q2,e1,e2',go_sem,reduceIte,jA,jB,jC,jD,reduceCtorEq,jE,jF])|refine ZY ?_|omega))
 all_goals refine aB h' (leo hd) ⟨vb ?_,rfl⟩
 all_goals simp_all
set_option maxHeartbeats 4000000
set_option maxHeartbeats 1000000 in
theorem ct(p:ByteArray→Bool)(n:Nat)(l:List ByteArray)(g:Nat)(caps:List V)(h hc:Hp)(nx:Nat)(hn:h n=some (.arr .leaf (l.map V.str)))
 (hcn:hc n=none) (hch:Hp.has hc h) (hcd:aQ hc nx) (hp:∀x∈l,aI Tryz.prog g ([V.str x]++caps) hc (.bool (p x))) (hl:l.length≤1000000000):
 aV Tryz.prog 129 [.rs n .leaf 0 l.length, .fn (.func g) [] caps] h nx fun v h' nx'=>∃zs,v= .rs n .leaf 0 (l.filter fun x=> !(p x)).length∧h'=h.set n (.arr .leaf ((l.filter fun x=> !(p x)).map V.str++zs)):=by
 have aN5:h.set n (.arr .leaf (l.map V.str))=h:=by
  funext x;unfold Kc;split
  ·rename_i hx;rw[hx,hn]
  rfl
 refine aC L.aTk fun hd=>?_;have aXT:n<nx:=hd n _ hn;obtain⟨k1,k2⟩:=po p l;simp only[jL,jM,jA,jB,jN,jO,jP,jQ,Ka];cases aBl:(bA p l==-1) with
 |true=>
  have aA3:=k1.1 aBl
  (repeat' (first|(with_reducible first|refine stp ?_|refine bW ZM ?_|refine nL (fun _=>?_) (fun _=>?_))|((first|(with_reducible refine kQ ?_;first|refine iI rfl ?_ ?_|refine aK (sX V.str (fun _=>rfl) xK p n l g caps h hn (fun x hx=>(hp x hx).mono hch) or) (by simp only[go_sem,reduceIte,jA,jB,jC,jD,reduceCtorEq,jE,jF]) (aL _) ?_|refine Zx ?_)|(with_reducible refine kU ?_;first|refine iM rfl ?_ ?_|refine ZX ?_)|refine Zy ?_)<;>try simp only[aBl,go_sem,reduceIte,jA,jB,jC,jD,reduceCtorEq,jE,jF])|refine ZY ?_|omega))
  have hfl:(l.filter fun x=> !(p x))=l:=Kz.2 (fun x hx=>by simp[aA3 x hx]);refine aB h (Kb _) ⟨[],?_,?_⟩
  ·simp only[hfl,go_sem,reduceIte,jA,jB,jC,jD,reduceCtorEq,jE,jF]
  rw[hfl,List.append_nil,aN5]
 |false=>
  obtain⟨i0,hi0⟩:∃i:Nat,bA p l=i:=by
   cases hf:l.findIdx? p with
   |none=>exact absurd (k1.2 (by simpa using List.findIdx?_eq_none_iff.1 hf)) (by rw[aBl];simp)
   |some j=>exact⟨j,by unfold bA;rw[hf]⟩
  obtain⟨b1,b2,b3⟩:=k2 i0 hi0;have hw0:IntKind.i64.wrap ((i0:Int)+1)=((i0+1:Nat):Int):=by rw[fH]<;>omega
  rw[hi0] at aBl
  (repeat' (first|(with_reducible first|refine stp ?_|refine bW ZM ?_|refine nL (fun _=>?_) (fun _=>?_))|((first|(with_reducible refine kQ ?_;first|refine iI rfl ?_ ?_|refine aK (sX V.str (fun _=>rfl) xK p n l g caps h hn (fun x hx=>(hp x hx).mono hch) or) (by simp only[go_sem,reduceIte,jA,jB,jC,jD,reduceCtorEq,jE,jF]) (aL _) ?_|refine Zx ?_)|(with_reducible refine kU ?_;first|refine iM rfl ?_ ?_|refine ZX ?_)|refine Zy ?_)<;>try simp only[aBl,hi0,hw0,go_sem,reduceIte,jA,jB,jC,jD,reduceCtorEq,jE,jF])|refine ZY ?_|omega))
  refine aO (fun q:Nat×Nat×List ByteArray=>aD 42 0 [(0, .rs n .leaf 0 l.length),(1, .fn (.func g) [] caps),(5, .int .i64 q.1),(6, .int .i64 q.2.1)])
   (fun q hp2 nx1=>q.1+1≤q.2.1∧q.2.1≤l.length∧q.2.2.length=l.length∧q.2.2.take q.1=(l.take q.2.1).filter (fun x=> !(p x))∧q.2.2.drop q.1=l.drop q.1∧hp2 n=some (.arr .leaf (q.2.2.map V.str))∧nx≤nx1∧∀x,x≠n→x<nx→hp2 x=h x)
   (fun q=>l.length-q.2.1) (i0,i0+1,l) ⟨Kg _,b1,rfl,?_,rfl,hn,Kg _,fun _ _ _=>rfl⟩ ?_ ?_
  ·dsimp only;rw[Ke b1,Ku,Kz.2 (fun x hx=>by simp[b3 x hx])];simp[b2]
  ·simp only[WkL,aD,jH,jI,jJ,go_sem,reduceIte,jA,jB,jC,jD,reduceCtorEq,jE,jF]
  rintro⟨i,j,xs⟩ hp2 nx1 ⟨a1,a2,a3,a4,a5,a6,a7,a8⟩;generalize hQ:aX _ _ _ _ _=Q0;dsimp only at a1 a2 a3 a4 a5 a6;simp only[aD,go_sem,reduceIte,jA,jB,jC,jD,reduceCtorEq,jE,jF];have aOJ:Hp.has hc hp2:=fun m kk hm hbm=>by
   have hmn:m≠n:=fun e2=>by rw[e2,hcn] at hm;cases hm
   rw[a8 m hmn (hcd m _ hm)];exact hch m kk hm hbm
  have hcf:∀m,nx≤m→hc m=none:=fun m hm=>aQ.none hcd hm;rcases Kj j l.length with hlt|hge
  ·have hcc:decide ((j:Int)<(l.length:Int))=true:=decide_eq_true or;have hxj:xs[j]'or=l[j]:=by
    have e1:xs[j]'or=(xs.drop i)[j-i]'(by simp;omega):=by simp[show i+(j-i)=j by omega]
    have e2:l[j]=(l.drop i)[j-i]'(by simp;omega):=by simp[show i+(j-i)=j by omega]
    rw[e1,e2];congr 1
   have hg:(xs.map V.str).getD j (.tup [])=V.str l[j]:=by rw[aM V.str xs j or,hxj]
   have hw:IntKind.i64.wrap ((j:Int)+1)=((j+1:Nat):Int):=by rw[fH]<;>omega
   have hw2:IntKind.i64.wrap ((i:Int)+1)=((i+1:Nat):Int):=by rw[fH]<;>omega
   have hnl:n<nx1:=or;have hil:i<l.length:=or;have htk:l.take (j+1)=l.take j++[l[j]]:=Ke hlt
   (repeat' (first|(with_reducible first|refine stp ?_|refine bW ZM ?_|refine nL (fun _=>?_) (fun _=>?_))|((first|(with_reducible refine kQ ?_;first|refine iI rfl ?_ ?_|refine jT rfl (hp l[j] (Ki _)) (by simp only[go_sem,reduceIte,jA,jB,jC,jD,reduceCtorEq,jE,jF]) (by repeat (first|exact aOJ|refine AX ?_ (by first|exact hcn|exact hcf _ or) _)) ?_|refine Zx ?_)|(with_reducible refine kU ?_;first|refine iM rfl ?_ ?_|refine ZX ?_)|refine Zy ?_)<;>try simp only[hcc,hg,hw,hw2,hnl,hil,hlt,a6,a3,jK,jG,go_sem,reduceIte,jA,jB,jC,jD,reduceCtorEq,jE,jF])|refine ZY ?_|omega))
   ·rename_i hx;have hx:p l[j]=false:=by simpa using hx
    rw[←hQ];refine aE (i+1,j+1,xs.set i l[j]) Zw ⟨Zw,Zw,by simpa using a3,?_,?_,?_,or,fun x hxn hxl=>?_⟩ ?_
    ·dsimp only;rw[htk,Ku,←a4,Ke (by simp;omega),List.getElem_set_self,List.take_set_of_le (Kg _)];simp[hx]
    ·dsimp only;rw[List.drop_set_of_lt or];have:=congrArg (KF 1) a5;rwa [KB,KB] at this
    ·simp only[hnl,go_sem,reduceIte,jA,jB,jC,jD,reduceCtorEq,jE,jF];rw[List.map_set,aM V.str xs i or];rfl
    ·have h1:(x=nx1)=False:=eq_false or;simp only[hxn,h1,go_sem,reduceIte,jA,jB,jC,jD,reduceCtorEq,jE,jF];exact a8 x hxn hxl
    simp only[WkL,aD,jH,jI,jJ,go_sem,reduceIte,jA,jB,jC,jD,reduceCtorEq,jE,jF]
   rename_i hx;have hx:p l[j]=true:=by simpa using hx
   rw[←hQ];refine aE (i,j+1,xs) Zw ⟨Zw,Zw,a3,?_,a5,?_,or,fun x hxn hxl=>?_⟩ ?_
   ·dsimp only;rw[htk,Ku,←a4];simp[hx]
   ·exact a6
   ·exact a8 x hxn hxl
   simp only[WkL,aD,jH,jI,jJ,go_sem,reduceIte,jA,jB,jC,jD,reduceCtorEq,jE,jF]
  have hcc:decide ((j:Int)<(l.length:Int))=false:=decide_eq_false or;rw[show j=l.length by omega,Km] at a4;have hil:i<l.length:=or;have aUS:(i=l.length)=False:=eq_false or;refine aue hcc ?_;rw[←hQ];refine aue (ee4 aUS hil a6 a3) ?_;have hlen:(l.filter fun x=> !(p x)).length=i:=by rw[←a4];simp;omega
  refine aB (h.set n (.arr .leaf ((l.filter fun x=> !(p x)).map V.str++(List.replicate (l.length-i) (.str ⟨#[]⟩)++(xs.map V.str).drop (i+(l.length-i)))))) ?_ ⟨_,?_,rfl⟩
  ·intro x b hxb;by_cases hxn:x=n
   ·subst hxn;simp only[go_sem,reduceIte,jA,jB,jC,jD,reduceCtorEq,jE,jF] at hxb⊢;rw[←hxb,←a4,List.map_take,KA]
   have hxl:x<nx:=hd x b (by simpa only[Kc,if_neg hxn] using hxb);simp only[hxn,go_sem,reduceIte,jA,jB,jC,jD,reduceCtorEq,jE,jF] at hxb⊢;rw[a8 x hxn hxl];exact hxb
  simp only[hlen,Nat.sub_zero,go_sem,reduceIte,jA,jB,jC,jD,reduceCtorEq,jE,jF]
theorem qb(p:ByteArray→Bool)(g:Nat)(caps:List V)(h:Hp):
 aI Tryz.prog 129 [.sl .leaf .nil [], .fn (.func g) [] caps] h (.sl .leaf .nil []):=by
 refine aH (fun L=>by simp[V.names,bF]) fun h' nx hh=>aC L.aTk fun hd=>?_;have aBl:(bA p ([]:List ByteArray)==-1)=true:=by simp[bA]
 have hi:aI Tryz.prog 173 [.sl .leaf .nil [], .fn (.func g) [] caps] h' (.int .i64 (bA p ([]:List ByteArray))):=by
  have:=mL V.str (fun _=>rfl) xK p .nil [] g caps h' (fun x hx=>by cases hx) Zm;simpa using this
 simp only[jL,jM,jA,jB,jN,jO,jP,jQ,Ka];have C5:=hi;refine aue aBl ?_;exact aB h' (Kb _) ⟨rfl,rfl⟩
theorem mv(s:List ByteArray)(n:Nat)(es:List ME)(c:Nat)(h:Hp)(hm:h n=some (.mp es c))(hs:gA es s)(b:Bool)(p q:Nat)(hp:h p=some (.arr .leaf [.map n]))(hq:h q=some (.arr .leaf [.bool b]))(x:ByteArray):aI Tryz.prog 130 [.str x, .ptr p .leaf 0 0, .ptr q .leaf 0 0] h (.bool (!(bB x s==b))):=by
 refine aH (fun L=>trivial) fun h' nx hh=>aC L.aVU fun hd=>?_;simp only[jL,jM,jA,jB,jN,jO,jP,jQ,Ka];have hm1:=hh _ _ hm rfl;have hp1:=hh _ _ hp rfl;have hq1:=hh _ _ hq rfl;have n1:n<nx:=hd _ _ hm1;have n2:p<nx:=hd _ _ hp1;have n3:q<nx:=hd _ _ hq1;obtain⟨r,m,q1,q2,q3,q4,q5⟩:=pT hs x;have hb:decide (0<m)=bB x s:=by
  cases k:bB x s with
  |true=>exact dct (by have:m≠0:=fun e=>(by rw[q5.1 e] at k;cases k);omega)
  |false=>exact dcf (by have:=q5.2 k;omega)
 have hv:veq (.plain .leaf [.bool]) (.bool (bB x s)) (.bool b)=some (bB x s==b):=rfl;refine aue (e7 hm1 hp1 hq1 q1 q2 hb hv) ?_;exact aB h' (leo hd) ⟨rfl,rfl⟩
def bY(r:Ru)(s:List ByteArray)(b:Bool):List ByteArray:=r.vars.filter fun v=>bB v s==b
theorem yG(r:Ru)(hr:bM r=true)(s:List ByteArray)(n:Nat)(es:List ME)(c:Nat)(h:Hp)(hm:h n=some (.mp es c))(hs:gA es s)(b:Bool):aI Tryz.prog 80 [r.v, .map n, .bool b] h (.sl .leaf (frO r.vars) ((bY r s b).map V.str)):=by
 have hnm:∀L,(V.sl .leaf (frO r.vars) ((bY r s b).map V.str)).names L:=fun L=>⟨fun m e=>(by unfold frO at e;split at e<;>cases e),aS (f:=V.str) (fun _=>trivial) _⟩;refine dM hnm fun h' nx hh=>aC L.aWH fun hd=>?_;have hm1:=hh _ _ hm rfl;have n1:n<nx:=hd _ _ hm1;have hvl:r.vars.length≤16777270:=by have:=xX hr r.b.length;rwa [Km] at this
 simp only[jL,jM,jA,jB,jN,jO,jP,jQ,Ka];obtain⟨X,hX⟩:∃X,r.v=X:=⟨_,rfl⟩;have hf:X.fits (.agg 6)=true:=by rw[←hX];rfl
 have hV:=fun h nx=>uq r hr h nx;rw[hX] at hV⊢;refine bP ?_;generalize hR1:lJ _ _=R1;refine aue (e2 hf n1) ?_;rw[←hR1];clear hR1;refine aU (bP ?_);generalize hRC:lJ _ _=RC;refine aue (e2 hf n1) ?_;refine bZ ((hV _ (nx+3)).dom.mono ?_);rintro v h1 nx1 aAt ⟨⟨aBD,hsm⟩,hd1,_⟩;unfold eD;refine Zn ?_;have hb0:h1 nx=some (.arr (.agg 6) [X]):=by rw[hsm nx or];simp only[go_sem,reduceIte,jA,jB,jC,jD,reduceCtorEq,jE,jF]
 have hb1:h1 (nx+1)=some (.arr .leaf [.map n]):=by rw[hsm (nx+1) or];simp only[go_sem,reduceIte,jA,jB,jC,jD,reduceCtorEq,jE,jF]
 have hb2:h1 (nx+2)=some (.arr .leaf [.bool b]):=by rw[hsm (nx+2) or];simp only[go_sem,reduceIte,jA,jB,jC,jD,reduceCtorEq,jE,jF]
 have aCI:h'.le h1:=fun m bl e=>by
  have:=hd m bl e;rw[hsm m or];simp only[Kc];rw[if_neg or,if_neg or,if_neg or];exact e
 have hm2:h1 n=some (.mp es c):=aCI _ _ hm1;rcases aBD with⟨q1,rfl⟩|⟨q1,id,q2,rfl,q3⟩
 ·have hv0:r.vars=[]:=by simpa using q1
  refine au ?_;refine aK (qb (fun x=> !(bB x s==b)) _ _ _) rfl (aL _) ?_;refine Zn ?_;refine au ?_;rw[←hRC];refine au ?_;refine aB h1 (Kb _) ⟨?_,aCI⟩;unfold bY;simp only[hv0,go_sem,reduceIte,jA,jB,jC,jD,reduceCtorEq,jE,jF];rfl
 have hid:id<nx1:=hd1 _ _ q3;refine au ?_;have hlm:(r.vars.map V.str).length=r.vars.length:=jK ..;rw[hlm]
 refine bZ ((ct (fun x=> !(bB x s==b)) id r.vars _ _ h1 (h1.del id) nx1 q3 (by simp[Kd]) (fun m bl e _=>by simp only[Kd] at e;split at e<;>first|cases e|exact e) (fun m bl e=>by simp only[Kd] at e;split at e<;>first|cases e|exact hd1 m bl e)
  (fun x _=>mv s n es c _ (by simp only[Kd];rw[if_neg or];exact hm2) hs b (nx+1) (nx+2) (by simp only[Kd];rw[if_neg or];exact hb1) (by simp only[Kd];rw[if_neg or];exact hb2) x) or).mono ?_)
 rintro v h2 nx2 aAf ⟨zs,rfl,rfl⟩;unfold eD;refine Zn ?_;refine au ?_;rw[←hRC];have hfl:(r.vars.filter fun x=> !!(bB x s==b))=bY r s b:=by simp[bY]
 rw[hfl];refine lB (mh (t:=6) (n:=id) (k:= .leaf) (off:=0) (len:=(bY r s b).length) (es:=(bY r s b).map V.str++zs) rfl (by simp only[go_sem,reduceIte,jA,jB,jC,jD,reduceCtorEq,jE,jF]) Zm) ?_;have htk:(KF 0 ((bY r s b).map V.str++zs)).take (bY r s b).length=(bY r s b).map V.str:=by rw[List.drop_zero,List.take_append_of_le_length Zm];exact Kx Zm
 rw[htk];refine au ?_;have hne:r.vars≠ []:=fun e=>q1 (by rw[e];rfl);have hfr:frO r.vars= .free:=by cases hv:r.vars with|nil=>exact absurd hv hne|cons a l=>rfl
 refine aB _ (Kb _) ⟨?_,fun m bl e=>?_⟩
 ·simp only[hfr,go_sem,reduceIte,jA,jB,jC,jD,reduceCtorEq,jE,jF];rfl
 have:=hd m bl e;simp only[Kd,Kc];rw[if_neg or,if_neg or];exact aCI _ _ e
end Go.Proofs.YtgbiopfghdilnaaGreatDoor
