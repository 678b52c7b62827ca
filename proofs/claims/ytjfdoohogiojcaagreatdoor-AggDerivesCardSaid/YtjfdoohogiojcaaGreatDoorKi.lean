/-
Texts of this proof,one behind the other. No conditions.
-/
import Derived.Test.YtjfdoohogiojcaaGreatDoorKd
import Derived.Test.YtjfdoohogiojcaaGreatDoorKe
import Derived.Test.YtjfdoohogiojcaaGreatDoorKh
open Go.Proofs.YtjfdoohogiojcaaGreatDoor.Hp renaming le_refl→Ka,same→Kb,set→Kd
open List renaming take_succ_eq_append_getElem→Kc,map_append→Kf,getElem_mem→Kh,drop_eq_getElem_cons→Ki,drop_eq_nil_of_le→Kk,sizeOf_lt_of_mem→Km,take_length→Ko,take_zero→Kp,getD_eq_getElem?_getD→Kq,map_nil→Ks,map_map→Kt,mem_map→Kv
open Nat renaming le_refl→Ke,lt_or_ge→Kg,zero_le→Kj
open Function renaming comp→Ku
open Nat renaming reduceAdd→jA,reduceSub→jB,reduceLT→jC,reduceLeDiff→jD,reduceEqDiff→jE
open Int renaming reduceToNat→jF,toNat_natCast→jG,natCast_add→jH,natCast_one→jI,natCast_zero→jJ
open List renaming length_map→jK,length_cons→jL,length_nil→jM,replicate_succ→jN,replicate_zero→jO,cons_append→jP,nil_append→jQ
set_option linter.unusedSimpArgs false
set_option linter.unusedVariables false
set_option linter.unusedSectionVars false
set_option maxHeartbeats 8000000
namespace Go.Proofs.YtjfdoohogiojcaaGreatDoor
open Go.RowKit Go.Sort
attribute [local irreducible] IntKind.wrap
set_option maxHeartbeats 4000000
theorem dv(n:Nat)(h:n≤300000000000000):IntKind.i64.wrap ((n:Int).tdiv 50)=((n / 50:Nat):Int):=by
 have e:((n / 50:Nat):Int)=(n:Int).tdiv 50:=Int.ofNat_tdiv n 50;rw[←e];exact pF or or
theorem ie(t:Tr)(r:List Tr)(l:Int):gC (t::r) l=if l-dE t<0 then-1 else gC r (l-dE t):=rfl
theorem pn(k:Ex)(r:List Ex)(l:Int):gE (k::r) l=if l<0 then-1 else gE r (iT k l):=by rw[gE]
theorem uw(l:Int):gE [] l=l:=by rw[gE]
theorem o7(b:Li)(r:List Li)(l:Int):oN (b::r) l=if l<0 then-1 else oN r (tU b l):=rfl
theorem yC(a:Am)(ha:a.s47)(l:Int)(hl:-100000000000000≤l∧l≤300)(h:Hp):aO Tryz.prog 17 [a.v, .int .i64 l] h (.int .i64 (eB a l)):=by
 refine aI (fun L=>trivial) fun h' nx hh=>aB L.aTr fun hd=>?_;obtain⟨r,o,ts⟩:=a;simp only[jL,jM,jA,jB,jN,jO,jP,jQ,V.undef];have hn:=sB ha;have hr:r.size≤mS:=ha.1;unfold mS at hr;dsimp only at hn;have d1:=dv r.size or;have hat:eB ⟨r,o,ts⟩ l=gC ts (l-(1+((r.size / 50:Nat):Int))):=rfl;rw[hat];generalize ((r.size / 50:Nat):Int)=D at hn d1;have d2:IntKind.i64.wrap (1+D)=1+D:=wrp;have d3:IntKind.i64.wrap (l-(1+D))=l-(1+D):=wrp;refine aue (e6 Am.v.eq_1 d1 d2 d3 trs.eq_1 (@jK Tr V)) ?_
 refine aT (fun q:Nat×Int=>aD 37 0 [(1, .int .i64 q.2),(15,trs o ts),(16, .int .i64 ts.length),(17, .int .i64 q.1)])
  (fun q hp nx1=>q.1≤ts.length∧nx≤nx1∧aW hp nx1∧Kb nx h' hp∧gC ts (l-(1+D))=gC (ts.drop q.1) q.2∧-200000000000000≤q.2∧q.2≤300-q.1∧q.1≤301)
  (fun q=>ts.length-q.1) (0,l-(1+D)) ⟨Kj _,Zw,by exact dmo hd,by exact kep Hp.same.aAt,rfl,Zw,Zw,Zw⟩ (by simp only[WkL,aD,jH,jI,jJ,trs,go_sem,reduceIte,jA,jB,jC,jD,reduceCtorEq,jE,jF]) ?_
 rintro⟨i,c⟩ hp nx1 ⟨hi,hnx,hdm,hsm,hTe,hb1,hb2,hb3⟩;generalize hQ:bB _ _ _ _ _=Q0;dsimp only at hi hTe hb1 hb2 hb3;simp only[aD,go_sem,reduceIte,jA,jB,jC,jD,reduceCtorEq,jE,jF];have hle:=hsm.le hd (Ka _);rcases Kg i ts.length with hlt|hge
 ·have hc:decide ((i:Int)<(ts.length:Int))=true:=dct;have hg:=aR Tr.v ts i hlt;have hdr:ts.drop i=ts[i]::ts.drop (i+1):=Ki hlt;have aQP:ts[i].s47:=ha.2 _ (Kh _);have hcb:=mR aQP;rw[hdr,ie] at hTe;have hct:dE ts[i]=1+((ts[i].x.size+ts[i].w.s.size)/ 50:Nat):=rfl;obtain⟨q1,q2⟩:=aQP;unfold mS at q1 q2;obtain⟨N,hN⟩:∃N,ts[i].x.size+ts[i].w.s.size=N:=⟨_,rfl⟩;rw[hN] at hct;have w1:IntKind.i64.wrap ((ts[i].x.size:Int)+(ts[i].w.s.size:Int))=(N:Int):=wrp;have w2:=dv N or;obtain⟨D2,hD2⟩:∃D2,N / 50=D2:=⟨_,rfl⟩;rw[hD2] at w2 hct;have w3:IntKind.i64.wrap (1+(D2:Int))=dE ts[i]:=wrp;have w4:IntKind.i64.wrap (c-dE ts[i])=c-dE ts[i]:=wrp;by_cases aFR:c-dE ts[i]<0
  ·have g1:decide (c-dE ts[i]<0)=true:=dct;rw[if_pos aFR] at hTe;refine aue (e12 hc hg hlt w1 w2 w3 w4 g1 Tr.v.eq_1 trs.eq_1 (@jK Tr V) jG) ?_;rw[←hQ];refine au ?_;refine aC h' (lef hd hle) ⟨?_,rfl⟩;rw[hTe];rfl
  have g1:decide (c-dE ts[i]<0)=false:=dcf;have hw:IntKind.i64.wrap ((i:Int)+1)=((i+1:Nat):Int):=wrp;rw[if_neg aFR] at hTe;refine aue (e13 hc hg hlt w1 w2 w3 w4 g1 Tr.v.eq_1 trs.eq_1 (@jK Tr V) jG hw) ?_;rw[←hQ];exact aH (i+1,c-dE ts[i]) Zw ⟨hlt,or,dmo hdm,kep hsm,hTe,Zw,Zw,Zw⟩ (by simp only[WkL,aD,jH,jI,jJ,trs,go_sem,reduceIte,jA,jB,jC,jD,reduceCtorEq,jE,jF])
 have hc:decide ((i:Int)<(ts.length:Int))=false:=dcf;refine aue hc ?_;rw[←hQ];refine au ?_;refine aC h' hle ⟨?_,rfl⟩;rw[hTe,Kk hge];rfl
theorem tV:∀(n:Nat) (e:Ex),SizeOf.sizeOf e≤n→e.s47→∀(l:Int),(-100000000000000≤l∧l≤300)→∀(h:Hp),aO Tryz.prog 18 [e.v, .int .i64 l] h (.int .i64 (iT e l))
 |0, .mk op t o ks,h,_,_,_,_=>by simp at h
 |n+1, .mk op t o ks,hz,hs,l,hl,h=>by
  have hcb:=mR hs.1;have hk:∀e∈ks,SizeOf.sizeOf e≤n∧e.s47:=fun e he=>by
   refine⟨?_,Ex.aA0.1 hs.2 e he⟩;have:=Km he;simp only[Ex.mk.sizeOf_spec] at hz;omega
  refine aI (fun L=>trivial) fun h' nx hh=>aB L.aTq fun hd=>?_;rw[Ex.aAp];simp only[jL,jM,jA,jB,jN,jO,jP,jQ,V.undef];have hat:iT (.mk op t o ks) l=gE ks (l-dE t):=by rw[iT]
  rw[hat];have hct:dE t=1+((t.x.size+t.w.s.size)/ 50:Nat):=rfl;obtain⟨q1,q2⟩:=hs.1;unfold mS at q1 q2;obtain⟨N,hN⟩:∃N,t.x.size+t.w.s.size=N:=⟨_,rfl⟩;rw[hN] at hct;have w1:IntKind.i64.wrap ((t.x.size:Int)+(t.w.s.size:Int))=(N:Int):=wrp;have w2:=dv N or;obtain⟨D2,hD2⟩:∃D2,N / 50=D2:=⟨_,rfl⟩;rw[hD2] at w2 hct;have w3:IntKind.i64.wrap (1+(D2:Int))=dE t:=wrp;have w4:IntKind.i64.wrap (l-dE t)=l-dE t:=wrp;refine aue (e10 Ex.cs.eq_1 Ex.op.eq_1 Ex.t.eq_1 Ex.o.eq_1 Ex.kids.eq_1 w1 w2 w3 w4 (@jK Ex V)) ?_
  refine aT (fun q:Nat×Int=>aD 35 0 [(1, .int .i64 q.2),(22, .sl (.agg 6) o (ks.map Ex.v)),(23, .int .i64 ks.length),(24, .int .i64 q.1)])
   (fun q hp nx1=>q.1≤ks.length∧nx≤nx1∧aW hp nx1∧Kb nx h' hp∧gE ks (l-dE t)=gE (ks.drop q.1) q.2∧q.2≤300∧(0≤q.2→q.2≤300-q.1)∧q.1≤301)
   (fun q=>ks.length-q.1) (0,l-dE t) ⟨Kj _,Zw,by exact dmo hd,by exact kep Hp.same.aAt,rfl,Zw,Zw,Zw⟩ (by simp only[WkL,aD,jH,jI,jJ,go_sem,reduceIte,jA,jB,jC,jD,reduceCtorEq,jE,jF]) ?_
  rintro⟨i,c⟩ hp nx1 ⟨hi,hnx,hdm,hsm,hTe,hb2,hb4,hb3⟩;generalize hQ:bB _ _ _ _ _=Q0;dsimp only at hi hTe hb2 hb3 hb4;simp only[aD,go_sem,reduceIte,jA,jB,jC,jD,reduceCtorEq,jE,jF];have hle:=hsm.le hd (Ka _);rcases Kg i ks.length with hlt|hge
  ·have hc:decide ((i:Int)<(ks.length:Int))=true:=dct;have hg:=aR Ex.v ks i hlt;have hdr:ks.drop i=ks[i]::ks.drop (i+1):=Ki hlt;have hfl:=Ex.aAA ks[i];rw[hdr,pn] at hTe;by_cases aFR:c<0
   ·have g1:decide (c<0)=true:=dct;rw[if_pos aFR] at hTe;refine aue (e6 hc hg hlt g1 (@jK Ex V) (e2 hfl jG)) ?_;rw[←hQ];refine au ?_;refine aC h' (lef hd hle) ⟨?_,rfl⟩;rw[hTe];rfl
   have g1:decide (c<0)=false:=dcf;have hi3:=hb4 or;have hw:IntKind.i64.wrap ((i:Int)+1)=((i+1:Nat):Int):=wrp;rw[if_neg aFR] at hTe;obtain⟨hk1,hk2⟩:=hk _ (Kh hlt);have C1:=fun h=>tV n ks[i] hk1 hk2 c ⟨or,hb2⟩ h;have hbd:=oX n ks[i] hk1 hk2 c;refine aue (e7 hc hg hlt g1 (@jK Ex V) (e2 hfl jG) hw) ?_;rw[←hQ];exact aH (i+1,iT ks[i] c) Zw ⟨hlt,or,dmo hdm,kep hsm,hTe,Zw,Zw,Zw⟩ (by simp only[WkL,aD,jH,jI,jJ,go_sem,reduceIte,jA,jB,jC,jD,reduceCtorEq,jE,jF])
  have hc:decide ((i:Int)<(ks.length:Int))=false:=dcf;refine aue hc ?_;rw[←hQ];refine au ?_;refine aC h' hle ⟨?_,rfl⟩;rw[hTe,Kk hge];rw[uw];rfl
theorem om(r:Ru)(hr:r.s47)(h:Hp):aO Tryz.prog 5 [r.v, .int .i64 300] h (.int .i64 (bl r)):=by
 refine aI (fun L=>trivial) fun h' nx hh=>aB L.g2z fun hd=>?_;obtain⟨⟨hr',ho,hl⟩,g,c0,o,b,at_⟩:=r;simp only[jL,jM,jA,jB,jN,jO,jP,jQ,V.undef];have C1:∀h:Hp,aO Tryz.prog 17 [.agg [.str hr', .sl (.agg 4) ho (hl.map Tr.v)], .int .i64 300] h (.int .i64 (eB ⟨hr',ho,hl⟩ 300)):=fun h=>yC ⟨hr',ho,hl⟩ hr.1 300 or h;have hab:=sZ hr.1 300;have hat:bl ⟨⟨hr',ho,hl⟩,g,c0,o,b,at_⟩=oN b (eB ⟨hr',ho,hl⟩ 300):=rfl;rw[hat];dsimp only at hab;generalize eB ⟨hr',ho,hl⟩ 300=A at C1 hab;refine aue (e2 Ru.v.eq_1 (@jK Li V)) ?_;clear C1
 refine aT (fun q:Nat×Int=>aD 32 0 [(1, .int .i64 q.2),(12, .sl (.agg 17) o (b.map Li.v)),(13, .int .i64 b.length),(14, .int .i64 q.1)])
  (fun q hp nx1=>q.1≤b.length∧nx≤nx1∧aW hp nx1∧Kb nx h' hp∧oN b A=oN (b.drop q.1) q.2∧q.2≤300∧(0≤q.2→q.2≤300-q.1)∧q.1≤301)
  (fun q=>b.length-q.1) (0,A) ⟨Kj _,Zw,by exact dmo hd,by exact kep Hp.same.aAt,rfl,Zw,Zw,Zw⟩ (by simp only[WkL,aD,jH,jI,jJ,go_sem,reduceIte,jA,jB,jC,jD,reduceCtorEq,jE,jF]) ?_
 rintro⟨i,c⟩ hp nx1 ⟨hi,hnx,hdm,hsm,hTe,hb2,hb4,hb3⟩;generalize hQ:bB _ _ _ _ _=Q0;dsimp only at hi hTe hb2 hb3 hb4;simp only[aD,go_sem,reduceIte,jA,jB,jC,jD,reduceCtorEq,jE,jF];have hle:=hsm.le hd (Ka _);rcases Kg i b.length with hlt|hge
 ·have hc:decide ((i:Int)<(b.length:Int))=true:=dct;have hg:=aR Li.v b i hlt;have hdr:b.drop i=b[i]::b.drop (i+1):=Ki hlt;have hs:=hr.2 _ (Kh hlt);rw[hdr,o7] at hTe;by_cases aFR:c<0
  ·have g1:decide (c<0)=true:=dct;rw[if_pos aFR] at hTe;have hfl:=Li.aAA b[i];refine aue (e6 hc hg hlt g1 (@jK Li V) (e2 hfl jG)) ?_;rw[←hQ];refine au ?_;refine aC h' (lef hd hle) ⟨?_,rfl⟩;rw[hTe];rfl
  have g1:decide (c<0)=false:=dcf;have hi3:=hb4 or;have hw:IntKind.i64.wrap ((i:Int)+1)=((i+1:Nat):Int):=wrp;rw[if_neg aFR] at hTe;obtain⟨x1,y1⟩:=sZ hs.1 c;obtain⟨x2,y2⟩:=oX _ b[i].x (Ke _) hs.2.1 (eB b[i].a c);obtain⟨x3,y3⟩:=oX _ b[i].y (Ke _) hs.2.2 (iT b[i].x (eB b[i].a c));have hA:-50000000000000≤eB b[i].a c∧eB b[i].a c≤300:=by split at x1<;>omega
  have hX:-100000000000000≤iT b[i].x (eB b[i].a c)∧iT b[i].x (eB b[i].a c)≤300:=by split at x2<;>omega
  have hv:=Li.aAp b[i];generalize b[i]=B at hs hv hg hTe x1 x2 x3 y1 y2 y3 hA hX;have D1:∀h:Hp,aO Tryz.prog 17 [.agg [.str B.a.r, .sl (.agg 4) B.a.o (B.a.l.map Tr.v)], .int .i64 c] h (.int .i64 (eB B.a c)):=fun h=>yC B.a hs.1 c or h;have D2:∀h:Hp,aO Tryz.prog 18 [.agg [.int .i64 B.x.op, .str B.x.t.x, .int .i64 B.x.t.w.k, .int .i64 B.x.t.w.n, .str B.x.t.w.s, .sl (.agg 6) B.x.o (B.x.kids.map Ex.v)], .int .i64 (eB B.a c)] h (.int .i64 (iT B.x (eB B.a c))):=fun h=>Ex.aAp B.x▸tV _ B.x (Ke _) hs.2.1 _ or h;have D3:∀h:Hp,aO Tryz.prog 18 [.agg [.int .i64 B.y.op, .str B.y.t.x, .int .i64 B.y.t.w.k, .int .i64 B.y.t.w.n, .str B.y.t.w.s, .sl (.agg 6) B.y.o (B.y.kids.map Ex.v)], .int .i64 (iT B.x (eB B.a c))] h (.int .i64 (iT B.y (iT B.x (eB B.a c)))):=fun h=>Ex.aAp B.y▸tV _ B.y (Ke _) hs.2.2 _ or h;refine aue (e8 hc hg hlt g1 (@jK Li V) hv jG hw) ?_;rw[←hQ];exact aH (i+1,tU B c) Zw ⟨hlt,or,dmo hdm,kep hsm,hTe,by dsimp only;unfold tU;omega,by dsimp only;unfold tU;omega,Zw⟩ (by simp only[WkL,aD,jH,jI,jJ,tU,go_sem,reduceIte,jA,jB,jC,jD,reduceCtorEq,jE,jF])
 have hc:decide ((i:Int)<(b.length:Int))=false:=dcf;refine aue hc ?_;rw[←hQ];refine au ?_;refine aC h' hle ⟨?_,rfl⟩;rw[hTe,Kk hge];rfl
set_option maxHeartbeats 4000000
def Am.cp(a:Am):Am:=⟨a.r,frO a.l,a.l⟩
mutual
def Ex.cp:Ex→Ex
 | .mk op t _ ks=> .mk op t (frO ks) (Ex.cps ks)
def Ex.cps:List Ex→List Ex
 | []=>[]
 |e::r=>e.cp::Ex.cps r
end
theorem Ex.aBK:∀l:List Ex,Ex.cps l=l.map Ex.cp
 | []=>rfl
 |e::r=>by rw[Ex.cps,Ex.aBK r];rfl
def Li.cp(l:Li):Li:=⟨l.k,l.a.cp,l.op,l.x.cp,l.y.cp,l.at_⟩
def Ru.cp(r:Ru):Ru:=⟨r.h.cp,r.g,r.c,frO r.b,r.b.map Li.cp,r.at_⟩
theorem mP{α:Type}(k:Sh)(l:List α)(vs:List V)(L:Nat→Prop)(h:bM L vs):(V.sl k (frO l) vs).names L:=by
 refine⟨?_,h⟩;intro n e;unfold frO at e;split at e<;>cases e
theorem xF{h:Hp}{n:Nat}{o:Own}{α:Type}{l:List α}{f:α→V}(a:Acc h n o (l.map f)):(o= .nil∧frO l= .nil)∨∃id,o= .tok id∧frO l= .free:=by
 rcases a with⟨e,rfl⟩|⟨e,id,_,rfl,_⟩
 ·have:l=[]:=by simpa using e
  subst this;exact .inl ⟨rfl,rfl⟩
 cases l with
 |nil=>exact absurd rfl e
 |cons a r=>exact .inr ⟨id,rfl,rfl⟩
theorem sJ(a:Am)(hl:a.l.length≤300)(h:Hp):aO Tryz.prog 19 [a.v] h a.cp.v:=by
 refine cB (fun L=>⟨trivial,mP _ _ _ _ (cN (fun x=>Tr.aAI L x) _),trivial⟩) fun h' nx hh=>aB L.aTp fun hd=>?_;obtain⟨r,o,ts⟩:=a;dsimp only at hl;simp only[jL,jM,jA,jB,jN,jO,jP,jQ,V.undef];refine aue (e3 Am.v.eq_1 trs.eq_1 (@jK Tr V)) ?_
 refine aT (fun i:Nat=>aD 24 0 [(2, .ptr (nx+1) (.agg 2) 0 0),(3, .ptr (nx+2) (.agg 2) 0 0),(10,trs o ts),(11, .int .i64 ts.length),(12, .int .i64 i)])
  (fun i hp nx1=>i≤ts.length∧nx+3≤nx1∧aW hp nx1∧Kb nx h' hp∧hp (nx+1)=some (.arr (.agg 2) [.agg [.str ⟨#[]⟩, .sl (.agg 4) .nil []]])∧∃o',hp (nx+2)=some (.arr (.agg 2) [.agg [.str r, .sl (.agg 4) o' ((ts.take i).map Tr.v)]])∧Acc hp (nx+3) o' ((ts.take i).map Tr.v))
  (fun i=>ts.length-i) 0 ⟨Kj _,Zw,by exact dmo hd,by exact kep Hp.same.aAt,by simp only[go_sem,reduceIte,jA,jB,jC,jD,reduceCtorEq,jE,jF], .nil,by simp only[Kp,Ks,go_sem,reduceIte,jA,jB,jC,jD,reduceCtorEq,jE,jF], .inl ⟨Zm,rfl⟩⟩ (by simp only[WkL,aD,jH,jI,jJ,trs,go_sem,reduceIte,jA,jB,jC,jD,reduceCtorEq,jE,jF]) ?_
 rintro i hp nx1 ⟨hi,hnx,hdm,hsm,hb1,o',hb2,aAP⟩;generalize hQ:bB _ _ _ _ _=Q0;simp only[aD,go_sem,reduceIte,jA,jB,jC,jD,reduceCtorEq,jE,jF];have hle:=hsm.le hd (Ka _);rcases Kg i ts.length with hlt|hge
 ·have hc:decide ((i:Int)<(ts.length:Int))=true:=dct;have hg:=aR Tr.v ts i hlt;have hw:IntKind.i64.wrap ((i:Int)+1)=((i+1:Nat):Int):=wrp;have hcap:((ts.take i).map Tr.v).length≤1000000:=by simp;omega
  have aCg:(ts.take i).length≤1000000:=by simp;omega
  have n1:nx+1<nx1:=or;have n2:nx+2<nx1:=or;have aEf:∀H:Hp,H.aBW o' (nx+1)=H (nx+1):=fun H=>pY fun id e=>by have:=aAP.ge id e;omega
  have aLT:∀H:Hp,H.aBW o' (nx+2)=H (nx+2):=fun H=>pY fun id e=>by have:=aAP.ge id e;omega
  refine aue (e13 hc hg hlt hw hb1 hb2 hcap aCg n1 n2 (@jK Tr V) (e4 jG Tr.aAA aEf aLT) trs.eq_1) ?_;rw[←hQ];refine aH (i+1) or ⟨hlt,or,dmo hdm,vZ hsm aAP,by simp only[aEf,hb1,n1,n2,go_sem,reduceIte,jA,jB,jC,jD,reduceCtorEq,jE,jF], .tok (nx1+3),?_,?_⟩ (by simp only[WkL,aD,jH,jI,jJ,trs,go_sem,reduceIte,jA,jB,jC,jD,reduceCtorEq,jE,jF])
  ·rw[Kc hlt,Kf];simp only[List.map_cons,Ks,go_sem,reduceIte,jA,jB,jC,jD,reduceCtorEq,jE,jF]
  rw[Kc hlt,Kf];exact Acc.set (Acc.new _ Zm or) (by simp only[aLT,hb2,n2,go_sem,reduceIte,jA,jB,jC,jD,reduceCtorEq,jE,jF]) _
 have hc:decide ((i:Int)<(ts.length:Int))=false:=dcf;have n1:nx+1<nx1:=or;refine aue (e4 hc hb1 hb2 n1) ?_;rw[←hQ];refine aue (e4 hc hb1 hb2 n1) ?_;have hil:i=ts.length:=or;rw[hil,Ko] at aAP hb2⊢;refine hP (by simp only[n1,go_sem,reduceIte,jA,jB,jC,jD,reduceCtorEq,jE,jF]) _ (Ka _) ⟨?_,lef hd hle⟩;simp only[n1,go_sem,reduceIte,jA,jB,jC,jD,reduceCtorEq,jE,jF];show _=V.agg [.str r, .sl (.agg 4) (frO ts) (ts.map Tr.v)];rcases xF aAP with⟨rfl,e⟩|⟨id,rfl,e⟩<;>rw[e]<;>rfl
end Go.Proofs.YtjfdoohogiojcaaGreatDoor
namespace Go.Proofs.YtjfdoohogiojcaaGreatDoor
open Go.RowKit Go.Sort
attribute [local irreducible] IntKind.wrap
set_option maxHeartbeats 4000000
theorem Ex.aAT:∀(n:Nat) (e:Ex),SizeOf.sizeOf e≤n→∀L,e.cp.v.names L
 |0, .mk op t o ks,h,L=>by simp at h
 |n+1, .mk op t o ks,h,L=>by
  have hk:∀e∈ks,∀L,e.cp.v.names L:=fun e he=>by
   have:=Km he;simp only[Ex.mk.sizeOf_spec] at h;exact Ex.aAT n e or
  rw[Ex.aAp];refine⟨trivial,trivial,trivial,trivial,trivial,?_,trivial⟩;show(V.sl (.agg 6) (frO ks) ((Ex.cps ks).map Ex.v)).names L;refine mP _ _ _ _ ?_;rw[Ex.aBK,iQ];intro v hv;simp only[Kt,Kv,Ku] at hv;obtain⟨e,he,rfl⟩:=hv;exact hk e he L
theorem oQ:∀(n:Nat) (e:Ex),SizeOf.sizeOf e≤n→e.few→∀(h:Hp),aO Tryz.prog 35 [e.v] h e.cp.v
 |0, .mk op t o ks,h,_,_=>by simp at h
 |n+1, .mk op t o ks,hz,hs,h=>by
  have hk:∀e∈ks,SizeOf.sizeOf e≤n∧e.few:=fun e he=>by
   refine⟨?_,Ex.aBx.1 hs.2 e he⟩;have:=Km he;simp only[Ex.mk.sizeOf_spec] at hz;omega
  refine cB (fun L=>Ex.aAT _ _ (Ke _) L) fun h' nx hh=>aB L.aTQ fun hd=>?_;rw[Ex.aAp (.mk op t o ks)];simp only[jL,jM,jA,jB,jN,jO,jP,jQ,V.undef];have aRM:ks.length≤300:=hs.1;refine aue (e6 Ex.cs.eq_1 Ex.op.eq_1 Ex.t.eq_1 Ex.o.eq_1 Ex.kids.eq_1 (@jK Ex V)) ?_
  refine aT (fun i:Nat=>aD 27 0 [(2, .ptr (nx+1) (.agg 6) 0 0),(3, .ptr (nx+2) (.agg 6) 0 0),(12, .sl (.agg 6) o (ks.map Ex.v)),(13, .int .i64 ks.length),(14, .int .i64 i)])
   (fun i hp nx1=>i≤ks.length∧nx+3≤nx1∧aW hp nx1∧Kb nx h' hp∧hp (nx+1)=some (.arr (.agg 6) [.agg [.int .i64 0, .str ⟨#[]⟩, .int .i64 0, .int .i64 0, .str ⟨#[]⟩, .sl (.agg 6) .nil []]])∧∃o',hp (nx+2)=some (.arr (.agg 6) [.agg [.int .i64 op, .str t.x, .int .i64 t.w.k, .int .i64 t.w.n, .str t.w.s, .sl (.agg 6) o' ((ks.take i).map fun e=>e.cp.v)]])∧Acc hp (nx+3) o' ((ks.take i).map fun e=>e.cp.v))
   (fun i=>ks.length-i) 0 ⟨Kj _,Zw,by exact dmo hd,by exact kep Hp.same.aAt,by simp only[go_sem,reduceIte,jA,jB,jC,jD,reduceCtorEq,jE,jF], .nil,by simp only[Kp,Ks,go_sem,reduceIte,jA,jB,jC,jD,reduceCtorEq,jE,jF], .inl ⟨Zm,rfl⟩⟩ (by simp only[WkL,aD,jH,jI,jJ,go_sem,reduceIte,jA,jB,jC,jD,reduceCtorEq,jE,jF]) ?_
  rintro i hp nx1 ⟨hi,hnx,hdm,hsm,hb1,o',hb2,aAP⟩;generalize hQ:bB _ _ _ _ _=Q0;simp only[aD,go_sem,reduceIte,jA,jB,jC,jD,reduceCtorEq,jE,jF];have hle:=hsm.le hd (Ka _);rcases Kg i ks.length with hlt|hge
  ·have hc:decide ((i:Int)<(ks.length:Int))=true:=dct;have hg:=aR Ex.v ks i hlt;have hw:IntKind.i64.wrap ((i:Int)+1)=((i+1:Nat):Int):=wrp;have hcap:((ks.take i).map fun e=>e.cp.v).length≤1000000:=by simp;omega
   have aCg:(ks.take i).length≤1000000:=by simp;omega
   have n1:nx+1<nx1:=or;have n2:nx+2<nx1:=or;have aEf:∀H:Hp,H.aBW o' (nx+1)=H (nx+1):=fun H=>pY fun id e=>by have:=aAP.ge id e;omega
   have aLT:∀H:Hp,H.aBW o' (nx+2)=H (nx+2):=fun H=>pY fun id e=>by have:=aAP.ge id e;omega
   obtain⟨hk1,hk2⟩:=hk _ (Kh hlt);have D1:=fun h=>oQ n ks[i] hk1 hk2 h;have hf1:=Ex.aAA ks[i];have hf2:=Ex.aAA ks[i].cp;have aGr:∀(H:Hp) (id:Nat),(∀m,m<nx1→m≠nx+2→o'≠ .tok m→H m=hp m)→H (nx+2)=some (.arr (.agg 6) [.agg [.int .i64 op, .str t.x, .int .i64 t.w.k, .int .i64 t.w.n, .str t.w.s, .sl (.agg 6) (.tok id) (((ks.take i).map fun e=>e.cp.v)++[ks[i].cp.v])]])→H id=some .tip→nx1≤id→∀nx2 sl,nx1≤nx2→aW H nx2→WkL sl (aD 27 0 [(2, .ptr (nx+1) (.agg 6) 0 0),(3, .ptr (nx+2) (.agg 6) 0 0),(12, .sl (.agg 6) o (ks.map Ex.v)),(13, .int .i64 ks.length),(14, .int .i64 ((i+1:Nat):Int))])→Q0 .normal ⟨sl,H,nx2⟩:=fun H id q1 q2 q3 q4 nx2 sl q5 q6 q7=>by
    rw[←hQ];refine aH (i+1) or ⟨hlt,or,q6,fun m hm=>?_,?_, .tok id,?_,?_⟩ q7
    ·rw[q1 m or or (fun e=>by have:=aAP.ge m e;omega)];exact hsm m hm
    ·rw[q1 _ or or (fun e=>by have:=aAP.ge _ e;omega)];exact hb1
    ·rw[Kc hlt,Kf];exact q2
    rw[Kc hlt,Kf];exact .inr ⟨Zm,id,or,rfl,q3⟩
   have aGC:=aAP;rcases aGC with⟨e,rfl⟩|⟨e,id,hge,rfl,ht⟩
   ·refine aue (e11 hc hg hlt hw hb2 hcap aCg n2 (@jK Ex V) (e2 jG hf1) hf2) ?_;refine aGr _ (nx1+7) (fun m q1 q2 _=>?_) (by simp only[go_sem,reduceIte,jA,jB,jC,jD,reduceCtorEq,jE,jF]) (by simp only[n2,go_sem,reduceIte,jA,jB,jC,jD,reduceCtorEq,jE,jF]) or _ _ or (dmo hdm) (by simp only[WkL,aD,jH,jI,jJ,go_sem,reduceIte,jA,jB,jC,jD,reduceCtorEq,jE,jF]);simp only[Kd];repeat rw[if_neg or]
   have hid:=hdm _ _ ht;have n3:nx+2<id:=or
   (repeat' (first|(with_reducible first|refine stp ?_|refine cD ZM ?_|refine sS (fun _=>?_) (fun _=>?_))|((first|(with_reducible refine lM ?_;first|refine jS rfl ?_ ?_|refine Zx ?_)|(with_reducible refine lP ?_;first|refine jV rfl ?_ ?_|refine bN (D1 _) rfl (bD _) ?_|refine ZX ?_)|refine Zy ?_)<;>try simp only[hc,hg,hlt,hw,hb2,hcap,aCg,n2,jK,jG,hf1,hf2,ht,hid,n3,go_sem,reduceIte,jA,jB,jC,jD,reduceCtorEq,jE,jF])|refine ZY ?_|omega))
   ·exact⟨or,db or (by simp only[ht,hid,go_sem,reduceIte,jA,jB,jC,jD,reduceCtorEq,jE,jF]) (by simp only[dC])⟩
   refine aGr _ (nx1+7) (fun m q1 q2 q3=>?_) (by simp only[go_sem,reduceIte,jA,jB,jC,jD,reduceCtorEq,jE,jF]) (by simp only[n2,go_sem,reduceIte,jA,jB,jC,jD,reduceCtorEq,jE,jF];rw[if_neg or]) or _ _ or (dmo hdm) (by simp only[WkL,aD,jH,jI,jJ,go_sem,reduceIte,jA,jB,jC,jD,reduceCtorEq,jE,jF]);have q4:m≠id:=fun e=>q3 (by rw[e]);simp only[Kd,Hp.del];repeat rw[if_neg or]
  have hc:decide ((i:Int)<(ks.length:Int))=false:=dcf;have n1:nx+1<nx1:=or;refine aue (e4 hc hb1 hb2 n1) ?_;rw[←hQ];refine aue (e4 hc hb1 hb2 n1) ?_;have hil:i=ks.length:=or;rw[hil,Ko] at aAP hb2⊢;refine hP (by simp only[n1,go_sem,reduceIte,jA,jB,jC,jD,reduceCtorEq,jE,jF]) _ (Ka _) ⟨?_,lef hd hle⟩;simp only[n1,go_sem,reduceIte,jA,jB,jC,jD,reduceCtorEq,jE,jF];have e0:(Ex.mk op t o ks).cp.v=V.agg [.int .i64 op, .str t.x, .int .i64 t.w.k, .int .i64 t.w.n, .str t.w.s, .sl (.agg 6) (frO ks) (ks.map fun e=>e.cp.v)]:=by
   rw[Ex.aAp];show V.agg [_,_,_,_,_, .sl (.agg 6) (frO ks) ((Ex.cps ks).map Ex.v)]=_;rw[Ex.aBK,Kt];rfl
  rw[e0];rcases xF aAP with⟨rfl,e⟩|⟨id,rfl,e⟩<;>rw[e]<;>rfl
theorem Li.aAT(l:Li)(L:Nat→Prop):l.cp.v.names L:=by
 have h1:=Ex.aAT _ l.x (Ke _) L;have h2:=Ex.aAT _ l.y (Ke _) L;rw[Ex.aAp] at h1 h2;obtain⟨-,-,-,-,-,h1,-⟩:=h1;obtain⟨-,-,-,-,-,h2,-⟩:=h2;exact⟨trivial,trivial,mP _ _ _ _ (cN (fun x=>Tr.aAI L x) _),trivial,trivial,trivial,trivial,trivial,trivial,h1,trivial,trivial,trivial,trivial,trivial,h2,trivial,trivial⟩
theorem jr(l:Li)(h1:l.a.l.length≤300)(h2:l.x.few)(h3:l.y.few)(h:Hp):aO Tryz.prog 20 [l.v] h l.cp.v:=by
 refine aI (fun L=>Li.aAT l L) fun h' nx hh=>aB L.aTo fun hd=>?_;have hv:=Li.aAp l;rw[hv];simp only[jL,jM,jA,jB,jN,jO,jP,jQ,V.undef];have D1:∀h:Hp,aO Tryz.prog 19 [.agg [.str l.a.r, .sl (.agg 4) l.a.o (l.a.l.map Tr.v)]] h (.agg [.str l.a.r, .sl (.agg 4) (frO l.a.l) (l.a.l.map Tr.v)]):=fun h=>sJ l.a h1 h;have D2:∀h:Hp,aO Tryz.prog 35 [.agg [.int .i64 l.x.op, .str l.x.t.x, .int .i64 l.x.t.w.k, .int .i64 l.x.t.w.n, .str l.x.t.w.s, .sl (.agg 6) l.x.o (l.x.kids.map Ex.v)]] h (.agg l.x.cp.cs):=fun h=>Ex.aAp l.x▸Ex.aAp l.x.cp▸oQ _ l.x (Ke _) h2 h;have D3:∀h:Hp,aO Tryz.prog 35 [.agg [.int .i64 l.y.op, .str l.y.t.x, .int .i64 l.y.t.w.k, .int .i64 l.y.t.w.n, .str l.y.t.w.s, .sl (.agg 6) l.y.o (l.y.kids.map Ex.v)]] h (.agg l.y.cp.cs):=fun h=>Ex.aAp l.y▸Ex.aAp l.y.cp▸oQ _ l.y (Ke _) h3 h;refine aue Ex.cs.eq_1 ?_;refine hP (by simp only[go_sem,reduceIte,jA,jB,jC,jD,reduceCtorEq,jE,jF]) h' (leo hd) ⟨?_,rfl⟩;refine Zn ?_;rfl
theorem Ru.aAT(r:Ru)(L:Nat→Prop):r.cp.v.names L:=by
 refine⟨trivial,mP _ _ _ _ (cN (fun x=>Tr.aAI L x) _),trivial,trivial,mP _ _ _ _ ?_,trivial,trivial⟩;rw[iQ];intro v hv;simp only[Ru.cp,Kt,Kv,Ku] at hv;obtain⟨e,he,rfl⟩:=hv;exact Li.aAT e L
theorem jj(r:Ru)(hr:r.few)(h:Hp):aO Tryz.prog 8 [r.v] h r.cp.v:=by
 refine cB (fun L=>Ru.aAT r L) fun h' nx hh=>aB L.g5z fun hd=>?_;obtain⟨⟨hr',ho,hl⟩,g,c0,o,b,at_⟩:=r;obtain⟨f1,f2,f3⟩:=hr;dsimp only at f1 f2 f3;rw[Ru.v.eq_1 ⟨⟨hr',ho,hl⟩,g,c0,o,b,at_⟩];simp only[jL,jM,jA,jB,jN,jO,jP,jQ,V.undef];have D1:∀h:Hp,aO Tryz.prog 19 [.agg [.str hr', .sl (.agg 4) ho (hl.map Tr.v)]] h (.agg [.str hr', .sl (.agg 4) (frO hl) (hl.map Tr.v)]):=fun h=>sJ ⟨hr',ho,hl⟩ f1 h;refine aue (e2 trs.eq_1 (@jK Li V)) ?_;clear D1
 refine aT (fun i:Nat=>aD 32 0 [(2, .ptr (nx+1) (.agg 6) 0 0),(3, .ptr (nx+12) (.agg 6) 0 0),(17, .sl (.agg 17) o (b.map Li.v)),(18, .int .i64 b.length),(19, .int .i64 i)])
  (fun i hp nx1=>i≤b.length∧nx+14≤nx1∧aW hp nx1∧Kb nx h' hp∧hp (nx+1)=some (.arr (.agg 6) [.agg [.str ⟨#[]⟩, .sl (.agg 4) .nil [], .int .i64 0, .int .i64 0, .sl (.agg 17) .nil [], .int .i64 0]])∧∃o',hp (nx+12)=some (.arr (.agg 6) [.agg [.str hr', .sl (.agg 4) (frO hl) (hl.map Tr.v), .int .i64 g, .int .i64 c0, .sl (.agg 17) o' ((b.take i).map fun e=>e.cp.v), .int .i64 at_]])∧Acc hp (nx+13) o' ((b.take i).map fun e=>e.cp.v))
  (fun i=>b.length-i) 0 ⟨Kj _,Zw,by exact dmo hd,by exact kep Hp.same.aAt,by simp only[go_sem,reduceIte,jA,jB,jC,jD,reduceCtorEq,jE,jF], .nil,by simp only[Kp,Ks,go_sem,reduceIte,jA,jB,jC,jD,reduceCtorEq,jE,jF], .inl ⟨Zm,rfl⟩⟩ (by simp only[WkL,aD,jH,jI,jJ,go_sem,reduceIte,jA,jB,jC,jD,reduceCtorEq,jE,jF]) ?_
 rintro i hp nx1 ⟨hi,hnx,hdm,hsm,hb1,o',hb2,aAP⟩;generalize hQ:bB _ _ _ _ _=Q0;simp only[aD,go_sem,reduceIte,jA,jB,jC,jD,reduceCtorEq,jE,jF];have hle:=hsm.le hd (Ka _);rcases Kg i b.length with hlt|hge
 ·have hc:decide ((i:Int)<(b.length:Int))=true:=dct;have hg:=aR Li.v b i hlt;have hw:IntKind.i64.wrap ((i:Int)+1)=((i+1:Nat):Int):=wrp;have hcap:((b.take i).map fun e=>e.cp.v).length≤1000000:=by simp;omega
  have aCg:(b.take i).length≤1000000:=by simp;omega
  have n1:nx+1<nx1:=or;have n2:nx+12<nx1:=or;obtain⟨q1,q2,q3⟩:=f3 _ (Kh hlt);have D1:=fun h=>jr b[i] q1 q2 q3 h;have hf1:=Li.aAA b[i];have hf2:=Li.aAA b[i].cp;have aGr:∀(H:Hp) (id:Nat),(∀m,m<nx1→m≠nx+12→o'≠ .tok m→H m=hp m)→H (nx+12)=some (.arr (.agg 6) [.agg [.str hr', .sl (.agg 4) (frO hl) (hl.map Tr.v), .int .i64 g, .int .i64 c0, .sl (.agg 17) (.tok id) (((b.take i).map fun e=>e.cp.v)++[b[i].cp.v]), .int .i64 at_]])→H id=some .tip→nx1≤id→∀nx2 sl,nx1≤nx2→aW H nx2→WkL sl (aD 32 0 [(2, .ptr (nx+1) (.agg 6) 0 0),(3, .ptr (nx+12) (.agg 6) 0 0),(17, .sl (.agg 17) o (b.map Li.v)),(18, .int .i64 b.length),(19, .int .i64 ((i+1:Nat):Int))])→Q0 .normal ⟨sl,H,nx2⟩:=fun H id q1 q2 q3 q4 nx2 sl q5 q6 q7=>by
   rw[←hQ];refine aH (i+1) or ⟨hlt,or,q6,fun m hm=>?_,?_, .tok id,?_,?_⟩ q7
   ·rw[q1 m or or (fun e=>by have:=aAP.ge m e;omega)];exact hsm m hm
   ·rw[q1 _ or or (fun e=>by have:=aAP.ge _ e;omega)];exact hb1
   ·rw[Kc hlt,Kf];exact q2
   rw[Kc hlt,Kf];exact .inr ⟨Zm,id,or,rfl,q3⟩
  generalize b[i]=B at hg D1 hf1 hf2 aGr;have aGC:=aAP;rcases aGC with⟨e,rfl⟩|⟨e,id,hge,rfl,ht⟩
  ·refine aue (e11 hc hg hlt hw hb2 hcap aCg n2 (@jK Li V) (e2 jG hf1) hf2) ?_;refine aGr _ (nx1+7) (fun m q1 q2 _=>?_) (by simp only[go_sem,reduceIte,jA,jB,jC,jD,reduceCtorEq,jE,jF]) (by simp only[n2,go_sem,reduceIte,jA,jB,jC,jD,reduceCtorEq,jE,jF]) or _ _ or (dmo hdm) (by simp only[WkL,aD,jH,jI,jJ,go_sem,reduceIte,jA,jB,jC,jD,reduceCtorEq,jE,jF]);simp only[Kd];repeat rw[if_neg or]
  have hid:=hdm _ _ ht;have n3:nx+12<id∨id<nx+14:=or;have n4:nx+12≠id:=fun e=>by rw[e,ht] at hb2;cases hb2
  have n5:(nx+12=id)=False:=eq_false n4;have n6:(id=nx+12)=False:=eq_false (fun e=>n4 e.symm)
  (repeat' (first|(with_reducible first|refine stp ?_|refine cD ZM ?_|refine sS (fun _=>?_) (fun _=>?_))|((first|(with_reducible refine lM ?_;first|refine jS rfl ?_ ?_|refine Zx ?_)|(with_reducible refine lP ?_;first|refine jV rfl ?_ ?_|refine bN (D1 _) rfl (bD _) ?_|refine ZX ?_)|refine Zy ?_)<;>try simp only[hc,hg,hlt,hw,hb2,hcap,aCg,n2,jK,jG,hf1,hf2,ht,hid,n5,n6,go_sem,reduceIte,jA,jB,jC,jD,reduceCtorEq,jE,jF])|refine ZY ?_|omega))
  ·exact⟨or,db or (by simp only[ht,hid,go_sem,reduceIte,jA,jB,jC,jD,reduceCtorEq,jE,jF]) (by simp only[dC])⟩
  refine aGr _ (nx1+7) (fun m q1 q2 q3=>?_) (by simp only[go_sem,reduceIte,jA,jB,jC,jD,reduceCtorEq,jE,jF]) (by simp only[n2,go_sem,reduceIte,jA,jB,jC,jD,reduceCtorEq,jE,jF];rw[if_neg or]) or _ _ or (dmo hdm) (by simp only[WkL,aD,jH,jI,jJ,go_sem,reduceIte,jA,jB,jC,jD,reduceCtorEq,jE,jF]);have q4:m≠id:=fun e=>q3 (by rw[e]);simp only[Kd,Hp.del];repeat rw[if_neg or]
 have hc:decide ((i:Int)<(b.length:Int))=false:=dcf;have n1:nx+1<nx1:=or;refine aue (e4 hc hb1 hb2 n1) ?_;rw[←hQ];refine aue (e4 hc hb1 hb2 n1) ?_;have hil:i=b.length:=or;rw[hil,Ko] at aAP hb2⊢;refine hP (by simp only[n1,go_sem,reduceIte,jA,jB,jC,jD,reduceCtorEq,jE,jF]) _ (Ka _) ⟨?_,lef hd hle⟩;simp only[n1,go_sem,reduceIte,jA,jB,jC,jD,reduceCtorEq,jE,jF];have e0:(Ru.cp ⟨⟨hr',ho,hl⟩,g,c0,o,b,at_⟩).v=V.agg [.str hr', .sl (.agg 4) (frO hl) (hl.map Tr.v), .int .i64 g, .int .i64 c0, .sl (.agg 17) (frO b) (b.map fun e=>e.cp.v), .int .i64 at_]:=by
  show V.agg [_,_,_,_, .sl (.agg 17) (frO b) ((b.map Li.cp).map Li.v),_]=_;rw[Kt];rfl
 rw[e0];cases hl with
 |nil=>rcases xF aAP with⟨rfl,e⟩|⟨id,rfl,e⟩<;>rw[e]<;>rfl
 |cons t r=>rcases xF aAP with⟨rfl,e⟩|⟨id,rfl,e⟩<;>rw[e]<;>rfl
end Go.Proofs.YtjfdoohogiojcaaGreatDoor
namespace Go.Proofs.YtjfdoohogiojcaaGreatDoor
open Go.RowKit Go.Sort
attribute [local irreducible] IntKind.wrap
set_option maxHeartbeats 4000000
def lkB(x:ByteArray):List Tr→Option Vl
 | []=>none
 |t::r=>if t.x=x then some t.w else lkB x r
theorem fi(x:ByteArray)(t:Tr):∀l:List Tr,lkB x (l++[t])=(match lkB x l with
 |some w=>some w
 |none=>if t.x=x then some t.w else none)
 | []=>by simp[lkB]
 |a::l=>by
  simp only[jP,lkB];split
  ·rfl
  exact fi x t l
def pE(es:List ME)(l:List Tr):Prop:=∀x:ByteArray,match lkB x l with
 |none=>dX (.plain .leaf [.str]) (.str x) es=some none
 |some w=>∃j,dX (.plain .leaf [.str]) (.str x) es=some (some j)∧(es.getD j default).v=w.v∧j<es.length
theorem uy:pE [] []:=fun x=>rfl
theorem tQ(e:qm)(k:V)(m:ME):∀es:List ME,dX e k (es++[m])=(match dX e k es with
 |some (some j)=>some (some j)
 |some none=>(match veq e k m.k with|some true=>some (some es.length)|some false=>some none|none=>none)
 |none=>none)
 | []=>by
  simp only[jQ,dX,jM];cases veq e k m.k with
  |none=>rfl
  |some b=>cases b<;>rfl
 |a::es=>by
  simp only[jP,dX,jL];cases veq e k a.k with
  |none=>rfl
  |some b=>
   cases b with
   |true=>rfl
   |false=>
    simp only;rw[tQ e k m es];cases dX e k es with
    |none=>rfl
    |some o=>
     cases o with
     |some j=>rfl
     |none=>
      simp only[Option.map_some,Option.map_none];cases veq e k m.k with
      |none=>rfl
      |some b=>cases b<;>rfl
theorem zx(x y:ByteArray):veq (.plain .leaf [.str]) (.str x) (.str y)=some (decide (x=y)):=by
 have e:veq (.plain .leaf [.str]) (.str x) (.str y)=some (x.toList==y.toList):=rfl;rw[e,eA]
theorem ux{es:List ME}{l:List Tr}(h:pE es l){t:Tr}{w:Vl}(hk:lkB t.x l=some w):pE es (l++[t]):=fun x=>by
 have hx:=h x;rw[fi];cases hl:lkB x l with
 |some w2=>rw[hl] at hx;exact hx
 |none=>
  rw[hl] at hx;simp only;rw[if_neg (fun e=>by rw[←e,hk] at hl;cases hl)];exact hx
theorem uz{es:List ME}{l:List Tr}(h:pE es l){t:Tr}{b:Nat}(hk:lkB t.x l=none):pE (es++[⟨.str t.x,t.w.v,b⟩]) (l++[t]):=fun x=>by
 have hx:=h x;rw[fi];cases hl:lkB x l with
 |some w2=>
  rw[hl] at hx;obtain⟨j,h1,h2,h3⟩:=hx;refine⟨j,?_,?_,?_⟩
  ·rw[tQ,h1]
  ·rw[←h2];simp only[Kq];rw[List.getElem?_append_left h3]
  simp;omega
 |none=>
  rw[hl] at hx;simp only at hx⊢;have hm:=tQ (.plain .leaf [.str]) (.str x) ⟨.str t.x,t.w.v,b⟩ es;rw[hx] at hm;simp only[zx] at hm;by_cases e:t.x=x
  ·rw[if_pos e];refine⟨es.length,?_,?_,Zm⟩
   ·rw[hm,decide_eq_true e.symm]
   simp[Kq]
  rw[if_neg e];show dX _ _ _=_;rw[hm,decide_eq_false (fun q=>e q.symm)]
section
variable{P:Program}{Q:St→Prop}{s:St}{dst:Option Nat}{r:List aA}{x:aK}
theorem x9(h:aZ P r Q ⟨bJ s.sl dst (.map s.nx),s.h.set s.nx (.mp [] 0),s.nx+1⟩):aZ P (⟨dst,none, .mp .mk⟩::r) Q s:=h
theorem tw{kS:Sh}{ks:List LK}{n c:Nat}{es:List ME}{k v:aK}(hk:(k.ev s.sl).fits kS=true)(hx:x.ev s.sl= .map n)(hn:s.h n=some (.mp es c))(hf:dX (.plain kS ks) (k.ev s.sl) es=some none)
 (h2:aZ P r Q ⟨bJ s.sl dst V.undef,s.h.set n (.mp (es++[⟨k.ev s.sl,v.ev s.sl,c⟩]) (c+1)),s.nx+1⟩):aZ P (⟨dst,none, .mp (.put kS ks x k v)⟩::r) Q s:=by
 unfold aZ;simp only[LOp.run,LOp.sem,MOp.sem,hx,hn,hf];exact⟨hk,h2⟩
end
theorem o8(o:Own)(l:List Tr)(hl:l.length≤1000)(h:Hp)(nx:Nat)(hd:aW h nx):aX Tryz.prog 7 [trs o l] h nx fun v h' nx'=>∃n es c,v= .map n∧nx≤n∧h' n=some (.mp es c)∧pE es l∧Kb nx h h'∧aW h' nx':=by
 refine aB L.g4z fun _=>?_;simp only[jL,jM,jA,jB,jN,jO,jP,jQ,V.undef];refine aue (e2 trs.eq_1 (@jK Tr V)) ?_;refine x9 ?_;refine aue (e2 trs.eq_1 (@jK Tr V)) ?_
 refine aT (fun i:Nat=>aD 31 0 [(2, .aAM),(3, .map nx),(9, .sl (.agg 4) o (l.map Tr.v)),(10, .int .i64 l.length),(11, .int .i64 i)])
  (fun i hp nx1=>i≤l.length∧nx+1≤nx1∧aW hp nx1∧Kb nx h hp∧∃es c,hp nx=some (.mp es c)∧pE es (l.take i))
  (fun i=>l.length-i) 0 ⟨Kj _,Zw,by exact dmo hd,by exact kep Hp.same.aAt,[],0,by simp only[go_sem,reduceIte,jA,jB,jC,jD,reduceCtorEq,jE,jF],by rw[Kp];exact uy⟩ (by simp only[WkL,aD,jH,jI,jJ,go_sem,reduceIte,jA,jB,jC,jD,reduceCtorEq,jE,jF]) ?_
 rintro i hp nx1 ⟨hi,hnx,hdm,hsm,es,c,hmp,aEe⟩;generalize hQ:bB _ _ _ _ _=Q0;simp only[aD,go_sem,reduceIte,jA,jB,jC,jD,reduceCtorEq,jE,jF];rcases Kg i l.length with hlt|hge
 ·have hc:decide ((i:Int)<(l.length:Int))=true:=dct;have hg:=aR Tr.v l i hlt;have hw:IntKind.i64.wrap ((i:Int)+1)=((i+1:Nat):Int):=wrp;have n1:nx<nx1:=or;have htk:l.take (i+1)=l.take i++[l[i]]:=Kc hlt;have hx:=aEe l[i].x;cases hk:lkB l[i].x (l.take i) with
  |none=>
   rw[hk] at hx;have hg0:vL true (.agg [.int .i64 0, .int .i64 0, .str ⟨#[]⟩]) es none= .tup [.agg [.int .i64 0, .int .i64 0, .str ⟨#[]⟩], .bool false]:=rfl;refine aue (e11 hc hg hlt hmp n1 hx hg0 Tr.v.eq_1 (@jK Tr V) jG hw) ?_;refine tw (es:=es) (c:=c) (n:=nx) rfl rfl (by simp only[hmp,n1,go_sem,reduceIte,jA,jB,jC,jD,reduceCtorEq,jE,jF]) hx ?_;refine Zn ?_;refine aue (e2 hw hc) ?_;rw[←hQ];exact aH (i+1) or ⟨hlt,or,dmo hdm,kep hsm,es++[⟨.str l[i].x,l[i].w.v,c⟩],c+1,by simp only[go_sem,reduceIte,jA,jB,jC,jD,reduceCtorEq,jE,jF];rfl,by rw[htk];exact uz aEe hk⟩ (by simp only[WkL,aD,jH,jI,jJ,go_sem,reduceIte,jA,jB,jC,jD,reduceCtorEq,jE,jF])
  |some w=>
   rw[hk] at hx;obtain⟨j,hj1,hj2,hj3⟩:=hx;have hg0:vL true (.agg [.int .i64 0, .int .i64 0, .str ⟨#[]⟩]) es (some j)= .tup [w.v, .bool true]:=by rw[←hj2];rfl
   have hwf:=Vl.aAA w;refine aue (e12 hc hg hlt hmp n1 hj1 hg0 Tr.v.eq_1 (@jK Tr V) jG hw hwf) ?_;rw[←hQ];exact aH (i+1) or ⟨hlt,or,dmo hdm,kep hsm,es,c,by simp only[hmp,n1,go_sem,reduceIte,jA,jB,jC,jD,reduceCtorEq,jE,jF],by rw[htk];exact ux aEe hk⟩ (by simp only[WkL,aD,jH,jI,jJ,go_sem,reduceIte,jA,jB,jC,jD,reduceCtorEq,jE,jF])
 have hc:decide ((i:Int)<(l.length:Int))=false:=dcf;refine aue hc ?_;rw[←hQ];refine au ?_;have hil:i=l.length:=or;rw[hil,Ko] at aEe;exact aC hp (Ka _) ⟨nx,es,c,by simp only[go_sem,reduceIte,jA,jB,jC,jD,reduceCtorEq,jE,jF],Ke _,hmp,aEe,hsm,hdm⟩
end Go.Proofs.YtjfdoohogiojcaaGreatDoor
