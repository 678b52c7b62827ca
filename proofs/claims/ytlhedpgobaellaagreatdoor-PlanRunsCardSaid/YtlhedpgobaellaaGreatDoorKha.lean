/-
Texts of this proof,one behind the other. No conditions.
-/
import Derived.Test.YtlhedpgobaellaaGreatDoorKh
open List renaming drop_eq_getElem_cons→Ka,drop_eq_nil_of_le→Kb,getElem_mem→Kc
open Nat renaming le_refl→Kd,lt_or_ge→Ke,zero_le→Kf
open Nat renaming reduceAdd→jA,reduceSub→jB,reduceLT→jC,reduceLeDiff→jD,reduceEqDiff→jE
open Int renaming reduceToNat→jF,toNat_natCast→jG,natCast_add→jH,natCast_one→jI,natCast_zero→jJ
open List renaming length_map→jK,length_cons→jL,length_nil→jM,cons_append→jP,nil_append→jQ
set_option linter.all false
set_option maxHeartbeats 8000000
namespace Go.Proofs.YtlhedpgobaellaaGreatDoor
open Go.RowKit Go.Sort
attribute [local irreducible] IntKind.wrap
theorem dv(n:Nat)(h:n≤300000000000000):IntKind.i64.wrap ((n:Int).tdiv 50)=((n / 50:Nat):Int):=by
 have e:((n / 50:Nat):Int)=(n:Int).tdiv 50:=Int.ofNat_tdiv n 50;rw[←e];exact fY or or
theorem sv(t:Tr)(r:List Tr)(l:Int):lR (t::r) l=if l-eZ t<0 then-1 else lR r (l-eZ t):=rfl
theorem An(k:Ex)(r:List Ex)(l:Int):lN (k::r) l=if l<0 then-1 else lN r (nS k l):=by rw[lN]
theorem Dn(l:Int):lN [] l=l:=by rw[lN]
theorem z8(b:Li)(r:List Li)(l:Int):fq (b::r) l=if l<0 then-1 else fq r (CD b l):=rfl
theorem gh(a:Am)(ha:a.s47)(l:Int)(hl:-100000000000000≤l∧l≤300)(h:Hp):aM Tryz.prog 88 [a.v, .int .i64 l] h (.int .i64 (gZ a l)):=by
 refine aJ (fun L=>trivial) fun h' nx hh=>aB L.bAs fun hd=>?_;obtain⟨r,o,ts⟩:=a;refine ZK ?_;have hn:=uo ha;have hr:r.size≤pM:=ha.1;unfold pM at hr;dsimp only at hn;have d1:=dv r.size or;have hat:gZ ⟨r,o,ts⟩ l=lR ts (l-(1+((r.size / 50:Nat):Int))):=rfl;rw[hat];generalize ((r.size / 50:Nat):Int)=D at hn d1;have d2:IntKind.i64.wrap (1+D)=1+D:=wrp;have d3:IntKind.i64.wrap (l-(1+D))=l-(1+D):=wrp;refine aue (e6 Am.v.eq_1 d1 d2 d3 trs.eq_1 (@jK Tr V)) ?_
 refine aP (fun q:Nat×Int=>aD 37 0 [(1, .int .i64 q.2),(15,trs o ts),(16, .int .i64 ts.length),(17, .int .i64 q.1)])
  (fun q hp nx1=>q.1≤ts.length∧nx≤nx1∧aS hp nx1∧Hp.same nx h' hp∧lR ts (l-(1+D))=lR (ts.drop q.1) q.2∧-200000000000000≤q.2∧q.2≤300-q.1∧q.1≤301)
  (fun q=>ts.length-q.1) (0,l-(1+D)) ⟨Kf _,Zw,by exact dmo hd,by exact kep Hp.same.aAr,rfl,Zw,Zw,Zw⟩ (by simp only[WkL,aD,jH,jI,jJ,trs,go_sem,reduceIte,jA,jB,jC,jD,reduceCtorEq,jE,jF]) ?_
 rintro⟨i,c⟩ hp nx1 ⟨hi,hnx,hdm,hsm,hTe,hb1,hb2,hb3⟩;generalize hQ:aZ _ _ _ _ _=Q0;dsimp only at hi hTe hb1 hb2 hb3;refine Zk ?_;have hle:=hsm.le hd (Hp.le_refl _);rcases Ke i ts.length with hlt|hge
 ·have hc:decide ((i:Int)<(ts.length:Int))=true:=dct;have hg:=aL Tr.v ts i hlt;have hdr:ts.drop i=ts[i]::ts.drop (i+1):=Ka hlt;have aXg:ts[i].s47:=ha.2 _ (Kc _);have hcb:=xF aXg;rw[hdr,sv] at hTe;have hct:eZ ts[i]=1+((ts[i].x.size+ts[i].w.s.size)/ 50:Nat):=rfl;obtain⟨q1,q2⟩:=aXg;unfold pM at q1 q2;obtain⟨N,hN⟩:∃N,ts[i].x.size+ts[i].w.s.size=N:=⟨_,rfl⟩;rw[hN] at hct;have w1:IntKind.i64.wrap ((ts[i].x.size:Int)+(ts[i].w.s.size:Int))=(N:Int):=wrp;have w2:=dv N or;obtain⟨D2,hD2⟩:∃D2,N / 50=D2:=⟨_,rfl⟩;rw[hD2] at w2 hct;have w3:IntKind.i64.wrap (1+(D2:Int))=eZ ts[i]:=wrp;have w4:IntKind.i64.wrap (c-eZ ts[i])=c-eZ ts[i]:=wrp;by_cases aBs:c-eZ ts[i]<0
  ·have g1:decide (c-eZ ts[i]<0)=true:=dct;rw[if_pos aBs] at hTe;refine aue (e12 hc hg hlt w1 w2 w3 w4 g1 Tr.v.eq_1 trs.eq_1 (@jK Tr V) jG) ?_;rw[←hQ];refine au ?_;refine aC h' (lef hd hle) ⟨?_,rfl⟩;rw[hTe];rfl
  have g1:decide (c-eZ ts[i]<0)=false:=dcf;have hw:IntKind.i64.wrap ((i:Int)+1)=((i+1:Nat):Int):=wrp;rw[if_neg aBs] at hTe;refine aue (e13 hc hg hlt w1 w2 w3 w4 g1 Tr.v.eq_1 trs.eq_1 (@jK Tr V) jG hw) ?_;rw[←hQ];exact aF (i+1,c-eZ ts[i]) Zw ⟨hlt,or,dmo hdm,kep hsm,hTe,Zw,Zw,Zw⟩ (by simp only[WkL,aD,jH,jI,jJ,trs,go_sem,reduceIte,jA,jB,jC,jD,reduceCtorEq,jE,jF])
 have hc:decide ((i:Int)<(ts.length:Int))=false:=dcf;refine aue hc ?_;rw[←hQ];refine au ?_;refine aC h' hle ⟨?_,rfl⟩;rw[hTe,Kb hge];rfl
theorem yQ:∀(n:Nat) (e:Ex),SizeOf.sizeOf e≤n→e.s47→∀(l:Int),(-100000000000000≤l∧l≤300)→∀(h:Hp),aM Tryz.prog 89 [e.v, .int .i64 l] h (.int .i64 (nS e l))
 |0, .mk op t o ks,h,_,_,_,_=>by simp at h
 |n+1, .mk op t o ks,hz,hs,l,hl,h=>by
  have hcb:=xF hs.1;have hk:∀e∈ks,SizeOf.sizeOf e≤n∧e.s47:=fun e he=>by
   refine⟨?_,Ex.aA3.1 hs.2 e he⟩;have:=List.sizeOf_lt_of_mem he;simp only[Ex.mk.sizeOf_spec] at hz;omega
  refine aJ (fun L=>trivial) fun h' nx hh=>aB L.bAr fun hd=>?_;rw[Ex.aAq];refine ZK ?_;have hat:nS (.mk op t o ks) l=lN ks (l-eZ t):=by rw[nS]
  rw[hat];have hct:eZ t=1+((t.x.size+t.w.s.size)/ 50:Nat):=rfl;obtain⟨q1,q2⟩:=hs.1;unfold pM at q1 q2;obtain⟨N,hN⟩:∃N,t.x.size+t.w.s.size=N:=⟨_,rfl⟩;rw[hN] at hct;have w1:IntKind.i64.wrap ((t.x.size:Int)+(t.w.s.size:Int))=(N:Int):=wrp;have w2:=dv N or;obtain⟨D2,hD2⟩:∃D2,N / 50=D2:=⟨_,rfl⟩;rw[hD2] at w2 hct;have w3:IntKind.i64.wrap (1+(D2:Int))=eZ t:=wrp;have w4:IntKind.i64.wrap (l-eZ t)=l-eZ t:=wrp;refine aue (e10 Ex.cs.eq_1 Ex.op.eq_1 Ex.t.eq_1 Ex.o.eq_1 Ex.kids.eq_1 w1 w2 w3 w4 (@jK Ex V)) ?_
  refine aP (fun q:Nat×Int=>aD 35 0 [(1, .int .i64 q.2),(22, .sl (.agg 6) o (ks.map Ex.v)),(23, .int .i64 ks.length),(24, .int .i64 q.1)])
   (fun q hp nx1=>q.1≤ks.length∧nx≤nx1∧aS hp nx1∧Hp.same nx h' hp∧lN ks (l-eZ t)=lN (ks.drop q.1) q.2∧q.2≤300∧(0≤q.2→q.2≤300-q.1)∧q.1≤301)
   (fun q=>ks.length-q.1) (0,l-eZ t) ⟨Kf _,Zw,by exact dmo hd,by exact kep Hp.same.aAr,rfl,Zw,Zw,Zw⟩ (by simp only[WkL,aD,jH,jI,jJ,go_sem,reduceIte,jA,jB,jC,jD,reduceCtorEq,jE,jF]) ?_
  rintro⟨i,c⟩ hp nx1 ⟨hi,hnx,hdm,hsm,hTe,hb2,hb4,hb3⟩;generalize hQ:aZ _ _ _ _ _=Q0;dsimp only at hi hTe hb2 hb3 hb4;refine Zk ?_;have hle:=hsm.le hd (Hp.le_refl _);rcases Ke i ks.length with hlt|hge
  ·have hc:decide ((i:Int)<(ks.length:Int))=true:=dct;have hg:=aL Ex.v ks i hlt;have hdr:ks.drop i=ks[i]::ks.drop (i+1):=Ka hlt;have hfl:=Ex.aAC ks[i];rw[hdr,An] at hTe;by_cases aBs:c<0
   ·have g1:decide (c<0)=true:=dct;rw[if_pos aBs] at hTe;refine aue (e6 hc hg hlt g1 (@jK Ex V) (e2 hfl jG)) ?_;rw[←hQ];refine au ?_;refine aC h' (lef hd hle) ⟨?_,rfl⟩;rw[hTe];rfl
   have g1:decide (c<0)=false:=dcf;have hi3:=hb4 or;have hw:IntKind.i64.wrap ((i:Int)+1)=((i+1:Nat):Int):=wrp;rw[if_neg aBs] at hTe;obtain⟨hk1,hk2⟩:=hk _ (Kc hlt);have C1:=fun h=>yQ n ks[i] hk1 hk2 c ⟨or,hb2⟩ h;have hbd:=qr n ks[i] hk1 hk2 c;refine aue (e7 hc hg hlt g1 (@jK Ex V) (e2 hfl jG) hw) ?_;rw[←hQ];exact aF (i+1,nS ks[i] c) Zw ⟨hlt,or,dmo hdm,kep hsm,hTe,Zw,Zw,Zw⟩ (by simp only[WkL,aD,jH,jI,jJ,go_sem,reduceIte,jA,jB,jC,jD,reduceCtorEq,jE,jF])
  have hc:decide ((i:Int)<(ks.length:Int))=false:=dcf;refine aue hc ?_;rw[←hQ];refine au ?_;refine aC h' hle ⟨?_,rfl⟩;rw[hTe,Kb hge];rw[Dn];rfl
theorem zq(r:Ru)(hr:r.s47)(h:Hp):aM Tryz.prog 41 [r.v, .int .i64 300] h (.int .i64 (A1 r)):=by
 refine aJ (fun L=>trivial) fun h' nx hh=>aB L.bBV fun hd=>?_;obtain⟨⟨hr',ho,hl⟩,g,c0,o,b,at_⟩:=r;refine ZK ?_;have C1:∀h:Hp,aM Tryz.prog 88 [.agg [.str hr', .sl (.agg 4) ho (hl.map Tr.v)], .int .i64 300] h (.int .i64 (gZ ⟨hr',ho,hl⟩ 300)):=fun h=>gh ⟨hr',ho,hl⟩ hr.1 300 or h;have hab:=BD hr.1 300;have hat:A1 ⟨⟨hr',ho,hl⟩,g,c0,o,b,at_⟩=fq b (gZ ⟨hr',ho,hl⟩ 300):=rfl;rw[hat];dsimp only at hab;generalize gZ ⟨hr',ho,hl⟩ 300=A at C1 hab;refine aue (e2 Ru.v.eq_1 (@jK Li V)) ?_;clear C1
 refine aP (fun q:Nat×Int=>aD 32 0 [(1, .int .i64 q.2),(12, .sl (.agg 17) o (b.map Li.v)),(13, .int .i64 b.length),(14, .int .i64 q.1)])
  (fun q hp nx1=>q.1≤b.length∧nx≤nx1∧aS hp nx1∧Hp.same nx h' hp∧fq b A=fq (b.drop q.1) q.2∧q.2≤300∧(0≤q.2→q.2≤300-q.1)∧q.1≤301)
  (fun q=>b.length-q.1) (0,A) ⟨Kf _,Zw,by exact dmo hd,by exact kep Hp.same.aAr,rfl,Zw,Zw,Zw⟩ (by simp only[WkL,aD,jH,jI,jJ,go_sem,reduceIte,jA,jB,jC,jD,reduceCtorEq,jE,jF]) ?_
 rintro⟨i,c⟩ hp nx1 ⟨hi,hnx,hdm,hsm,hTe,hb2,hb4,hb3⟩;generalize hQ:aZ _ _ _ _ _=Q0;dsimp only at hi hTe hb2 hb3 hb4;refine Zk ?_;have hle:=hsm.le hd (Hp.le_refl _);rcases Ke i b.length with hlt|hge
 ·have hc:decide ((i:Int)<(b.length:Int))=true:=dct;have hg:=aL Li.v b i hlt;have hdr:b.drop i=b[i]::b.drop (i+1):=Ka hlt;have hs:=hr.2 _ (Kc hlt);rw[hdr,z8] at hTe;by_cases aBs:c<0
  ·have g1:decide (c<0)=true:=dct;rw[if_pos aBs] at hTe;have hfl:=Li.aAC b[i];refine aue (e6 hc hg hlt g1 (@jK Li V) (e2 hfl jG)) ?_;rw[←hQ];refine au ?_;refine aC h' (lef hd hle) ⟨?_,rfl⟩;rw[hTe];rfl
  have g1:decide (c<0)=false:=dcf;have hi3:=hb4 or;have hw:IntKind.i64.wrap ((i:Int)+1)=((i+1:Nat):Int):=wrp;rw[if_neg aBs] at hTe;obtain⟨x1,y1⟩:=BD hs.1 c;obtain⟨x2,y2⟩:=qr _ b[i].x (Kd _) hs.2.1 (gZ b[i].a c);obtain⟨x3,y3⟩:=qr _ b[i].y (Kd _) hs.2.2 (nS b[i].x (gZ b[i].a c));have hA:-50000000000000≤gZ b[i].a c∧gZ b[i].a c≤300:=by split at x1<;>omega
  have hX:-100000000000000≤nS b[i].x (gZ b[i].a c)∧nS b[i].x (gZ b[i].a c)≤300:=by split at x2<;>omega
  have hv:=Li.aAq b[i];generalize b[i]=B at hs hv hg hTe x1 x2 x3 y1 y2 y3 hA hX;have D1:∀h:Hp,aM Tryz.prog 88 [.agg [.str B.a.r, .sl (.agg 4) B.a.o (B.a.l.map Tr.v)], .int .i64 c] h (.int .i64 (gZ B.a c)):=fun h=>gh B.a hs.1 c or h;have D2:∀h:Hp,aM Tryz.prog 89 [.agg [.int .i64 B.x.op, .str B.x.t.x, .int .i64 B.x.t.w.k, .int .i64 B.x.t.w.n, .str B.x.t.w.s, .sl (.agg 6) B.x.o (B.x.kids.map Ex.v)], .int .i64 (gZ B.a c)] h (.int .i64 (nS B.x (gZ B.a c))):=fun h=>Ex.aAq B.x▸yQ _ B.x (Kd _) hs.2.1 _ or h;have D3:∀h:Hp,aM Tryz.prog 89 [.agg [.int .i64 B.y.op, .str B.y.t.x, .int .i64 B.y.t.w.k, .int .i64 B.y.t.w.n, .str B.y.t.w.s, .sl (.agg 6) B.y.o (B.y.kids.map Ex.v)], .int .i64 (nS B.x (gZ B.a c))] h (.int .i64 (nS B.y (nS B.x (gZ B.a c)))):=fun h=>Ex.aAq B.y▸yQ _ B.y (Kd _) hs.2.2 _ or h;refine aue (e8 hc hg hlt g1 (@jK Li V) hv jG hw) ?_;rw[←hQ];exact aF (i+1,CD B c) Zw ⟨hlt,or,dmo hdm,kep hsm,hTe,by dsimp only;unfold CD;omega,by dsimp only;unfold CD;omega,Zw⟩ (by simp only[WkL,aD,jH,jI,jJ,CD,go_sem,reduceIte,jA,jB,jC,jD,reduceCtorEq,jE,jF])
 have hc:decide ((i:Int)<(b.length:Int))=false:=dcf;refine aue hc ?_;rw[←hQ];refine au ?_;refine aC h' hle ⟨?_,rfl⟩;rw[hTe,Kb hge];rfl
mutual
def Ex.cp:Ex→Ex
 | .mk op t _ ks=> .mk op t (frO ks) (Ex.cps ks)
def Ex.cps:List Ex→List Ex
 | []=>[]
 |e::r=>e.cp::Ex.cps r
end
end Go.Proofs.YtlhedpgobaellaaGreatDoor
namespace Go.Proofs.YtlhedpgobaellaaGreatDoor
open Go.RowKit Go.Sort
attribute [local irreducible] IntKind.wrap
end Go.Proofs.YtlhedpgobaellaaGreatDoor
namespace Go.Proofs.YtlhedpgobaellaaGreatDoor
open Go.RowKit Go.Sort
attribute [local irreducible] IntKind.wrap
def lkB(x:ByteArray):List Tr→Option Vl
 | []=>none
 |t::r=>if t.x=x then some t.w else lkB x r
theorem qE(x:ByteArray)(t:Tr):∀l:List Tr,lkB x (l++[t])=(match lkB x l with
 |some w=>some w
 |none=>if t.x=x then some t.w else none)
 | []=>by simp[lkB]
 |a::l=>by
  simp only[jP,lkB];split
  ·rfl
  exact qE x t l
def af(es:List ME)(l:List Tr):Prop:=∀x:ByteArray,match lkB x l with
 |none=>bT (.plain .leaf [.str]) (.str x) es=some none
 |some w=>∃j,bT (.plain .leaf [.str]) (.str x) es=some (some j)∧(es.getD j default).v=w.v∧j<es.length
theorem yK(e:pO)(k:V)(m:ME):∀es:List ME,bT e k (es++[m])=(match bT e k es with
 |some (some j)=>some (some j)
 |some none=>(match veq e k m.k with|some true=>some (some es.length)|some false=>some none|none=>none)
 |none=>none)
 | []=>by
  simp only[jQ,bT,jM];cases veq e k m.k with
  |none=>rfl
  |some b=>cases b<;>rfl
 |a::es=>by
  simp only[jP,bT,jL];cases veq e k a.k with
  |none=>rfl
  |some b=>
   cases b with
   |true=>rfl
   |false=>
    simp only;rw[yK e k m es];cases bT e k es with
    |none=>rfl
    |some o=>
     cases o with
     |some j=>rfl
     |none=>
      simp only[Option.map_some,Option.map_none];cases veq e k m.k with
      |none=>rfl
      |some b=>cases b<;>rfl
theorem ph(x y:ByteArray):veq (.plain .leaf [.str]) (.str x) (.str y)=some (decide (x=y)):=by
 have e:veq (.plain .leaf [.str]) (.str x) (.str y)=some (x.toList==y.toList):=rfl;rw[e,dV]
section
variable{P:Program}{Q:St→Prop}{s:St}{dst:Option Nat}{r:List aA}{x:aK}
theorem pF(h:aY P r Q ⟨bL s.sl dst (.map s.nx),s.h.set s.nx (.mp [] 0),s.nx+1⟩):aY P (⟨dst,none, .mp .mk⟩::r) Q s:=h
theorem mK{kS:Sh}{ks:List LK}{n c:Nat}{es:List ME}{k v:aK}(hk:(k.ev s.sl).fits kS=true)(hx:x.ev s.sl= .map n)(hn:s.h n=some (.mp es c))(hf:bT (.plain kS ks) (k.ev s.sl) es=some none)
 (h2:aY P r Q ⟨bL s.sl dst V.undef,s.h.set n (.mp (es++[⟨k.ev s.sl,v.ev s.sl,c⟩]) (c+1)),s.nx+1⟩):aY P (⟨dst,none, .mp (.put kS ks x k v)⟩::r) Q s:=by
 unfold aY;simp only[LOp.run,LOp.sem,MOp.sem,hx,hn,hf];exact⟨hk,h2⟩
end
end Go.Proofs.YtlhedpgobaellaaGreatDoor
