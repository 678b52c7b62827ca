/-
Texts of this proof,one behind the other. No conditions.
-/
import Derived.Test.YtgbiopfghdilnaaGreatDoorKd
import Derived.Test.YtgbiopfghdilnaaGreatDoorKe
import Derived.Test.YtgbiopfghdilnaaGreatDoorKh
import Derived.Test.YtgbiopfghdilnaaGreatDoorKi
import Derived.Test.YtgbiopfghdilnaaGreatDoorKg
open Go.Proofs.YtgbiopfghdilnaaGreatDoor.V renaming undef→Ka
open List renaming getD_eq_getElem?_getD→Kb,take_succ_eq_append_getElem→Kc,drop_eq_getElem_cons→Ke,drop_eq_nil_of_le→Kf,getElem_mem→Kg,filter_append→Kj,take_of_length_le→Kk,filter_eq_self→Ko,append_assoc→Kp,cons_append→Kq,take_length→Ks,drop_drop→Kt,drop→Ku
open Nat renaming le_refl→Kd,lt_or_ge→Ki,zero_le→Km
open Go.IntKind renaming wrap→Kh
open Nat renaming reduceAdd→jA,reduceSub→jB,reduceLT→jC,reduceLeDiff→jD,reduceEqDiff→jE
open Int renaming reduceToNat→jF,toNat_natCast→jG,natCast_add→jH,natCast_one→jI,natCast_zero→jJ
open List renaming length_map→jK,length_cons→jL,length_nil→jM,replicate_succ→jN,replicate_zero→jO,cons_append→jP,nil_append→jQ
set_option linter.unusedSimpArgs false
set_option linter.unusedVariables false
set_option linter.unusedSectionVars false
set_option maxHeartbeats 8000000
namespace Go.Proofs.YtgbiopfghdilnaaGreatDoor
open Go.RowKit Go.Sort
attribute [local irreducible] Kh
set_option maxHeartbeats 4000000
theorem dv(n:Nat)(h:n≤300000000000000):IntKind.i64.wrap ((n:Int).tdiv 50)=((n / 50:Nat):Int):=by
 have e:((n / 50:Nat):Int)=(n:Int).tdiv 50:=Int.ofNat_tdiv n 50;rw[←e];exact eR or or
theorem ju(t:Tr)(r:List Tr)(l:Int):iQ (t::r) l=if l-dY t<0 then-1 else iQ r (l-dY t):=rfl
theorem rh(k:Ex)(r:List Ex)(l:Int):iP (k::r) l=if l<0 then-1 else iP r (kZ k l):=by rw[iP]
theorem xa(l:Int):iP [] l=l:=by rw[iP]
theorem qr(b:Li)(r:List Li)(l:Int):yP (b::r) l=if l<0 then-1 else yP r (wi b l):=rfl
theorem yV(a:Am)(ha:a.s47)(l:Int)(hl:-100000000000000≤l∧l≤300)(h:Hp):aM Tryz.prog 34 [a.v, .int .i64 l] h (.int .i64 (fI a l)):=by
 refine aJ (fun L=>trivial) fun h' nx hh=>aB L.aVO fun hd=>?_;obtain⟨r,o,ts⟩:=a;simp only[jL,jM,jA,jB,jN,jO,jP,jQ,Ka];have hn:=k8 ha;have hr:r.size≤kY:=ha.1;unfold kY at hr;dsimp only at hn;have d1:=dv r.size or;have hat:fI ⟨r,o,ts⟩ l=iQ ts (l-(1+((r.size / 50:Nat):Int))):=rfl;rw[hat];generalize ((r.size / 50:Nat):Int)=D at hn d1;have d2:IntKind.i64.wrap (1+D)=1+D:=wrp;have d3:IntKind.i64.wrap (l-(1+D))=l-(1+D):=wrp;refine aue (e6 Am.v.eq_1 d1 d2 d3 trs.eq_1 (@jK Tr V)) ?_
 refine aS (fun q:Nat×Int=>aF 37 0 [(1, .int .i64 q.2),(15,trs o ts),(16, .int .i64 ts.length),(17, .int .i64 q.1)])
  (fun q hp nx1=>q.1≤ts.length∧nx≤nx1∧aW hp nx1∧Hp.same nx h' hp∧iQ ts (l-(1+D))=iQ (ts.drop q.1) q.2∧-200000000000000≤q.2∧q.2≤300-q.1∧q.1≤301)
  (fun q=>ts.length-q.1) (0,l-(1+D)) ⟨Km _,Zw,by exact dmo hd,by exact kep Hp.same.aBb,rfl,Zw,Zw,Zw⟩ (by simp only[WkL,aF,jH,jI,jJ,trs,go_sem,reduceIte,jA,jB,jC,jD,reduceCtorEq,jE,jF]) ?_
 rintro⟨i,c⟩ hp nx1 ⟨hi,hnx,hdm,hsm,hTe,hb1,hb2,hb3⟩;generalize hQ:bK _ _ _ _ _=Q0;dsimp only at hi hTe hb1 hb2 hb3;simp only[aF,go_sem,reduceIte,jA,jB,jC,jD,reduceCtorEq,jE,jF];have hle:=hsm.le hd (Hp.le_refl _);rcases Ki i ts.length with hlt|hge
 ·have hc:decide ((i:Int)<(ts.length:Int))=true:=dct;have hg:=aN Tr.v ts i hlt;have hdr:ts.drop i=ts[i]::ts.drop (i+1):=Ke hlt;have aSF:ts[i].s47:=ha.2 _ (Kg _);have hcb:=sR aSF;rw[hdr,ju] at hTe;have hct:dY ts[i]=1+((ts[i].x.size+ts[i].w.s.size)/ 50:Nat):=rfl;obtain⟨q1,q2⟩:=aSF;unfold kY at q1 q2;obtain⟨N,hN⟩:∃N,ts[i].x.size+ts[i].w.s.size=N:=⟨_,rfl⟩;rw[hN] at hct;have w1:IntKind.i64.wrap ((ts[i].x.size:Int)+(ts[i].w.s.size:Int))=(N:Int):=wrp;have w2:=dv N or;obtain⟨D2,hD2⟩:∃D2,N / 50=D2:=⟨_,rfl⟩;rw[hD2] at w2 hct;have w3:IntKind.i64.wrap (1+(D2:Int))=dY ts[i]:=wrp;have w4:IntKind.i64.wrap (c-dY ts[i])=c-dY ts[i]:=wrp;by_cases aBg:c-dY ts[i]<0
  ·have g1:decide (c-dY ts[i]<0)=true:=dct;rw[if_pos aBg] at hTe;refine aue (e12 hc hg hlt w1 w2 w3 w4 g1 Tr.v.eq_1 trs.eq_1 (@jK Tr V) jG) ?_;rw[←hQ];refine au ?_;refine aC h' (lef hd hle) ⟨?_,rfl⟩;rw[hTe];rfl
  have g1:decide (c-dY ts[i]<0)=false:=dcf;have hw:IntKind.i64.wrap ((i:Int)+1)=((i+1:Nat):Int):=wrp;rw[if_neg aBg] at hTe;refine aue (e13 hc hg hlt w1 w2 w3 w4 g1 Tr.v.eq_1 trs.eq_1 (@jK Tr V) jG hw) ?_;rw[←hQ];exact aG (i+1,c-dY ts[i]) Zw ⟨hlt,or,dmo hdm,kep hsm,hTe,Zw,Zw,Zw⟩ (by simp only[WkL,aF,jH,jI,jJ,trs,go_sem,reduceIte,jA,jB,jC,jD,reduceCtorEq,jE,jF])
 have hc:decide ((i:Int)<(ts.length:Int))=false:=dcf;refine aue hc ?_;rw[←hQ];refine au ?_;refine aC h' hle ⟨?_,rfl⟩;rw[hTe,Kf hge];rfl
theorem tR:∀(n:Nat) (e:Ex),SizeOf.sizeOf e≤n→e.s47→∀(l:Int),(-100000000000000≤l∧l≤300)→∀(h:Hp),aM Tryz.prog 35 [e.v, .int .i64 l] h (.int .i64 (kZ e l))
 |0, .mk op t o ks,h,_,_,_,_=>by simp at h
 |n+1, .mk op t o ks,hz,hs,l,hl,h=>by
  have hcb:=sR hs.1;have hk:∀e∈ks,SizeOf.sizeOf e≤n∧e.s47:=fun e he=>by
   refine⟨?_,Ex.aA5.1 hs.2 e he⟩;have:=List.sizeOf_lt_of_mem he;simp only[Ex.mk.sizeOf_spec] at hz;omega
  refine aJ (fun L=>trivial) fun h' nx hh=>aB L.aVN fun hd=>?_;rw[Ex.aAs];simp only[jL,jM,jA,jB,jN,jO,jP,jQ,Ka];have hat:kZ (.mk op t o ks) l=iP ks (l-dY t):=by rw[kZ]
  rw[hat];have hct:dY t=1+((t.x.size+t.w.s.size)/ 50:Nat):=rfl;obtain⟨q1,q2⟩:=hs.1;unfold kY at q1 q2;obtain⟨N,hN⟩:∃N,t.x.size+t.w.s.size=N:=⟨_,rfl⟩;rw[hN] at hct;have w1:IntKind.i64.wrap ((t.x.size:Int)+(t.w.s.size:Int))=(N:Int):=wrp;have w2:=dv N or;obtain⟨D2,hD2⟩:∃D2,N / 50=D2:=⟨_,rfl⟩;rw[hD2] at w2 hct;have w3:IntKind.i64.wrap (1+(D2:Int))=dY t:=wrp;have w4:IntKind.i64.wrap (l-dY t)=l-dY t:=wrp;refine aue (e10 Ex.cs.eq_1 Ex.op.eq_1 Ex.t.eq_1 Ex.o.eq_1 Ex.kids.eq_1 w1 w2 w3 w4 (@jK Ex V)) ?_
  refine aS (fun q:Nat×Int=>aF 35 0 [(1, .int .i64 q.2),(22, .sl (.agg 6) o (ks.map Ex.v)),(23, .int .i64 ks.length),(24, .int .i64 q.1)])
   (fun q hp nx1=>q.1≤ks.length∧nx≤nx1∧aW hp nx1∧Hp.same nx h' hp∧iP ks (l-dY t)=iP (ks.drop q.1) q.2∧q.2≤300∧(0≤q.2→q.2≤300-q.1)∧q.1≤301)
   (fun q=>ks.length-q.1) (0,l-dY t) ⟨Km _,Zw,by exact dmo hd,by exact kep Hp.same.aBb,rfl,Zw,Zw,Zw⟩ (by simp only[WkL,aF,jH,jI,jJ,go_sem,reduceIte,jA,jB,jC,jD,reduceCtorEq,jE,jF]) ?_
  rintro⟨i,c⟩ hp nx1 ⟨hi,hnx,hdm,hsm,hTe,hb2,hb4,hb3⟩;generalize hQ:bK _ _ _ _ _=Q0;dsimp only at hi hTe hb2 hb3 hb4;simp only[aF,go_sem,reduceIte,jA,jB,jC,jD,reduceCtorEq,jE,jF];have hle:=hsm.le hd (Hp.le_refl _);rcases Ki i ks.length with hlt|hge
  ·have hc:decide ((i:Int)<(ks.length:Int))=true:=dct;have hg:=aN Ex.v ks i hlt;have hdr:ks.drop i=ks[i]::ks.drop (i+1):=Ke hlt;have hfl:=Ex.aAD ks[i];rw[hdr,rh] at hTe;by_cases aBg:c<0
   ·have g1:decide (c<0)=true:=dct;rw[if_pos aBg] at hTe;refine aue (e6 hc hg hlt g1 (@jK Ex V) (e2 hfl jG)) ?_;rw[←hQ];refine au ?_;refine aC h' (lef hd hle) ⟨?_,rfl⟩;rw[hTe];rfl
   have g1:decide (c<0)=false:=dcf;have hi3:=hb4 or;have hw:IntKind.i64.wrap ((i:Int)+1)=((i+1:Nat):Int):=wrp;rw[if_neg aBg] at hTe;obtain⟨hk1,hk2⟩:=hk _ (Kg hlt);have C1:=fun h=>tR n ks[i] hk1 hk2 c ⟨or,hb2⟩ h;have hbd:=il n ks[i] hk1 hk2 c;refine aue (e7 hc hg hlt g1 (@jK Ex V) (e2 hfl jG) hw) ?_;rw[←hQ];exact aG (i+1,kZ ks[i] c) Zw ⟨hlt,or,dmo hdm,kep hsm,hTe,Zw,Zw,Zw⟩ (by simp only[WkL,aF,jH,jI,jJ,go_sem,reduceIte,jA,jB,jC,jD,reduceCtorEq,jE,jF])
  have hc:decide ((i:Int)<(ks.length:Int))=false:=dcf;refine aue hc ?_;rw[←hQ];refine au ?_;refine aC h' hle ⟨?_,rfl⟩;rw[hTe,Kf hge];rw[xa];rfl
theorem qk(r:Ru)(hr:r.s47)(h:Hp):aM Tryz.prog 8 [r.v, .int .i64 300] h (.int .i64 (ym r)):=by
 refine aJ (fun L=>trivial) fun h' nx hh=>aB L.g2z fun hd=>?_;obtain⟨⟨hr',ho,hl⟩,g,c0,o,b,at_⟩:=r;simp only[jL,jM,jA,jB,jN,jO,jP,jQ,Ka];have C1:∀h:Hp,aM Tryz.prog 34 [.agg [.str hr', .sl (.agg 4) ho (hl.map Tr.v)], .int .i64 300] h (.int .i64 (fI ⟨hr',ho,hl⟩ 300)):=fun h=>yV ⟨hr',ho,hl⟩ hr.1 300 or h;have hab:=ug hr.1 300;have hat:ym ⟨⟨hr',ho,hl⟩,g,c0,o,b,at_⟩=yP b (fI ⟨hr',ho,hl⟩ 300):=rfl;rw[hat];dsimp only at hab;generalize fI ⟨hr',ho,hl⟩ 300=A at C1 hab;refine aue (e2 Ru.v.eq_1 (@jK Li V)) ?_;clear C1
 refine aS (fun q:Nat×Int=>aF 32 0 [(1, .int .i64 q.2),(12, .sl (.agg 17) o (b.map Li.v)),(13, .int .i64 b.length),(14, .int .i64 q.1)])
  (fun q hp nx1=>q.1≤b.length∧nx≤nx1∧aW hp nx1∧Hp.same nx h' hp∧yP b A=yP (b.drop q.1) q.2∧q.2≤300∧(0≤q.2→q.2≤300-q.1)∧q.1≤301)
  (fun q=>b.length-q.1) (0,A) ⟨Km _,Zw,by exact dmo hd,by exact kep Hp.same.aBb,rfl,Zw,Zw,Zw⟩ (by simp only[WkL,aF,jH,jI,jJ,go_sem,reduceIte,jA,jB,jC,jD,reduceCtorEq,jE,jF]) ?_
 rintro⟨i,c⟩ hp nx1 ⟨hi,hnx,hdm,hsm,hTe,hb2,hb4,hb3⟩;generalize hQ:bK _ _ _ _ _=Q0;dsimp only at hi hTe hb2 hb3 hb4;simp only[aF,go_sem,reduceIte,jA,jB,jC,jD,reduceCtorEq,jE,jF];have hle:=hsm.le hd (Hp.le_refl _);rcases Ki i b.length with hlt|hge
 ·have hc:decide ((i:Int)<(b.length:Int))=true:=dct;have hg:=aN Li.v b i hlt;have hdr:b.drop i=b[i]::b.drop (i+1):=Ke hlt;have hs:=hr.2 _ (Kg hlt);rw[hdr,qr] at hTe;by_cases aBg:c<0
  ·have g1:decide (c<0)=true:=dct;rw[if_pos aBg] at hTe;have hfl:=Li.aAD b[i];refine aue (e6 hc hg hlt g1 (@jK Li V) (e2 hfl jG)) ?_;rw[←hQ];refine au ?_;refine aC h' (lef hd hle) ⟨?_,rfl⟩;rw[hTe];rfl
  have g1:decide (c<0)=false:=dcf;have hi3:=hb4 or;have hw:IntKind.i64.wrap ((i:Int)+1)=((i+1:Nat):Int):=wrp;rw[if_neg aBg] at hTe;obtain⟨x1,y1⟩:=ug hs.1 c;obtain⟨x2,y2⟩:=il _ b[i].x (Kd _) hs.2.1 (fI b[i].a c);obtain⟨x3,y3⟩:=il _ b[i].y (Kd _) hs.2.2 (kZ b[i].x (fI b[i].a c));have hA:-50000000000000≤fI b[i].a c∧fI b[i].a c≤300:=by split at x1<;>omega
  have hX:-100000000000000≤kZ b[i].x (fI b[i].a c)∧kZ b[i].x (fI b[i].a c)≤300:=by split at x2<;>omega
  have hv:=Li.aAs b[i];generalize b[i]=B at hs hv hg hTe x1 x2 x3 y1 y2 y3 hA hX;have D1:∀h:Hp,aM Tryz.prog 34 [.agg [.str B.a.r, .sl (.agg 4) B.a.o (B.a.l.map Tr.v)], .int .i64 c] h (.int .i64 (fI B.a c)):=fun h=>yV B.a hs.1 c or h;have D2:∀h:Hp,aM Tryz.prog 35 [.agg [.int .i64 B.x.op, .str B.x.t.x, .int .i64 B.x.t.w.k, .int .i64 B.x.t.w.n, .str B.x.t.w.s, .sl (.agg 6) B.x.o (B.x.kids.map Ex.v)], .int .i64 (fI B.a c)] h (.int .i64 (kZ B.x (fI B.a c))):=fun h=>Ex.aAs B.x▸tR _ B.x (Kd _) hs.2.1 _ or h;have D3:∀h:Hp,aM Tryz.prog 35 [.agg [.int .i64 B.y.op, .str B.y.t.x, .int .i64 B.y.t.w.k, .int .i64 B.y.t.w.n, .str B.y.t.w.s, .sl (.agg 6) B.y.o (B.y.kids.map Ex.v)], .int .i64 (kZ B.x (fI B.a c))] h (.int .i64 (kZ B.y (kZ B.x (fI B.a c)))):=fun h=>Ex.aAs B.y▸tR _ B.y (Kd _) hs.2.2 _ or h;refine aue (e8 hc hg hlt g1 (@jK Li V) hv jG hw) ?_;rw[←hQ];exact aG (i+1,wi B c) Zw ⟨hlt,or,dmo hdm,kep hsm,hTe,by dsimp only;unfold wi;omega,by dsimp only;unfold wi;omega,Zw⟩ (by simp only[WkL,aF,jH,jI,jJ,wi,go_sem,reduceIte,jA,jB,jC,jD,reduceCtorEq,jE,jF])
 have hc:decide ((i:Int)<(b.length:Int))=false:=dcf;refine aue hc ?_;rw[←hQ];refine au ?_;refine aC h' hle ⟨?_,rfl⟩;rw[hTe,Kf hge];rfl
set_option maxHeartbeats 4000000
mutual
def Ex.cp:Ex→Ex
 | .mk op t _ ks=> .mk op t (frO ks) (Ex.cps ks)
def Ex.cps:List Ex→List Ex
 | []=>[]
 |e::r=>e.cp::Ex.cps r
end
end Go.Proofs.YtgbiopfghdilnaaGreatDoor
namespace Go.Proofs.YtgbiopfghdilnaaGreatDoor
open Go.RowKit Go.Sort
attribute [local irreducible] Kh
set_option maxHeartbeats 4000000
end Go.Proofs.YtgbiopfghdilnaaGreatDoor
namespace Go.Proofs.YtgbiopfghdilnaaGreatDoor
open Go.RowKit Go.Sort
attribute [local irreducible] Kh
set_option maxHeartbeats 4000000
def lkB(x:ByteArray):List Tr→Option Vl
 | []=>none
 |t::r=>if t.x=x then some t.w else lkB x r
theorem tu(x:ByteArray)(t:Tr):∀l:List Tr,lkB x (l++[t])=(match lkB x l with
 |some w=>some w
 |none=>if t.x=x then some t.w else none)
 | []=>by simp[lkB]
 |a::l=>by
  simp only[Kq,lkB];split
  ·rfl
  exact tu x t l
def vW(es:List ME)(l:List Tr):Prop:=∀x:ByteArray,match lkB x l with
 |none=>bO (.plain .leaf [.str]) (.str x) es=some none
 |some w=>∃j,bO (.plain .leaf [.str]) (.str x) es=some (some j)∧(es.getD j default).v=w.v∧j<es.length
theorem dy(e:mS)(k:V)(m:ME):∀es:List ME,bO e k (es++[m])=(match bO e k es with
 |some (some j)=>some (some j)
 |some none=>(match veq e k m.k with|some true=>some (some es.length)|some false=>some none|none=>none)
 |none=>none)
 | []=>by
  simp only[List.nil_append,bO,List.length_nil];cases veq e k m.k with
  |none=>rfl
  |some b=>cases b<;>rfl
 |a::es=>by
  simp only[Kq,bO,List.length_cons];cases veq e k a.k with
  |none=>rfl
  |some b=>
   cases b with
   |true=>rfl
   |false=>
    simp only;rw[dy e k m es];cases bO e k es with
    |none=>rfl
    |some o=>
     cases o with
     |some j=>rfl
     |none=>
      simp only[Option.map_some,Option.map_none];cases veq e k m.k with
      |none=>rfl
      |some b=>cases b<;>rfl
theorem sv(x y:ByteArray):veq (.plain .leaf [.str]) (.str x) (.str y)=some (decide (x=y)):=by
 have e:veq (.plain .leaf [.str]) (.str x) (.str y)=some (x.toList==y.toList):=rfl;rw[e,eN]
section
variable{P:Program}{Q:St→Prop}{s:St}{dst:Option Nat}{r:List aA}{x:aI}
theorem sC(h:aT P r Q ⟨bF s.sl dst (.map s.nx),s.h.set s.nx (.mp [] 0),s.nx+1⟩):aT P (⟨dst,none, .mp .mk⟩::r) Q s:=h
theorem mK{kS:Sh}{ks:List LK}{n c:Nat}{es:List ME}{k v:aI}(hk:(k.ev s.sl).fits kS=true)(hx:x.ev s.sl= .map n)(hn:s.h n=some (.mp es c))(hf:bO (.plain kS ks) (k.ev s.sl) es=some none)
 (h2:aT P r Q ⟨bF s.sl dst Ka,s.h.set n (.mp (es++[⟨k.ev s.sl,v.ev s.sl,c⟩]) (c+1)),s.nx+1⟩):aT P (⟨dst,none, .mp (.put kS ks x k v)⟩::r) Q s:=by
 unfold aT;simp only[LOp.run,LOp.sem,MOp.sem,hx,hn,hf];exact⟨hk,h2⟩
end
end Go.Proofs.YtgbiopfghdilnaaGreatDoor
namespace Go.Proofs.YtgbiopfghdilnaaGreatDoor
open Go.RowKit Go.Sort
attribute [local irreducible] Kh
set_option maxHeartbeats 4000000
def fJ(es:List ME)(l:List ByteArray):Prop:=∀x:ByteArray,match bO (.plain .leaf [.str]) (.str x) es with
 |some none=>x∉l
 |some (some j)=>j<es.length∧x∈l∧∃n:Int,(es.getD j default).v= .int .i64 n∧1≤n∧n≤l.length
 |none=>False
theorem cw:fJ [] []:=fun x=>by simp[bO]
theorem yI(e:mS)(k:V):∀(a b:List ME),a.map ME.k=b.map ME.k→bO e k a=bO e k b
 | [],[],_=>rfl
 |x::a,y::b,h=>by
  simp only[List.map_cons,List.cons.injEq] at h;simp only[bO,h.1,yI e k a b h.2]
theorem dx(e:mS)(k:V):∀(l:List ME) (j:Nat),bO e k l=some (some j)→veq e k (l.getD j default).k=some true
 | [],j,h=>by cases h
 |x::l,j,h=>by
  simp only[bO] at h;cases hv:veq e k x.k with
  |none=>rw[hv] at h;cases h
  |some b=>
   rw[hv] at h;cases b with
   |true=>cases h;exact hv
   |false=>
    simp only[Option.map_eq_some_iff] at h;obtain⟨o,h1,i,rfl,rfl⟩:=h;exact dx e k l i h1
theorem o9{x:ByteArray}{v:V}(h:veq (.plain .leaf [.str]) (.str x) v=some true):v= .str x:=by
 simp only[veq] at h;split at h
 ·rename_i hf;cases v<;>first|(simp[V.fits,V.aAE] at hf;done)|simp only[V.cells,fL,fN,reduceCtorEq,Option.some.injEq] at h
  rename_i s;rw[eN] at h;rw[of_decide_eq_true h]
 cases h
theorem uw{es:List ME}{l:List ByteArray}{x:ByteArray}{b:Nat}(h:fJ es l)(hx:bO (.plain .leaf [.str]) (.str x) es=some none):fJ (es++[⟨.str x, .int .i64 1,b⟩]) (l++[x]):=fun y=>by
 have hy:=h y;rw[dy];cases hm:bO (.plain .leaf [.str]) (.str y) es with
 |none=>rw[hm] at hy;exact hy.elim
 |some o=>
  rw[hm] at hy;cases o with
  |some j=>
   obtain⟨h1,h2,n,h3,h4,h5⟩:=hy;refine⟨by simp;omega,by simp[h2],n,?_,h4,by simp;omega⟩;rw[←h3];simp only[Kb];rw[List.getElem?_append_left h1]
  |none=>
   simp only[sv] at hy⊢;by_cases e:y=x
   ·rw[decide_eq_true e];exact⟨Zm,by simp[e],1,by simp[Kb],or,by simp;omega⟩
   rw[decide_eq_false e];simp[hy,e]
theorem uv{es:List ME}{l:List ByteArray}{x:ByteArray}{j:Nat}{n:Int}(h:fJ es l)(hx:bO (.plain .leaf [.str]) (.str x) es=some (some j))(hn:(es.getD j default).v= .int .i64 n)(b:Nat):fJ (es.set j ⟨.str x, .int .i64 (n+1),b⟩) (l++[x]):=fun y=>by
 have hk:=o9 (dx _ _ _ _ hx);have hX:=h x;rw[hx] at hX;obtain⟨p1,p2,n',p3,p4,p5⟩:=hX;rw[hn] at p3;obtain rfl:n=n':=by injection p3
 have aCn:bO (.plain .leaf [.str]) (.str y) (es.set j ⟨.str x, .int .i64 (n+1),b⟩)=bO (.plain .leaf [.str]) (.str y) es:=by
  refine yI _ _ _ _ (List.ext_getElem Zm fun i h1 h2=>?_);simp only[List.getElem_map,List.getElem_set];split
  ·rename_i e;subst e;rw[Kb,List.getElem?_eq_getElem p1] at hk;exact hk.symm
  rfl
 have hy:=h y;rw[aCn];cases hm:bO (.plain .leaf [.str]) (.str y) es with
 |none=>rw[hm] at hy;exact hy.elim
 |some o=>
  rw[hm] at hy;cases o with
  |none=>
   have:y≠x:=fun e=>hy (e▸p2);simp[hy,this]
  |some i=>
   obtain⟨h1,h2,m,h3,h4,h5⟩:=hy;refine⟨by simpa using h1,by simp[h2],?_⟩;by_cases e:j=i
   ·subst e;refine⟨n+1,?_,or,by simp;omega⟩;rw[Kb,List.getElem?_set_self p1];rfl
   refine⟨m,?_,h4,by simp;omega⟩;rw[←h3];simp only[Kb];rw[List.getElem?_set_ne e]
theorem pF{es:List ME}{l:List ByteArray}(h:fJ es l)(x:ByteArray):∃r n,bO (.plain .leaf [.str]) (.str x) es=some r∧iX false (.int .i64 0) es r= .int .i64 n∧0≤n∧n≤l.length∧(n=0↔cD x l=false):=by
 have hx:=h x;cases hm:bO (.plain .leaf [.str]) (.str x) es with
 |none=>rw[hm] at hx;exact hx.elim
 |some o=>
  rw[hm] at hx;cases o with
  |none=>exact⟨none,0,rfl,rfl,or,or,by simp[iO.2 hx]⟩
  |some j=>
   obtain⟨h1,h2,n,h3,h4,h5⟩:=hx;refine⟨some j,n,rfl,h3,or,h5,⟨fun e=>or,fun e=>absurd h2 (iO.1 e)⟩⟩
section
variable{P:Program}{Q:St→Prop}{s:St}{dst:Option Nat}{r:List aA}{x:aI}
theorem wd{kS:Sh}{ks:List LK}{n c j:Nat}{es:List ME}{k v:aI}(hk:(k.ev s.sl).fits kS=true)(hx:x.ev s.sl= .map n)(hn:s.h n=some (.mp es c))(hf:bO (.plain kS ks) (k.ev s.sl) es=some (some j))
 (h2:aT P r Q ⟨bF s.sl dst Ka,s.h.set n (.mp (es.set j ⟨k.ev s.sl,v.ev s.sl,(es.getD j default).b⟩) c),s.nx+1⟩):aT P (⟨dst,none, .mp (.put kS ks x k v)⟩::r) Q s:=by
 unfold aT;simp only[LOp.run,LOp.sem,MOp.sem,hx,hn,hf];exact⟨hk,h2⟩
end
theorem qN(o:Own)(vs:List ByteArray)(l:List ByteArray)(hl:l.length+vs.length≤1000000000)(n:Nat)(es:List ME)(c:Nat)(h:Hp)(nx:Nat)(hm:h n=some (.mp es c))(hs:fJ es l):
 aQ Tryz.prog 86 [.map n, .sl .leaf o (vs.map V.str)] h nx fun v h' nx'=>∃es' c',h' n=some (.mp es' c')∧fJ es' (l++vs)∧∀m,m<nx→m≠n→h' m=h m:=by
 refine aB L.aUg fun hd=>?_;simp only[jL,jM,jA,jB,jN,jO,jP,jQ,Ka];have hn2:n<nx:=hd _ _ hm;refine aue (@jK ByteArray V) ?_
 refine aS (fun i:Nat=>aF 17 0 [(0, .map n),(6, .sl .leaf o (vs.map V.str)),(7, .int .i64 vs.length),(8, .int .i64 i)])
  (fun i hp nx1=>i≤vs.length∧nx≤nx1∧(∃es c,hp n=some (.mp es c)∧fJ es (l++vs.take i))∧∀m,m<nx→m≠n→hp m=h m)
  (fun i=>vs.length-i) 0 ⟨Km _,Kd _,⟨es,c,hm,by simpa using hs⟩,fun _ _ _=>rfl⟩ (by simp only[WkL,aF,jH,jI,jJ,jK,go_sem,reduceIte,jA,jB,jC,jD,reduceCtorEq,jE,jF]) ?_
 rintro i hp nx1 ⟨hi,hnx,⟨es1,c1,hm1,hs1⟩,hsm⟩;generalize hQ:bK _ _ _ _ _=Q0;simp only[aF,go_sem,reduceIte,jA,jB,jC,jD,reduceCtorEq,jE,jF];rcases Ki i vs.length with hlt|hge
 ·have hc:decide ((i:Int)<(vs.length:Int))=true:=dct;have hg:=aN V.str vs i hlt;have hw:IntKind.i64.wrap ((i:Int)+1)=((i+1:Nat):Int):=wrp;have htk:l++vs.take (i+1)=(l++vs.take i)++[vs[i]]:=by rw[Kc hlt,Kp]
  have hlen:(l++vs.take i).length≤l.length+i:=by rw[List.length_append,List.length_take];omega
  have hn3:n<nx1:=or;generalize vs[i]=x at hg htk;have hx:=hs1 x;cases hf:bO (.plain .leaf [.str]) (.str x) es1 with
  |none=>rw[hf] at hx;exact hx.elim
  |some r=>
   cases r with
   |none=>
    have hg0:iX false (.int .i64 0) es1 none= .int .i64 0:=rfl;have hw1:IntKind.i64.wrap ((0:Int)+1)=1:=wrp;have hs2:=uw (b:=c1) hs1 hf;refine aue (e9 hc hg hlt hm1 hf hg0 hw1 (@jK ByteArray V) jG) ?_;refine mK (es:=es1) (c:=c1) (n:=n) rfl rfl (by simp only[hm1,go_sem,reduceIte,jA,jB,jC,jD,reduceCtorEq,jE,jF]) hf ?_;refine Zn ?_;refine aue hw ?_;rw[←hQ];refine aG (i+1) or ⟨hlt,or,⟨_,_,by simp only[go_sem,reduceIte,jA,jB,jC,jD,reduceCtorEq,jE,jF];rfl,by rw[htk];exact hs2⟩,fun m h1 h2=>?_⟩ (by simp only[WkL,aF,jH,jI,jJ,go_sem,reduceIte,jA,jB,jC,jD,reduceCtorEq,jE,jF]);simp only[Hp.set];rw[if_neg h2];exact hsm m h1 h2
   |some j=>
    rw[hf] at hx;obtain⟨p1,p2,m,p3,p4,p5⟩:=hx;have hg0:iX false (.int .i64 0) es1 (some j)= .int .i64 m:=p3;have hw1:IntKind.i64.wrap (m+1)=m+1:=wrp;have hs2:=uv hs1 hf p3 (es1.getD j default).b;refine aue (e9 hc hg hlt hm1 hf hg0 hw1 (@jK ByteArray V) jG) ?_;refine wd (es:=es1) (c:=c1) (n:=n) (j:=j) rfl rfl (by simp only[hm1,go_sem,reduceIte,jA,jB,jC,jD,reduceCtorEq,jE,jF]) hf ?_;refine Zn ?_;refine aue hw ?_;rw[←hQ];refine aG (i+1) or ⟨hlt,or,⟨_,_,by simp only[go_sem,reduceIte,jA,jB,jC,jD,reduceCtorEq,jE,jF];rfl,by rw[htk];exact hs2⟩,fun m h1 h2=>?_⟩ (by simp only[WkL,aF,jH,jI,jJ,go_sem,reduceIte,jA,jB,jC,jD,reduceCtorEq,jE,jF]);simp only[Hp.set];rw[if_neg h2];exact hsm m h1 h2
 have hc:decide ((i:Int)<(vs.length:Int))=false:=dcf;refine aue hc ?_;rw[←hQ];refine au ?_;rw[Kk or] at hs1;exact⟨hp,Hp.le_refl _,es1,c1,hm1,hs1,hsm⟩
def mR(l vs:List ByteArray):Bool:=vs.all fun v=>cD v l
theorem wM:aD Tryz.prog 173=some (LB.aAU .leaf):=Zz
theorem A8:aD Tryz.prog 192=some (LB.ContainsFunc .leaf 173):=Zz
theorem pu(l:List ByteArray)(hl:l.length≤1000000000)(n:Nat)(es:List ME)(c:Nat)(h:Hp)(hm:h n=some (.mp es c))(hs:fJ es l)(p:Nat)(hp:h p=some (.arr .leaf [.map n]))(x:ByteArray):aM Tryz.prog 193 [.str x, .ptr p .leaf 0 0] h (.bool (!cD x l)):=by
 refine aJ (fun L=>trivial) fun h' nx hh=>aB L.aRr fun hd=>?_;simp only[jL,jM,jA,jB,jN,jO,jP,jQ,Ka];have hm1:=hh _ _ hm rfl;have hp1:=hh _ _ hp rfl;have n1:n<nx:=hd _ _ hm1;have n2:p<nx:=hd _ _ hp1;obtain⟨r,m,q1,q2,q3,q4,q5⟩:=pF hs x;have hb:(m==0)= !cD x l:=by
  cases k:cD x l with
  |true=>exact bqf (fun e=>by rw[q5.1 e] at k;cases k)
  |false=>exact bqt (q5.2 k)
 refine aue (e6 hm1 hp1 q1 q2 hb n1) ?_;exact aC h' (leo hd) ⟨rfl,rfl⟩
theorem tJ(l:List ByteArray)(hl:l.length≤1000000000)(n:Nat)(es:List ME)(c:Nat)(h:Hp)(hm:h n=some (.mp es c))(hs:fJ es l)(o:Own)(vs:List ByteArray)(hv:vs.length≤1000000000):aM Tryz.prog 175 [.map n, .sl .leaf o (vs.map V.str)] h (.bool (mR l vs)):=by
 refine aJ (fun L=>trivial) fun h' nx hh=>aB L.aR5 fun hd=>?_;simp only[jL,jM,jA,jB,jN,jO,jP,jQ,Ka];have hm1:=hh _ _ hm rfl;have n1:n<nx:=hd _ _ hm1;refine aue trivial ?_;refine aH (fH V.str (fun _=>rfl) A8 wM (fun x=> !cD x l) o vs _ _ (h'.set nx (.arr .leaf [.map n])) (fun x _=>pu l hl n es c _ (by simp only[Hp.set];rw[if_neg or];exact hm1) hs nx (by simp[Hp.set]) x) hv) rfl (aK _) ?_;refine Zn ?_;refine au ?_;exact aC h' (leo hd) ⟨by unfold mR;rw[←i7];rfl,rfl⟩
def dC(e:Ex):ByteArray:=if e.op≠0∨e.kids≠ [] then ⟨#[]⟩ else e.t.x
theorem ag(e:Ex)(h:Hp):aM Tryz.prog 174 [e.v] h (.str (dC e)):=by
 refine aJ (fun L=>trivial) fun h' nx hh=>aB L.aR6 fun hd=>?_;obtain⟨op,t,o,ks⟩:=e;rw[Ex.aAs];simp only[jL,jM,jA,jB,jN,jO,jP,jQ,Ka];unfold dC;by_cases h1:op=0
 ·have g1:(op != 0)=false:=bnf;cases ks with
  |nil=>
   have hk:decide ((0:Int)<((0:Nat):Int))=false:=rfl;have hk':decide (((0:Nat):Int)>0)=false:=rfl;refine aue (e8 Ex.cs.eq_1 Ex.op.eq_1 Ex.t.eq_1 Ex.o.eq_1 Ex.kids.eq_1 g1 hk hk') ?_;refine aC h' (leo hd) ⟨?_,rfl⟩;rw[if_neg (by simp[h1,Ex.op,Ex.kids])];rfl
  |cons a r=>
   obtain⟨ks,hks⟩:∃ks,ks=a::r:=⟨_,rfl⟩;have hk:decide ((0:Int)<(ks.length:Int))=true:=dct (by rw[hks];simp);rw[←hks];refine aue (e8 Ex.cs.eq_1 Ex.op.eq_1 Ex.t.eq_1 Ex.o.eq_1 Ex.kids.eq_1 g1 hk (@jK Ex V)) ?_;refine aC h' (leo hd) ⟨?_,rfl⟩;rw[if_pos (.inr (by rw[hks];simp[Ex.kids]))];rfl
 have g1:(op != 0)=true:=bnt;refine aue (e6 Ex.cs.eq_1 Ex.op.eq_1 Ex.t.eq_1 Ex.o.eq_1 Ex.kids.eq_1 g1) ?_;refine aC h' (leo hd) ⟨?_,rfl⟩;rw[if_pos (.inl h1)];rfl
def iJ(s:List ByteArray)(l:Li):Bool:=decide (l.k=3∧l.op=1)&&
 ((decide ((dC l.x).size≠0)&& !cD (dC l.x) s&&mR s (nmL [] l.y.ts))||(decide ((dC l.y).size≠0)&& !cD (dC l.y) s&&mR s (nmL [] l.x.ts)))
theorem xJ(s:List ByteArray)(hl:s.length≤1000000000)(n:Nat)(es:List ME)(c:Nat)(h:Hp)(hm:h n=some (.mp es c))(hs:fJ es s)(l:Li)(hr:cF l=true):aM Tryz.prog 131 [.map n,l.v] h (.bool (iJ s l)):=by
 refine aJ (fun L=>trivial) fun h' nx hh=>aB L.aT2 fun hd=>?_;rw[Li.aAs];simp only[jL,jM,jA,jB,jN,jO,jP,jQ,Ka];have hm1:=hh _ _ hm rfl;have n1:n<nx:=hd _ _ hm1;obtain⟨b1,b2,b3⟩:=kE hr;have b4:=lK b2;have b5:=lK b3;have b6:=lE l.x.ts [];have b7:=lE l.y.ts [];simp only[jM] at b6 b7;have D1:∀h:Hp,aM Tryz.prog 174 [.agg [.int .i64 l.x.op, .str l.x.t.x, .int .i64 l.x.t.w.k, .int .i64 l.x.t.w.n, .str l.x.t.w.s, .sl (.agg 6) l.x.o (l.x.kids.map Ex.v)]] h (.str (dC l.x)):=fun h=>(show V.agg l.x.cs=_ from rfl)▸Ex.aAs l.x▸ag l.x h;have D2:∀h:Hp,aM Tryz.prog 174 [.agg [.int .i64 l.y.op, .str l.y.t.x, .int .i64 l.y.t.w.k, .int .i64 l.y.t.w.n, .str l.y.t.w.s, .sl (.agg 6) l.y.o (l.y.kids.map Ex.v)]] h (.str (dC l.y)):=fun h=>(show V.agg l.y.cs=_ from rfl)▸Ex.aAs l.y▸ag l.y h;obtain⟨o1,ho1⟩:=cL .leaf ((nmL [] l.x.ts).map V.str);obtain⟨o2,ho2⟩:=cL .leaf ((nmL [] l.y.ts).map V.str);have C1:∀h:Hp,aM Tryz.prog 176 [.agg [.int .i64 l.x.op, .str l.x.t.x, .int .i64 l.x.t.w.k, .int .i64 l.x.t.w.n, .str l.x.t.w.s, .sl (.agg 6) l.x.o (l.x.kids.map Ex.v)]] h (.sl .leaf o1 ((nmL [] l.x.ts).map V.str)):=fun h=>(show V.agg l.x.cs=_ from rfl)▸Ex.aAs l.x▸ho1▸uj l.x b2 h;have C2:∀h:Hp,aM Tryz.prog 176 [.agg [.int .i64 l.y.op, .str l.y.t.x, .int .i64 l.y.t.w.k, .int .i64 l.y.t.w.n, .str l.y.t.w.s, .sl (.agg 6) l.y.o (l.y.kids.map Ex.v)]] h (.sl .leaf o2 ((nmL [] l.y.ts).map V.str)):=fun h=>(show V.agg l.y.cs=_ from rfl)▸Ex.aAs l.y▸ho2▸uj l.y b3 h;have z1:=rI (dC l.x);have z2:=rI (dC l.y);obtain⟨r1,m1,p1,p2,p3,p4,p5⟩:=pF hs (dC l.x);obtain⟨r2,m2,q1,q2,q3,q4,q5⟩:=pF hs (dC l.y);have e1:(m1==0)= !cD (dC l.x) s:=by
  cases k:cD (dC l.x) s with
  |true=>exact bqf (fun e=>by rw[p5.1 e] at k;cases k)
  |false=>exact bqt (p5.2 k)
 have e2':(m2==0)= !cD (dC l.y) s:=by
  cases k:cD (dC l.y) s with
  |true=>exact bqf (fun e=>by rw[q5.1 e] at k;cases k)
  |false=>exact bqt (q5.2 k)
 unfold iJ;generalize dC l.x=A at*;generalize dC l.y=B at*;have C5:aM Tryz.prog 175 [.map n, .sl .leaf o2 ((nmL [] l.y.ts).map V.str)] h' (.bool (mR s (nmL [] l.y.ts))):=tJ s hl n es c h' hm1 hs o2 _ or;have C6:aM Tryz.prog 175 [.map n, .sl .leaf o1 ((nmL [] l.x.ts).map V.str)] h' (.bool (mR s (nmL [] l.x.ts))):=tJ s hl n es c h' hm1 hs o1 _ or;have hle:=tS (leo hd:h'.le (h'.set nx (Blk.arr (Sh.agg 17) [.agg [.int .i64 l.k, .str l.a.r,trs l.a.o l.a.l, .int .i64 l.op, .int .i64 l.x.op, .str l.x.t.x, .int .i64 l.x.t.w.k, .int .i64 l.x.t.w.n, .str l.x.t.w.s, .sl (.agg 6) l.x.o (l.x.kids.map Ex.v), .int .i64 l.y.op, .str l.y.t.x, .int .i64 l.y.t.w.k, .int .i64 l.y.t.w.n, .str l.y.t.w.s, .sl (.agg 6) l.y.o (l.y.kids.map Ex.v), .int .i64 l.at_]])))
 replace C5:=C5.mono hle
 replace C6:=C6.mono hle
 (repeat' (first|(with_reducible first|refine stp ?_|refine cA ZM ?_|refine sT (fun _=>?_) (fun _=>?_))|((first|(with_reducible refine nC ?_;first|refine kO rfl ?_ ?_|refine aH (C1 _) rfl (aK _) ?_|refine aH (C2 _) rfl (aK _) ?_|refine aH C5 rfl (aK _) ?_|refine aH C6 rfl (aK _) ?_|refine Zx ?_)|(with_reducible refine nH ?_;first|refine kU rfl ?_ ?_|refine bH (D1 _) rfl (aZ _) ?_|refine bH (D2 _) rfl (aZ _) ?_|refine ZX ?_)|refine Zy ?_)<;>try simp only[hm1,n1,z1,z2,p1,p2,q1,q2,e1,e2',go_sem,reduceIte,jA,jB,jC,jD,reduceCtorEq,jE,jF])|refine ZY ?_|omega))
 all_goals refine aC h' (leo hd) ⟨vb ?_,rfl⟩
 all_goals simp_all
set_option maxHeartbeats 4000000
set_option maxHeartbeats 1000000 in
theorem bf(p:ByteArray→Bool)(n:Nat)(l:List ByteArray)(g:Nat)(caps:List V)(h hc:Hp)(nx:Nat)(hn:h n=some (.arr .leaf (l.map V.str)))
 (hcn:hc n=none) (hch:Hp.has hc h) (hcd:aW hc nx) (hp:∀x∈l,aM Tryz.prog g ([V.str x]++caps) hc (.bool (p x))) (hl:l.length≤1000000000):
 aQ Tryz.prog 129 [.rs n .leaf 0 l.length, .fn (.func g) [] caps] h nx fun v h' nx'=>∃zs,v= .rs n .leaf 0 (l.filter fun x=> !(p x)).length∧h'=h.set n (.arr .leaf ((l.filter fun x=> !(p x)).map V.str++zs)):=by
 have aMg:h.set n (.arr .leaf (l.map V.str))=h:=by
  funext x;unfold Hp.set;split
  ·rename_i hx;rw[hx,hn]
  rfl
 refine aB L.aSb fun hd=>?_;have aVv:n<nx:=hd n _ hn;obtain⟨k1,k2⟩:=mz p l;simp only[jL,jM,jA,jB,jN,jO,jP,jQ,Ka];cases aBg:(bE p l==-1) with
 |true=>
  have aAj:=k1.1 aBg
  (repeat' (first|(with_reducible first|refine stp ?_|refine cA ZM ?_|refine sT (fun _=>?_) (fun _=>?_))|((first|(with_reducible refine nC ?_;first|refine kO rfl ?_ ?_|refine aH (sI V.str (fun _=>rfl) wM p n l g caps h hn (fun x hx=>(hp x hx).mono hch) or) (by simp only[go_sem,reduceIte,jA,jB,jC,jD,reduceCtorEq,jE,jF]) (aK _) ?_|refine Zx ?_)|(with_reducible refine nH ?_;first|refine kU rfl ?_ ?_|refine ZX ?_)|refine Zy ?_)<;>try simp only[aBg,go_sem,reduceIte,jA,jB,jC,jD,reduceCtorEq,jE,jF])|refine ZY ?_|omega))
  have hfl:(l.filter fun x=> !(p x))=l:=Ko.2 (fun x hx=>by simp[aAj x hx]);refine aC h (Hp.le_refl _) ⟨[],?_,?_⟩
  ·simp only[hfl,go_sem,reduceIte,jA,jB,jC,jD,reduceCtorEq,jE,jF]
  rw[hfl,List.append_nil,aMg]
 |false=>
  obtain⟨i0,hi0⟩:∃i:Nat,bE p l=i:=by
   cases hf:l.findIdx? p with
   |none=>exact absurd (k1.2 (by simpa using List.findIdx?_eq_none_iff.1 hf)) (by rw[aBg];simp)
   |some j=>exact⟨j,by unfold bE;rw[hf]⟩
  obtain⟨b1,b2,b3⟩:=k2 i0 hi0;have hw0:IntKind.i64.wrap ((i0:Int)+1)=((i0+1:Nat):Int):=by rw[eR]<;>omega
  rw[hi0] at aBg
  (repeat' (first|(with_reducible first|refine stp ?_|refine cA ZM ?_|refine sT (fun _=>?_) (fun _=>?_))|((first|(with_reducible refine nC ?_;first|refine kO rfl ?_ ?_|refine aH (sI V.str (fun _=>rfl) wM p n l g caps h hn (fun x hx=>(hp x hx).mono hch) or) (by simp only[go_sem,reduceIte,jA,jB,jC,jD,reduceCtorEq,jE,jF]) (aK _) ?_|refine Zx ?_)|(with_reducible refine nH ?_;first|refine kU rfl ?_ ?_|refine ZX ?_)|refine Zy ?_)<;>try simp only[aBg,hi0,hw0,go_sem,reduceIte,jA,jB,jC,jD,reduceCtorEq,jE,jF])|refine ZY ?_|omega))
  refine aS (fun q:Nat×Nat×List ByteArray=>aF 42 0 [(0, .rs n .leaf 0 l.length),(1, .fn (.func g) [] caps),(5, .int .i64 q.1),(6, .int .i64 q.2.1)])
   (fun q hp2 nx1=>q.1+1≤q.2.1∧q.2.1≤l.length∧q.2.2.length=l.length∧q.2.2.take q.1=(l.take q.2.1).filter (fun x=> !(p x))∧q.2.2.drop q.1=l.drop q.1∧hp2 n=some (.arr .leaf (q.2.2.map V.str))∧nx≤nx1∧∀x,x≠n→x<nx→hp2 x=h x)
   (fun q=>l.length-q.2.1) (i0,i0+1,l) ⟨Kd _,b1,rfl,?_,rfl,hn,Kd _,fun _ _ _=>rfl⟩ ?_ ?_
  ·dsimp only;rw[Kc b1,Kj,Ko.2 (fun x hx=>by simp[b3 x hx])];simp[b2]
  ·simp only[WkL,aF,jH,jI,jJ,go_sem,reduceIte,jA,jB,jC,jD,reduceCtorEq,jE,jF]
  rintro⟨i,j,xs⟩ hp2 nx1 ⟨a1,a2,a3,a4,a5,a6,a7,a8⟩;generalize hQ:bK _ _ _ _ _=Q0;dsimp only at a1 a2 a3 a4 a5 a6;simp only[aF,go_sem,reduceIte,jA,jB,jC,jD,reduceCtorEq,jE,jF];have aMu:Hp.has hc hp2:=fun m kk hm hbm=>by
   have hmn:m≠n:=fun e2=>by rw[e2,hcn] at hm;cases hm
   rw[a8 m hmn (hcd m _ hm)];exact hch m kk hm hbm
  have hcf:∀m,nx≤m→hc m=none:=fun m hm=>aW.none hcd hm;rcases Ki j l.length with hlt|hge
  ·have hcc:decide ((j:Int)<(l.length:Int))=true:=decide_eq_true or;have hxj:xs[j]'or=l[j]:=by
    have e1:xs[j]'or=(xs.drop i)[j-i]'(by simp;omega):=by simp[show i+(j-i)=j by omega]
    have e2:l[j]=(l.drop i)[j-i]'(by simp;omega):=by simp[show i+(j-i)=j by omega]
    rw[e1,e2];congr 1
   have hg:(xs.map V.str).getD j (.tup [])=V.str l[j]:=by rw[aN V.str xs j or,hxj]
   have hw:IntKind.i64.wrap ((j:Int)+1)=((j+1:Nat):Int):=by rw[eR]<;>omega
   have hw2:IntKind.i64.wrap ((i:Int)+1)=((i+1:Nat):Int):=by rw[eR]<;>omega
   have hnl:n<nx1:=or;have hil:i<l.length:=or;have htk:l.take (j+1)=l.take j++[l[j]]:=Kc hlt
   (repeat' (first|(with_reducible first|refine stp ?_|refine cA ZM ?_|refine sT (fun _=>?_) (fun _=>?_))|((first|(with_reducible refine nC ?_;first|refine kO rfl ?_ ?_|refine fX rfl (hp l[j] (Kg _)) (by simp only[go_sem,reduceIte,jA,jB,jC,jD,reduceCtorEq,jE,jF]) (by repeat (first|exact aMu|refine Aa ?_ (by first|exact hcn|exact hcf _ or) _)) ?_|refine Zx ?_)|(with_reducible refine nH ?_;first|refine kU rfl ?_ ?_|refine ZX ?_)|refine Zy ?_)<;>try simp only[hcc,hg,hw,hw2,hnl,hil,hlt,a6,a3,jK,jG,go_sem,reduceIte,jA,jB,jC,jD,reduceCtorEq,jE,jF])|refine ZY ?_|omega))
   ·rename_i hx;have hx:p l[j]=false:=by simpa using hx
    rw[←hQ];refine aG (i+1,j+1,xs.set i l[j]) Zw ⟨Zw,Zw,by simpa using a3,?_,?_,?_,or,fun x hxn hxl=>?_⟩ ?_
    ·dsimp only;rw[htk,Kj,←a4,Kc (by simp;omega),List.getElem_set_self,List.take_set_of_le (Kd _)];simp[hx]
    ·dsimp only;rw[List.drop_set_of_lt or];have:=congrArg (Ku 1) a5;rwa [Kt,Kt] at this
    ·simp only[hnl,go_sem,reduceIte,jA,jB,jC,jD,reduceCtorEq,jE,jF];rw[List.map_set,aN V.str xs i or];rfl
    ·have h1:(x=nx1)=False:=eq_false or;simp only[hxn,h1,go_sem,reduceIte,jA,jB,jC,jD,reduceCtorEq,jE,jF];exact a8 x hxn hxl
    simp only[WkL,aF,jH,jI,jJ,go_sem,reduceIte,jA,jB,jC,jD,reduceCtorEq,jE,jF]
   rename_i hx;have hx:p l[j]=true:=by simpa using hx
   rw[←hQ];refine aG (i,j+1,xs) Zw ⟨Zw,Zw,a3,?_,a5,?_,or,fun x hxn hxl=>?_⟩ ?_
   ·dsimp only;rw[htk,Kj,←a4];simp[hx]
   ·exact a6
   ·exact a8 x hxn hxl
   simp only[WkL,aF,jH,jI,jJ,go_sem,reduceIte,jA,jB,jC,jD,reduceCtorEq,jE,jF]
  have hcc:decide ((j:Int)<(l.length:Int))=false:=decide_eq_false or;rw[show j=l.length by omega,Ks] at a4;have hil:i<l.length:=or;have aTG:(i=l.length)=False:=eq_false or;refine aue hcc ?_;rw[←hQ];refine aue (ee4 aTG hil a6 a3) ?_;have hlen:(l.filter fun x=> !(p x)).length=i:=by rw[←a4];simp;omega
  refine aC (h.set n (.arr .leaf ((l.filter fun x=> !(p x)).map V.str++(List.replicate (l.length-i) (.str ⟨#[]⟩)++(xs.map V.str).drop (i+(l.length-i)))))) ?_ ⟨_,?_,rfl⟩
  ·intro x b hxb;by_cases hxn:x=n
   ·subst hxn;simp only[go_sem,reduceIte,jA,jB,jC,jD,reduceCtorEq,jE,jF] at hxb⊢;rw[←hxb,←a4,List.map_take,Kp]
   have hxl:x<nx:=hd x b (by simpa only[Hp.set,if_neg hxn] using hxb);simp only[hxn,go_sem,reduceIte,jA,jB,jC,jD,reduceCtorEq,jE,jF] at hxb⊢;rw[a8 x hxn hxl];exact hxb
  simp only[hlen,Nat.sub_zero,go_sem,reduceIte,jA,jB,jC,jD,reduceCtorEq,jE,jF]
theorem nn(p:ByteArray→Bool)(g:Nat)(caps:List V)(h:Hp):
 aM Tryz.prog 129 [.sl .leaf .nil [], .fn (.func g) [] caps] h (.sl .leaf .nil []):=by
 refine aJ (fun L=>by simp[V.names,bD]) fun h' nx hh=>aB L.aSb fun hd=>?_;have aBg:(bE p ([]:List ByteArray)==-1)=true:=by simp[bE]
 have hi:aM Tryz.prog 173 [.sl .leaf .nil [], .fn (.func g) [] caps] h' (.int .i64 (bE p ([]:List ByteArray))):=by
  have:=lY V.str (fun _=>rfl) wM p .nil [] g caps h' (fun x hx=>by cases hx) Zm;simpa using this
 simp only[jL,jM,jA,jB,jN,jO,jP,jQ,Ka];have C5:=hi;refine aue aBg ?_;exact aC h' (Hp.le_refl _) ⟨rfl,rfl⟩
theorem j3(s:List ByteArray)(n:Nat)(es:List ME)(c:Nat)(h:Hp)(hm:h n=some (.mp es c))(hs:fJ es s)(b:Bool)(p q:Nat)(hp:h p=some (.arr .leaf [.map n]))(hq:h q=some (.arr .leaf [.bool b]))(x:ByteArray):aM Tryz.prog 130 [.str x, .ptr p .leaf 0 0, .ptr q .leaf 0 0] h (.bool (!(cD x s==b))):=by
 refine aJ (fun L=>trivial) fun h' nx hh=>aB L.aT3 fun hd=>?_;simp only[jL,jM,jA,jB,jN,jO,jP,jQ,Ka];have hm1:=hh _ _ hm rfl;have hp1:=hh _ _ hp rfl;have hq1:=hh _ _ hq rfl;have n1:n<nx:=hd _ _ hm1;have n2:p<nx:=hd _ _ hp1;have n3:q<nx:=hd _ _ hq1;obtain⟨r,m,q1,q2,q3,q4,q5⟩:=pF hs x;have hb:decide (0<m)=cD x s:=by
  cases k:cD x s with
  |true=>exact dct (by have:m≠0:=fun e=>(by rw[q5.1 e] at k;cases k);omega)
  |false=>exact dcf (by have:=q5.2 k;omega)
 have hv:veq (.plain .leaf [.bool]) (.bool (cD x s)) (.bool b)=some (cD x s==b):=rfl;refine aue (e7 hm1 hp1 hq1 q1 q2 hb hv) ?_;exact aC h' (leo hd) ⟨rfl,rfl⟩
def dU(r:Ru)(s:List ByteArray)(b:Bool):List ByteArray:=r.vars.filter fun v=>cD v s==b
theorem xM(r:Ru)(hr:eQ r=true)(s:List ByteArray)(n:Nat)(es:List ME)(c:Nat)(h:Hp)(hm:h n=some (.mp es c))(hs:fJ es s)(b:Bool):aM Tryz.prog 80 [r.v, .map n, .bool b] h (.sl .leaf (frO r.vars) ((dU r s b).map V.str)):=by
 have hnm:∀L,(V.sl .leaf (frO r.vars) ((dU r s b).map V.str)).names L:=fun L=>⟨fun m e=>(by unfold frO at e;split at e<;>cases e),bB (f:=V.str) (fun _=>trivial) _⟩;refine dV hnm fun h' nx hh=>aB L.aUo fun hd=>?_;have hm1:=hh _ _ hm rfl;have n1:n<nx:=hd _ _ hm1;have hvl:r.vars.length≤16777270:=by have:=jn hr r.b.length;rwa [Ks] at this
 simp only[jL,jM,jA,jB,jN,jO,jP,jQ,Ka];obtain⟨X,hX⟩:∃X,r.v=X:=⟨_,rfl⟩;have hf:X.fits (.agg 6)=true:=by rw[←hX];rfl
 have hV:=fun h nx=>se r hr h nx;rw[hX] at hV⊢;refine bQ ?_;generalize hR1:lP _ _=R1;refine aue (e2 hf n1) ?_;rw[←hR1];clear hR1;refine aP (bQ ?_);generalize hRC:lP _ _=RC;refine aue (e2 hf n1) ?_;refine bG ((hV _ (nx+3)).dom.mono ?_);rintro v h1 nx1 aAn ⟨⟨aA2,hsm⟩,hd1,_⟩;unfold cN;refine Zn ?_;have hb0:h1 nx=some (.arr (.agg 6) [X]):=by rw[hsm nx or];simp only[go_sem,reduceIte,jA,jB,jC,jD,reduceCtorEq,jE,jF]
 have hb1:h1 (nx+1)=some (.arr .leaf [.map n]):=by rw[hsm (nx+1) or];simp only[go_sem,reduceIte,jA,jB,jC,jD,reduceCtorEq,jE,jF]
 have hb2:h1 (nx+2)=some (.arr .leaf [.bool b]):=by rw[hsm (nx+2) or];simp only[go_sem,reduceIte,jA,jB,jC,jD,reduceCtorEq,jE,jF]
 have aB5:h'.le h1:=fun m bl e=>by
  have:=hd m bl e;rw[hsm m or];simp only[Hp.set];rw[if_neg or,if_neg or,if_neg or];exact e
 have hm2:h1 n=some (.mp es c):=aB5 _ _ hm1;rcases aA2 with⟨q1,rfl⟩|⟨q1,id,q2,rfl,q3⟩
 ·have hv0:r.vars=[]:=by simpa using q1
  refine au ?_;refine aH (nn (fun x=> !(cD x s==b)) _ _ _) rfl (aK _) ?_;refine Zn ?_;refine au ?_;rw[←hRC];refine au ?_;refine aC h1 (Hp.le_refl _) ⟨?_,aB5⟩;unfold dU;simp only[hv0,go_sem,reduceIte,jA,jB,jC,jD,reduceCtorEq,jE,jF];rfl
 have hid:id<nx1:=hd1 _ _ q3;refine au ?_;have hlm:(r.vars.map V.str).length=r.vars.length:=jK ..;rw[hlm]
 refine bG ((bf (fun x=> !(cD x s==b)) id r.vars _ _ h1 (h1.del id) nx1 q3 (by simp[Hp.del]) (fun m bl e _=>by simp only[Hp.del] at e;split at e<;>first|cases e|exact e) (fun m bl e=>by simp only[Hp.del] at e;split at e<;>first|cases e|exact hd1 m bl e)
  (fun x _=>j3 s n es c _ (by simp only[Hp.del];rw[if_neg or];exact hm2) hs b (nx+1) (nx+2) (by simp only[Hp.del];rw[if_neg or];exact hb1) (by simp only[Hp.del];rw[if_neg or];exact hb2) x) or).mono ?_)
 rintro v h2 nx2 aAd ⟨zs,rfl,rfl⟩;unfold cN;refine Zn ?_;refine au ?_;rw[←hRC];have hfl:(r.vars.filter fun x=> !!(cD x s==b))=dU r s b:=by simp[dU]
 rw[hfl];refine fF (iI (t:=6) (n:=id) (k:= .leaf) (off:=0) (len:=(dU r s b).length) (es:=(dU r s b).map V.str++zs) rfl (by simp only[go_sem,reduceIte,jA,jB,jC,jD,reduceCtorEq,jE,jF]) Zm) ?_;have htk:(Ku 0 ((dU r s b).map V.str++zs)).take (dU r s b).length=(dU r s b).map V.str:=by rw[List.drop_zero,List.take_append_of_le_length Zm];exact Kk Zm
 rw[htk];refine au ?_;have hne:r.vars≠ []:=fun e=>q1 (by rw[e];rfl);have hfr:frO r.vars= .free:=by cases hv:r.vars with|nil=>exact absurd hv hne|cons a l=>rfl
 refine aC _ (Hp.le_refl _) ⟨?_,fun m bl e=>?_⟩
 ·simp only[hfr,go_sem,reduceIte,jA,jB,jC,jD,reduceCtorEq,jE,jF];rfl
 have:=hd m bl e;simp only[Hp.del,Hp.set];rw[if_neg or,if_neg or];exact aB5 _ _ e
end Go.Proofs.YtgbiopfghdilnaaGreatDoor
