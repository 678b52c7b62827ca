/-
Texts of this proof,one behind the other. No conditions.
-/
import Derived.Test.YtlhedpgobaellaaGreatDoorKhb
import Derived.Test.YtlhedpgobaellaaGreatDoorKha
open List renaming getD_eq_getElem?_getD→Ka,take_succ_eq_append_getElem→Kb,mem_of_find?_eq_some→Kc,take_of_length_le→Kd,getElem_mem→Kf,mem_append→Kg,getElem?_eq_getElem→Kh,find?_some→Kj,length_append→Km,filter_append→Ko,getElem?_append_left→Kp,findIdx?_eq_none_iff→Kq,take_length→Ku,filter_eq_self→Kz,find?_eq_none→KA,append_assoc→KC,length_take→KD,filter_cons→KE,append_nil→KF,drop_drop→KG,drop→KH
open Nat renaming mul_le_mul_right→Ke,le_refl→Ki,lt_or_ge→Kk,reduceAdd→Ks,reduceSub→Kt,reduceLeDiff→Kv,reduceEqDiff→Kw,zero_le→Ky,reduceLT→KB
open Int renaming reduceToNat→Kx
open Nat renaming reduceAdd→jA,reduceSub→jB,reduceLT→jC,reduceLeDiff→jD,reduceEqDiff→jE
open Int renaming reduceToNat→jF,toNat_natCast→jG,natCast_add→jH,natCast_one→jI,natCast_zero→jJ
open List renaming length_map→jK,length_cons→jL,length_nil→jM,nil_append→jQ
set_option linter.all false
set_option maxHeartbeats 8000000
namespace Go.Proofs.YtlhedpgobaellaaGreatDoor
open Go.RowKit Go.Sort
attribute [local irreducible] IntKind.wrap
def hZ(es:List ME)(l:List ByteArray):Prop:=∀x:ByteArray,match bT (.plain .leaf [.str]) (.str x) es with
 |some none=>x∉l
 |some (some j)=>j<es.length∧x∈l∧∃n:Int,(es.getD j default).v= .int .i64 n∧1≤n∧n≤l.length
 |none=>False
theorem lf:hZ [] []:=fun x=>by simp[bT]
theorem fe(e:pO)(k:V):∀(a b:List ME),a.map ME.k=b.map ME.k→bT e k a=bT e k b
 | [],[],_=>rfl
 |x::a,y::b,h=>by
  simp only[List.map_cons,List.cons.injEq] at h;simp only[bT,h.1,fe e k a b h.2]
theorem mw(e:pO)(k:V):∀(l:List ME) (j:Nat),bT e k l=some (some j)→veq e k (l.getD j default).k=some true
 | [],j,h=>by cases h
 |x::l,j,h=>by
  simp only[bT] at h;cases hv:veq e k x.k with
  |none=>rw[hv] at h;cases h
  |some b=>
   rw[hv] at h;cases b with
   |true=>cases h;exact hv
   |false=>
    simp only[Option.map_eq_some_iff] at h;obtain⟨o,h1,i,rfl,rfl⟩:=h;exact mw e k l i h1
theorem yi{x:ByteArray}{v:V}(h:veq (.plain .leaf [.str]) (.str x) v=some true):v= .str x:=by
 simp only[veq] at h;split at h
 ·rename_i hf;cases v<;>first|(simp[V.fits,V.aAE] at hf;done)|simp only[V.cells,iB,iC,reduceCtorEq,Option.some.injEq] at h
  rename_i s;rw[dV] at h;rw[of_decide_eq_true h]
 cases h
theorem B1{es:List ME}{l:List ByteArray}{x:ByteArray}{b:Nat}(h:hZ es l)(hx:bT (.plain .leaf [.str]) (.str x) es=some none):hZ (es++[⟨.str x, .int .i64 1,b⟩]) (l++[x]):=fun y=>by
 have hy:=h y;rw[yK];cases hm:bT (.plain .leaf [.str]) (.str y) es with
 |none=>rw[hm] at hy;exact hy.elim
 |some o=>
  rw[hm] at hy;cases o with
  |some j=>
   obtain⟨h1,h2,n,h3,h4,h5⟩:=hy;refine⟨by simp;omega,by simp[h2],n,?_,h4,by simp;omega⟩;rw[←h3];simp only[Ka];rw[Kp h1]
  |none=>
   simp only[ph] at hy⊢;by_cases e:y=x
   ·rw[decide_eq_true e];exact⟨Zm,by simp[e],1,by simp[Ka],or,by simp;omega⟩
   rw[decide_eq_false e];simp[hy,e]
theorem B0{es:List ME}{l:List ByteArray}{x:ByteArray}{j:Nat}{n:Int}(h:hZ es l)(hx:bT (.plain .leaf [.str]) (.str x) es=some (some j))(hn:(es.getD j default).v= .int .i64 n)(b:Nat):hZ (es.set j ⟨.str x, .int .i64 (n+1),b⟩) (l++[x]):=fun y=>by
 have hk:=yi (mw _ _ _ _ hx);have hX:=h x;rw[hx] at hX;obtain⟨p1,p2,n',p3,p4,p5⟩:=hX;rw[hn] at p3;obtain rfl:n=n':=by injection p3
 have aPi:bT (.plain .leaf [.str]) (.str y) (es.set j ⟨.str x, .int .i64 (n+1),b⟩)=bT (.plain .leaf [.str]) (.str y) es:=by
  refine fe _ _ _ _ (List.ext_getElem Zm fun i h1 h2=>?_);simp only[List.getElem_map,List.getElem_set];split
  ·rename_i e;subst e;rw[Ka,Kh p1] at hk;exact hk.symm
  rfl
 have hy:=h y;rw[aPi];cases hm:bT (.plain .leaf [.str]) (.str y) es with
 |none=>rw[hm] at hy;exact hy.elim
 |some o=>
  rw[hm] at hy;cases o with
  |none=>
   have:y≠x:=fun e=>hy (e▸p2);simp[hy,this]
  |some i=>
   obtain⟨h1,h2,m,h3,h4,h5⟩:=hy;refine⟨by simpa using h1,by simp[h2],?_⟩;by_cases e:j=i
   ·subst e;refine⟨n+1,?_,or,by simp;omega⟩;rw[Ka,List.getElem?_set_self p1];rfl
   refine⟨m,?_,h4,by simp;omega⟩;rw[←h3];simp only[Ka];rw[List.getElem?_set_ne e]
theorem sO{es:List ME}{l:List ByteArray}(h:hZ es l)(x:ByteArray):∃r n,bT (.plain .leaf [.str]) (.str x) es=some r∧jW false (.int .i64 0) es r= .int .i64 n∧0≤n∧n≤l.length∧(n=0↔cR x l=false):=by
 have hx:=h x;cases hm:bT (.plain .leaf [.str]) (.str x) es with
 |none=>rw[hm] at hx;exact hx.elim
 |some o=>
  rw[hm] at hx;cases o with
  |none=>exact⟨none,0,rfl,rfl,or,or,by simp[lK.2 hx]⟩
  |some j=>
   obtain⟨h1,h2,n,h3,h4,h5⟩:=hx;refine⟨some j,n,rfl,h3,or,h5,⟨fun e=>or,fun e=>absurd h2 (lK.1 e)⟩⟩
section
variable{P:Program}{Q:St→Prop}{s:St}{dst:Option Nat}{r:List aA}{x:aK}
theorem Cx{kS:Sh}{ks:List LK}{n c j:Nat}{es:List ME}{k v:aK}(hk:(k.ev s.sl).fits kS=true)(hx:x.ev s.sl= .map n)(hn:s.h n=some (.mp es c))(hf:bT (.plain kS ks) (k.ev s.sl) es=some (some j))
 (h2:aY P r Q ⟨bL s.sl dst V.undef,s.h.set n (.mp (es.set j ⟨k.ev s.sl,v.ev s.sl,(es.getD j default).b⟩) c),s.nx+1⟩):aY P (⟨dst,none, .mp (.put kS ks x k v)⟩::r) Q s:=by
 unfold aY;simp only[LOp.run,LOp.sem,MOp.sem,hx,hn,hf];exact⟨hk,h2⟩
end
theorem tY(o:Own)(vs:List ByteArray)(l:List ByteArray)(hl:l.length+vs.length≤1000000000)(n:Nat)(es:List ME)(c:Nat)(h:Hp)(nx:Nat)(hm:h n=some (.mp es c))(hs:hZ es l):
 aR Tryz.prog 185 [.map n, .sl .leaf o (vs.map V.str)] h nx fun v h' nx'=>∃es' c',h' n=some (.mp es' c')∧hZ es' (l++vs)∧∀m,m<nx→m≠n→h' m=h m:=by
 refine aB L.aXU fun hd=>?_;refine ZK ?_;have hn2:n<nx:=hd _ _ hm;refine aue (@jK ByteArray V) ?_
 refine aP (fun i:Nat=>aD 17 0 [(0, .map n),(6, .sl .leaf o (vs.map V.str)),(7, .int .i64 vs.length),(8, .int .i64 i)])
  (fun i hp nx1=>i≤vs.length∧nx≤nx1∧(∃es c,hp n=some (.mp es c)∧hZ es (l++vs.take i))∧∀m,m<nx→m≠n→hp m=h m)
  (fun i=>vs.length-i) 0 ⟨Ky _,Ki _,⟨es,c,hm,by simpa using hs⟩,fun _ _ _=>rfl⟩ (by simp only[WkL,aD,jH,jI,jJ,jK,go_sem,reduceIte,jA,jB,jC,jD,reduceCtorEq,jE,jF]) ?_
 rintro i hp nx1 ⟨hi,hnx,⟨es1,c1,hm1,hs1⟩,hsm⟩;generalize hQ:aZ _ _ _ _ _=Q0;refine Zk ?_;rcases Kk i vs.length with hlt|hge
 ·have hc:decide ((i:Int)<(vs.length:Int))=true:=dct;have hg:=aL V.str vs i hlt;have hw:IntKind.i64.wrap ((i:Int)+1)=((i+1:Nat):Int):=wrp;have htk:l++vs.take (i+1)=(l++vs.take i)++[vs[i]]:=by rw[Kb hlt,KC]
  have hlen:(l++vs.take i).length≤l.length+i:=by rw[Km,KD];omega
  have hn3:n<nx1:=or;generalize vs[i]=x at hg htk;have hx:=hs1 x;cases hf:bT (.plain .leaf [.str]) (.str x) es1 with
  |none=>rw[hf] at hx;exact hx.elim
  |some r=>
   cases r with
   |none=>
    have hg0:jW false (.int .i64 0) es1 none= .int .i64 0:=rfl;have hw1:IntKind.i64.wrap ((0:Int)+1)=1:=wrp;have hs2:=B1 (b:=c1) hs1 hf;refine aue (e9 hc hg hlt hm1 hf hg0 hw1 (@jK ByteArray V) jG) ?_;refine mK (es:=es1) (c:=c1) (n:=n) rfl rfl (by simp only[hm1,go_sem,reduceIte,jA,jB,jC,jD,reduceCtorEq,jE,jF]) hf ?_;refine Zn ?_;refine aue hw ?_;rw[←hQ];refine aF (i+1) or ⟨hlt,or,⟨_,_,by simp only[go_sem,reduceIte,jA,jB,jC,jD,reduceCtorEq,jE,jF];rfl,by rw[htk];exact hs2⟩,fun m h1 h2=>?_⟩ (by simp only[WkL,aD,jH,jI,jJ,go_sem,reduceIte,jA,jB,jC,jD,reduceCtorEq,jE,jF]);simp only[Hp.set];rw[if_neg h2];exact hsm m h1 h2
   |some j=>
    rw[hf] at hx;obtain⟨p1,p2,m,p3,p4,p5⟩:=hx;have hg0:jW false (.int .i64 0) es1 (some j)= .int .i64 m:=p3;have hw1:IntKind.i64.wrap (m+1)=m+1:=wrp;have hs2:=B0 hs1 hf p3 (es1.getD j default).b;refine aue (e9 hc hg hlt hm1 hf hg0 hw1 (@jK ByteArray V) jG) ?_;refine Cx (es:=es1) (c:=c1) (n:=n) (j:=j) rfl rfl (by simp only[hm1,go_sem,reduceIte,jA,jB,jC,jD,reduceCtorEq,jE,jF]) hf ?_;refine Zn ?_;refine aue hw ?_;rw[←hQ];refine aF (i+1) or ⟨hlt,or,⟨_,_,by simp only[go_sem,reduceIte,jA,jB,jC,jD,reduceCtorEq,jE,jF];rfl,by rw[htk];exact hs2⟩,fun m h1 h2=>?_⟩ (by simp only[WkL,aD,jH,jI,jJ,go_sem,reduceIte,jA,jB,jC,jD,reduceCtorEq,jE,jF]);simp only[Hp.set];rw[if_neg h2];exact hsm m h1 h2
 have hc:decide ((i:Int)<(vs.length:Int))=false:=dcf;refine aue hc ?_;rw[←hQ];refine au ?_;rw[Kd or] at hs1;exact⟨hp,Hp.le_refl _,es1,c1,hm1,hs1,hsm⟩
def nR(l vs:List ByteArray):Bool:=vs.all fun v=>cR v l
theorem bg:aE Tryz.prog 227=some (LB.aAX .leaf):=Zz
theorem Gr:aE Tryz.prog 251=some (LB.ContainsFunc .leaf 227):=Zz
theorem zb(l:List ByteArray)(hl:l.length≤1000000000)(n:Nat)(es:List ME)(c:Nat)(h:Hp)(hm:h n=some (.mp es c))(hs:hZ es l)(p:Nat)(hp:h p=some (.arr .leaf [.map n]))(x:ByteArray):aM Tryz.prog 252 [.str x, .ptr p .leaf 0 0] h (.bool (!cR x l)):=by
 refine aJ (fun L=>trivial) fun h' nx hh=>aB L.aWk fun hd=>?_;refine ZK ?_;have hm1:=hh _ _ hm rfl;have hp1:=hh _ _ hp rfl;have n1:n<nx:=hd _ _ hm1;have n2:p<nx:=hd _ _ hp1;obtain⟨r,m,q1,q2,q3,q4,q5⟩:=sO hs x;have hb:(m==0)= !cR x l:=by
  cases k:cR x l with
  |true=>exact bqf (fun e=>by rw[q5.1 e] at k;cases k)
  |false=>exact bqt (q5.2 k)
 refine aue (e6 hm1 hp1 q1 q2 hb n1) ?_;exact aC h' (leo hd) ⟨rfl,rfl⟩
theorem xZ(l:List ByteArray)(hl:l.length≤1000000000)(n:Nat)(es:List ME)(c:Nat)(h:Hp)(hm:h n=some (.mp es c))(hs:hZ es l)(o:Own)(vs:List ByteArray)(hv:vs.length≤1000000000):aM Tryz.prog 229 [.map n, .sl .leaf o (vs.map V.str)] h (.bool (nR l vs)):=by
 refine aJ (fun L=>trivial) fun h' nx hh=>aB L.aW6 fun hd=>?_;refine ZK ?_;have hm1:=hh _ _ hm rfl;have n1:n<nx:=hd _ _ hm1;refine aue trivial ?_;refine aH (gU V.str (fun _=>rfl) Gr bg (fun x=> !cR x l) o vs _ _ (h'.set nx (.arr .leaf [.map n])) (fun x _=>zb l hl n es c _ (by simp only[Hp.set];rw[if_neg or];exact hm1) hs nx (by simp[Hp.set]) x) hv) rfl (aI _) ?_;refine Zn ?_;refine au ?_;exact aC h' (leo hd) ⟨by unfold nR;rw[←rk];rfl,rfl⟩
def eB(e:Ex):ByteArray:=if e.op≠0∨e.kids≠ [] then ⟨#[]⟩ else e.t.x
theorem jg(e:Ex)(h:Hp):aM Tryz.prog 228 [e.v] h (.str (eB e)):=by
 refine aJ (fun L=>trivial) fun h' nx hh=>aB L.aW7 fun hd=>?_;obtain⟨op,t,o,ks⟩:=e;rw[Ex.aAq];refine ZK ?_;unfold eB;by_cases h1:op=0
 ·have g1:(op != 0)=false:=bnf;cases ks with
  |nil=>
   have hk:decide ((0:Int)<((0:Nat):Int))=false:=rfl;have hk':decide (((0:Nat):Int)>0)=false:=rfl;refine aue (e8 Ex.cs.eq_1 Ex.op.eq_1 Ex.t.eq_1 Ex.o.eq_1 Ex.kids.eq_1 g1 hk hk') ?_;refine aC h' (leo hd) ⟨?_,rfl⟩;rw[if_neg (by simp[h1,Ex.op,Ex.kids])];rfl
  |cons a r=>
   obtain⟨ks,hks⟩:∃ks,ks=a::r:=⟨_,rfl⟩;have hk:decide ((0:Int)<(ks.length:Int))=true:=dct (by rw[hks];simp);rw[←hks];refine aue (e8 Ex.cs.eq_1 Ex.op.eq_1 Ex.t.eq_1 Ex.o.eq_1 Ex.kids.eq_1 g1 hk (@jK Ex V)) ?_;refine aC h' (leo hd) ⟨?_,rfl⟩;rw[if_pos (.inr (by rw[hks];simp[Ex.kids]))];rfl
 have g1:(op != 0)=true:=bnt;refine aue (e6 Ex.cs.eq_1 Ex.op.eq_1 Ex.t.eq_1 Ex.o.eq_1 Ex.kids.eq_1 g1) ?_;refine aC h' (leo hd) ⟨?_,rfl⟩;rw[if_pos (.inl h1)];rfl
def iE(s:List ByteArray)(l:Li):Bool:=decide (l.k=3∧l.op=1)&&
 ((decide ((eB l.x).size≠0)&& !cR (eB l.x) s&&nR s (nmL [] l.y.ts))||(decide ((eB l.y).size≠0)&& !cR (eB l.y) s&&nR s (nmL [] l.x.ts)))
theorem de(s:List ByteArray)(hl:s.length≤1000000000)(n:Nat)(es:List ME)(c:Nat)(h:Hp)(hm:h n=some (.mp es c))(hs:hZ es s)(l:Li)(hr:bO l=true):aM Tryz.prog 186 [.map n,l.v] h (.bool (iE s l)):=by
 refine aJ (fun L=>trivial) fun h' nx hh=>aB L.aXT fun hd=>?_;rw[Li.aAq];refine ZK ?_;have hm1:=hh _ _ hm rfl;have n1:n<nx:=hd _ _ hm1;obtain⟨b1,b2,b3⟩:=gH hr;have b4:=oC b2;have b5:=oC b3;have b6:=nW l.x.ts [];have b7:=nW l.y.ts [];simp only[jM] at b6 b7;have D1:∀h:Hp,aM Tryz.prog 228 [.agg [.int .i64 l.x.op, .str l.x.t.x, .int .i64 l.x.t.w.k, .int .i64 l.x.t.w.n, .str l.x.t.w.s, .sl (.agg 6) l.x.o (l.x.kids.map Ex.v)]] h (.str (eB l.x)):=fun h=>(show V.agg l.x.cs=_ from rfl)▸Ex.aAq l.x▸jg l.x h;have D2:∀h:Hp,aM Tryz.prog 228 [.agg [.int .i64 l.y.op, .str l.y.t.x, .int .i64 l.y.t.w.k, .int .i64 l.y.t.w.n, .str l.y.t.w.s, .sl (.agg 6) l.y.o (l.y.kids.map Ex.v)]] h (.str (eB l.y)):=fun h=>(show V.agg l.y.cs=_ from rfl)▸Ex.aAq l.y▸jg l.y h;obtain⟨o1,ho1⟩:=bX .leaf ((nmL [] l.x.ts).map V.str);obtain⟨o2,ho2⟩:=bX .leaf ((nmL [] l.y.ts).map V.str);have C1:∀h:Hp,aM Tryz.prog 230 [.agg [.int .i64 l.x.op, .str l.x.t.x, .int .i64 l.x.t.w.k, .int .i64 l.x.t.w.n, .str l.x.t.w.s, .sl (.agg 6) l.x.o (l.x.kids.map Ex.v)]] h (.sl .leaf o1 ((nmL [] l.x.ts).map V.str)):=fun h=>(show V.agg l.x.cs=_ from rfl)▸Ex.aAq l.x▸ho1▸BG l.x b2 h;have C2:∀h:Hp,aM Tryz.prog 230 [.agg [.int .i64 l.y.op, .str l.y.t.x, .int .i64 l.y.t.w.k, .int .i64 l.y.t.w.n, .str l.y.t.w.s, .sl (.agg 6) l.y.o (l.y.kids.map Ex.v)]] h (.sl .leaf o2 ((nmL [] l.y.ts).map V.str)):=fun h=>(show V.agg l.y.cs=_ from rfl)▸Ex.aAq l.y▸ho2▸BG l.y b3 h;have z1:=vT (eB l.x);have z2:=vT (eB l.y);obtain⟨r1,m1,p1,p2,p3,p4,p5⟩:=sO hs (eB l.x);obtain⟨r2,m2,q1,q2,q3,q4,q5⟩:=sO hs (eB l.y);have e1:(m1==0)= !cR (eB l.x) s:=by
  cases k:cR (eB l.x) s with
  |true=>exact bqf (fun e=>by rw[p5.1 e] at k;cases k)
  |false=>exact bqt (p5.2 k)
 have e2':(m2==0)= !cR (eB l.y) s:=by
  cases k:cR (eB l.y) s with
  |true=>exact bqf (fun e=>by rw[q5.1 e] at k;cases k)
  |false=>exact bqt (q5.2 k)
 unfold iE;generalize eB l.x=A at*;generalize eB l.y=B at*;have C5:aM Tryz.prog 229 [.map n, .sl .leaf o2 ((nmL [] l.y.ts).map V.str)] h' (.bool (nR s (nmL [] l.y.ts))):=xZ s hl n es c h' hm1 hs o2 _ or;have C6:aM Tryz.prog 229 [.map n, .sl .leaf o1 ((nmL [] l.x.ts).map V.str)] h' (.bool (nR s (nmL [] l.x.ts))):=xZ s hl n es c h' hm1 hs o1 _ or;have hle:=yR (leo hd:h'.le (h'.set nx (Blk.arr (Sh.agg 17) [.agg [.int .i64 l.k, .str l.a.r,trs l.a.o l.a.l, .int .i64 l.op, .int .i64 l.x.op, .str l.x.t.x, .int .i64 l.x.t.w.k, .int .i64 l.x.t.w.n, .str l.x.t.w.s, .sl (.agg 6) l.x.o (l.x.kids.map Ex.v), .int .i64 l.y.op, .str l.y.t.x, .int .i64 l.y.t.w.k, .int .i64 l.y.t.w.n, .str l.y.t.w.s, .sl (.agg 6) l.y.o (l.y.kids.map Ex.v), .int .i64 l.at_]])))
 replace C5:=C5.mono hle
 replace C6:=C6.mono hle
 (repeat' (first|(with_reducible first|refine stp ?_|refine cQ ZM ?_|refine xH (fun _=>?_) (fun _=>?_))|((first|(with_reducible refine qD ?_;first|refine nG rfl ?_ ?_|refine aH (C1 _) rfl (aI _) ?_|refine aH (C2 _) rfl (aI _) ?_|refine aH C5 rfl (aI _) ?_|refine aH C6 rfl (aI _) ?_|refine Zx ?_)|(with_reducible refine qI ?_;first|refine nP rfl ?_ ?_|refine bR (D1 _) rfl (bH _) ?_|refine bR (D2 _) rfl (bH _) ?_|refine ZX ?_)|refine Zy ?_)<;>try simp only[hm1,n1,z1,z2,p1,p2,q1,q2,e1,e2',go_sem,reduceIte,jA,jB,jC,jD,reduceCtorEq,jE,jF])|refine ZY ?_|omega))
 all_goals refine aC h' (leo hd) ⟨vb ?_,rfl⟩
 all_goals simp_all
theorem jw(p:ByteArray→Bool)(n:Nat)(l:List ByteArray)(g:Nat)(caps:List V)(h hc:Hp)(nx:Nat)(hn:h n=some (.arr .leaf (l.map V.str)))
 (hcn:hc n=none) (hch:Hp.has hc h) (hcd:aS hc nx) (hp:∀x∈l,aM Tryz.prog g ([V.str x]++caps) hc (.bool (p x))) (hl:l.length≤1000000000):
 aR Tryz.prog 182 [.rs n .leaf 0 l.length, .fn (.func g) [] caps] h nx fun v h' nx'=>∃zs,v= .rs n .leaf 0 (l.filter fun x=> !(p x)).length∧h'=h.set n (.arr .leaf ((l.filter fun x=> !(p x)).map V.str++zs)):=by
 have aFG:h.set n (.arr .leaf (l.map V.str))=h:=by
  funext x;unfold Hp.set;split
  ·rename_i hx;rw[hx,hn]
  rfl
 refine aB L.aOq fun hd=>?_;have bCU:n<nx:=hd n _ hn;obtain⟨k1,k2⟩:=rX p l;refine ZK ?_;cases aBs:(bN p l==-1) with
 |true=>
  have aAc:=k1.1 aBs
  (repeat' (first|(with_reducible first|refine stp ?_|refine cQ ZM ?_|refine xH (fun _=>?_) (fun _=>?_))|((first|(with_reducible refine qD ?_;first|refine nG rfl ?_ ?_|refine aH (wT V.str (fun _=>rfl) bg p n l g caps h hn (fun x hx=>(hp x hx).mono hch) or) (by simp only[go_sem,reduceIte,jA,jB,jC,jD,reduceCtorEq,jE,jF]) (aI _) ?_|refine Zx ?_)|(with_reducible refine qI ?_;first|refine nP rfl ?_ ?_|refine ZX ?_)|refine Zy ?_)<;>try simp only[aBs,go_sem,reduceIte,jA,jB,jC,jD,reduceCtorEq,jE,jF])|refine ZY ?_|omega))
  have hfl:(l.filter fun x=> !(p x))=l:=Kz.2 (fun x hx=>by simp[aAc x hx]);refine aC h (Hp.le_refl _) ⟨[],?_,?_⟩
  ·simp only[hfl,go_sem,reduceIte,jA,jB,jC,jD,reduceCtorEq,jE,jF]
  rw[hfl,KF,aFG]
 |false=>
  obtain⟨i0,hi0⟩:∃i:Nat,bN p l=i:=by
   cases hf:l.findIdx? p with
   |none=>exact absurd (k1.2 (by simpa using Kq.1 hf)) (by rw[aBs];simp)
   |some j=>exact⟨j,by unfold bN;rw[hf]⟩
  obtain⟨b1,b2,b3⟩:=k2 i0 hi0;have hw0:IntKind.i64.wrap ((i0:Int)+1)=((i0+1:Nat):Int):=by rw[fY]<;>omega
  rw[hi0] at aBs
  (repeat' (first|(with_reducible first|refine stp ?_|refine cQ ZM ?_|refine xH (fun _=>?_) (fun _=>?_))|((first|(with_reducible refine qD ?_;first|refine nG rfl ?_ ?_|refine aH (wT V.str (fun _=>rfl) bg p n l g caps h hn (fun x hx=>(hp x hx).mono hch) or) (by simp only[go_sem,reduceIte,jA,jB,jC,jD,reduceCtorEq,jE,jF]) (aI _) ?_|refine Zx ?_)|(with_reducible refine qI ?_;first|refine nP rfl ?_ ?_|refine ZX ?_)|refine Zy ?_)<;>try simp only[aBs,hi0,hw0,go_sem,reduceIte,jA,jB,jC,jD,reduceCtorEq,jE,jF])|refine ZY ?_|omega))
  refine aP (fun q:Nat×Nat×List ByteArray=>aD 42 0 [(0, .rs n .leaf 0 l.length),(1, .fn (.func g) [] caps),(5, .int .i64 q.1),(6, .int .i64 q.2.1)])
   (fun q hp2 nx1=>q.1+1≤q.2.1∧q.2.1≤l.length∧q.2.2.length=l.length∧q.2.2.take q.1=(l.take q.2.1).filter (fun x=> !(p x))∧q.2.2.drop q.1=l.drop q.1∧hp2 n=some (.arr .leaf (q.2.2.map V.str))∧nx≤nx1∧∀x,x≠n→x<nx→hp2 x=h x)
   (fun q=>l.length-q.2.1) (i0,i0+1,l) ⟨Ki _,b1,rfl,?_,rfl,hn,Ki _,fun _ _ _=>rfl⟩ ?_ ?_
  ·dsimp only;rw[Kb b1,Ko,Kz.2 (fun x hx=>by simp[b3 x hx])];simp[b2]
  ·simp only[WkL,aD,jH,jI,jJ,go_sem,reduceIte,jA,jB,jC,jD,reduceCtorEq,jE,jF]
  rintro⟨i,j,xs⟩ hp2 nx1 ⟨a1,a2,a3,a4,a5,a6,a7,a8⟩;generalize hQ:aZ _ _ _ _ _=Q0;dsimp only at a1 a2 a3 a4 a5 a6;refine Zk ?_;have aPo:Hp.has hc hp2:=fun m kk hm hbm=>by
   have hmn:m≠n:=fun e2=>by rw[e2,hcn] at hm;cases hm
   rw[a8 m hmn (hcd m _ hm)];exact hch m kk hm hbm
  have hcf:∀m,nx≤m→hc m=none:=fun m hm=>aS.none hcd hm;rcases Kk j l.length with hlt|hge
  ·have hcc:decide ((j:Int)<(l.length:Int))=true:=decide_eq_true or;have hxj:xs[j]'or=l[j]:=by
    have e1:xs[j]'or=(xs.drop i)[j-i]'(by simp;omega):=by simp[show i+(j-i)=j by omega]
    have e2:l[j]=(l.drop i)[j-i]'(by simp;omega):=by simp[show i+(j-i)=j by omega]
    rw[e1,e2];congr 1
   have hg:(xs.map V.str).getD j (.tup [])=V.str l[j]:=by rw[aL V.str xs j or,hxj]
   have hw:IntKind.i64.wrap ((j:Int)+1)=((j+1:Nat):Int):=by rw[fY]<;>omega
   have hw2:IntKind.i64.wrap ((i:Int)+1)=((i+1:Nat):Int):=by rw[fY]<;>omega
   have hnl:n<nx1:=or;have hil:i<l.length:=or;have htk:l.take (j+1)=l.take j++[l[j]]:=Kb hlt
   (repeat' (first|(with_reducible first|refine stp ?_|refine cQ ZM ?_|refine xH (fun _=>?_) (fun _=>?_))|((first|(with_reducible refine qD ?_;first|refine nG rfl ?_ ?_|refine eA rfl (hp l[j] (Kf _)) (by simp only[go_sem,reduceIte,jA,jB,jC,jD,reduceCtorEq,jE,jF]) (by repeat (first|exact aPo|refine Fb ?_ (by first|exact hcn|exact hcf _ or) _)) ?_|refine Zx ?_)|(with_reducible refine qI ?_;first|refine nP rfl ?_ ?_|refine ZX ?_)|refine Zy ?_)<;>try simp only[hcc,hg,hw,hw2,hnl,hil,hlt,a6,a3,jK,jG,go_sem,reduceIte,jA,jB,jC,jD,reduceCtorEq,jE,jF])|refine ZY ?_|omega))
   ·rename_i hx;have hx:p l[j]=false:=by simpa using hx
    rw[←hQ];refine aF (i+1,j+1,xs.set i l[j]) Zw ⟨Zw,Zw,by simpa using a3,?_,?_,?_,or,fun x hxn hxl=>?_⟩ ?_
    ·dsimp only;rw[htk,Ko,←a4,Kb (by simp;omega),List.getElem_set_self,List.take_set_of_le (Ki _)];simp[hx]
    ·dsimp only;rw[List.drop_set_of_lt or];have:=congrArg (KH 1) a5;rwa [KG,KG] at this
    ·simp only[hnl,go_sem,reduceIte,jA,jB,jC,jD,reduceCtorEq,jE,jF];rw[List.map_set,aL V.str xs i or];rfl
    ·have h1:(x=nx1)=False:=eq_false or;simp only[hxn,h1,go_sem,reduceIte,jA,jB,jC,jD,reduceCtorEq,jE,jF];exact a8 x hxn hxl
    simp only[WkL,aD,jH,jI,jJ,go_sem,reduceIte,jA,jB,jC,jD,reduceCtorEq,jE,jF]
   rename_i hx;have hx:p l[j]=true:=by simpa using hx
   rw[←hQ];refine aF (i,j+1,xs) Zw ⟨Zw,Zw,a3,?_,a5,?_,or,fun x hxn hxl=>?_⟩ ?_
   ·dsimp only;rw[htk,Ko,←a4];simp[hx]
   ·exact a6
   ·exact a8 x hxn hxl
   simp only[WkL,aD,jH,jI,jJ,go_sem,reduceIte,jA,jB,jC,jD,reduceCtorEq,jE,jF]
  have hcc:decide ((j:Int)<(l.length:Int))=false:=decide_eq_false or;rw[show j=l.length by omega,Ku] at a4;have hil:i<l.length:=or;have aZJ:(i=l.length)=False:=eq_false or;refine aue hcc ?_;rw[←hQ];refine aue (ee4 aZJ hil a6 a3) ?_;have hlen:(l.filter fun x=> !(p x)).length=i:=by rw[←a4];simp;omega
  refine aC (h.set n (.arr .leaf ((l.filter fun x=> !(p x)).map V.str++(List.replicate (l.length-i) (.str ⟨#[]⟩)++(xs.map V.str).drop (i+(l.length-i)))))) ?_ ⟨_,?_,rfl⟩
  ·intro x b hxb;by_cases hxn:x=n
   ·subst hxn;simp only[go_sem,reduceIte,jA,jB,jC,jD,reduceCtorEq,jE,jF] at hxb⊢;rw[←hxb,←a4,List.map_take,KC]
   have hxl:x<nx:=hd x b (by simpa only[Hp.set,if_neg hxn] using hxb);simp only[hxn,go_sem,reduceIte,jA,jB,jC,jD,reduceCtorEq,jE,jF] at hxb⊢;rw[a8 x hxn hxl];exact hxb
  simp only[hlen,Nat.sub_zero,go_sem,reduceIte,jA,jB,jC,jD,reduceCtorEq,jE,jF]
theorem w8(p:ByteArray→Bool)(g:Nat)(caps:List V)(h:Hp):
 aM Tryz.prog 182 [.sl .leaf .nil [], .fn (.func g) [] caps] h (.sl .leaf .nil []):=by
 refine aJ (fun L=>by simp[V.names,bM]) fun h' nx hh=>aB L.aOq fun hd=>?_;have aBs:(bN p ([]:List ByteArray)==-1)=true:=by simp[bN]
 have hi:aM Tryz.prog 227 [.sl .leaf .nil [], .fn (.func g) [] caps] h' (.int .i64 (bN p ([]:List ByteArray))):=by
  have:=oJ V.str (fun _=>rfl) bg p .nil [] g caps h' (fun x hx=>by cases hx) Zm;simpa using this
 refine ZK ?_;have C5:=hi;refine aue aBs ?_;exact aC h' (Hp.le_refl _) ⟨rfl,rfl⟩
theorem tj(s:List ByteArray)(n:Nat)(es:List ME)(c:Nat)(h:Hp)(hm:h n=some (.mp es c))(hs:hZ es s)(b:Bool)(p q:Nat)(hp:h p=some (.arr .leaf [.map n]))(hq:h q=some (.arr .leaf [.bool b]))(x:ByteArray):aM Tryz.prog 184 [.str x, .ptr p .leaf 0 0, .ptr q .leaf 0 0] h (.bool (!(cR x s==b))):=by
 refine aJ (fun L=>trivial) fun h' nx hh=>aB L.aXV fun hd=>?_;refine ZK ?_;have hm1:=hh _ _ hm rfl;have hp1:=hh _ _ hp rfl;have hq1:=hh _ _ hq rfl;have n1:n<nx:=hd _ _ hm1;have n2:p<nx:=hd _ _ hp1;have n3:q<nx:=hd _ _ hq1;obtain⟨r,m,q1,q2,q3,q4,q5⟩:=sO hs x;have hb:decide (0<m)=cR x s:=by
  cases k:cR x s with
  |true=>exact dct (by have:m≠0:=fun e=>(by rw[q5.1 e] at k;cases k);omega)
  |false=>exact dcf (by have:=q5.2 k;omega)
 have hv:veq (.plain .leaf [.bool]) (.bool (cR x s)) (.bool b)=some (cR x s==b):=rfl;refine aue (e7 hm1 hp1 hq1 q1 q2 hb hv) ?_;exact aC h' (leo hd) ⟨rfl,rfl⟩
def eF(r:Ru)(s:List ByteArray)(b:Bool):List ByteArray:=r.vars.filter fun v=>cR v s==b
theorem di(r:Ru)(hr:dF r=true)(s:List ByteArray)(n:Nat)(es:List ME)(c:Nat)(h:Hp)(hm:h n=some (.mp es c))(hs:hZ es s)(b:Bool):aM Tryz.prog 120 [r.v, .map n, .bool b] h (.sl .leaf (frO r.vars) ((eF r s b).map V.str)):=by
 have hnm:∀L,(V.sl .leaf (frO r.vars) ((eF r s b).map V.str)).names L:=fun L=>⟨fun m e=>(by unfold frO at e;split at e<;>cases e),bF (f:=V.str) (fun _=>trivial) _⟩;refine gJ hnm fun h' nx hh=>aB L.bAP fun hd=>?_;have hm1:=hh _ _ hm rfl;have n1:n<nx:=hd _ _ hm1;have hvl:r.vars.length≤16777270:=by have:=sf hr r.b.length;rwa [Ku] at this
 refine ZK ?_;obtain⟨X,hX⟩:∃X,r.v=X:=⟨_,rfl⟩;have hf:X.fits (.agg 6)=true:=by rw[←hX];rfl
 have hV:=fun h nx=>AK r hr h nx;rw[hX] at hV⊢;refine bS ?_;generalize hR1:mD _ _=R1;refine aue (e2 hf n1) ?_;rw[←hR1];clear hR1;refine aX (bS ?_);generalize hRC:mD _ _=RC;refine aue (e2 hf n1) ?_;refine aV ((hV _ (nx+3)).dom.mono ?_);rintro v h1 nx1 hle1 ⟨⟨aA2,hsm⟩,hd1,_⟩;unfold bW;refine Zn ?_;have hb0:h1 nx=some (.arr (.agg 6) [X]):=by rw[hsm nx or];simp only[go_sem,reduceIte,jA,jB,jC,jD,reduceCtorEq,jE,jF]
 have hb1:h1 (nx+1)=some (.arr .leaf [.map n]):=by rw[hsm (nx+1) or];simp only[go_sem,reduceIte,jA,jB,jC,jD,reduceCtorEq,jE,jF]
 have hb2:h1 (nx+2)=some (.arr .leaf [.bool b]):=by rw[hsm (nx+2) or];simp only[go_sem,reduceIte,jA,jB,jC,jD,reduceCtorEq,jE,jF]
 have aCN:h'.le h1:=fun m bl e=>by
  have:=hd m bl e;rw[hsm m or];simp only[Hp.set];rw[if_neg or,if_neg or,if_neg or];exact e
 have hm2:h1 n=some (.mp es c):=aCN _ _ hm1;rcases aA2 with⟨q1,rfl⟩|⟨q1,id,q2,rfl,q3⟩
 ·have hv0:r.vars=[]:=by simpa using q1
  refine au ?_;refine aH (w8 (fun x=> !(cR x s==b)) _ _ _) rfl (aI _) ?_;refine Zn ?_;refine au ?_;rw[←hRC];refine au ?_;refine aC h1 (Hp.le_refl _) ⟨?_,aCN⟩;unfold eF;simp only[hv0,go_sem,reduceIte,jA,jB,jC,jD,reduceCtorEq,jE,jF];rfl
 have hid:id<nx1:=hd1 _ _ q3;refine au ?_;have hlm:(r.vars.map V.str).length=r.vars.length:=jK ..;rw[hlm]
 refine aV ((jw (fun x=> !(cR x s==b)) id r.vars _ _ h1 (h1.del id) nx1 q3 (by simp[Hp.del]) (fun m bl e _=>by simp only[Hp.del] at e;split at e<;>first|cases e|exact e) (fun m bl e=>by simp only[Hp.del] at e;split at e<;>first|cases e|exact hd1 m bl e)
  (fun x _=>tj s n es c _ (by simp only[Hp.del];rw[if_neg or];exact hm2) hs b (nx+1) (nx+2) (by simp only[Hp.del];rw[if_neg or];exact hb1) (by simp only[Hp.del];rw[if_neg or];exact hb2) x) or).mono ?_)
 rintro v h2 nx2 aAS ⟨zs,rfl,rfl⟩;unfold bW;refine Zn ?_;refine au ?_;rw[←hRC];have hfl:(r.vars.filter fun x=> !!(cR x s==b))=eF r s b:=by simp[eF]
 rw[hfl];refine dA (lB (t:=6) (n:=id) (k:= .leaf) (off:=0) (len:=(eF r s b).length) (es:=(eF r s b).map V.str++zs) rfl (by simp only[go_sem,reduceIte,jA,jB,jC,jD,reduceCtorEq,jE,jF]) Zm) ?_;have htk:(KH 0 ((eF r s b).map V.str++zs)).take (eF r s b).length=(eF r s b).map V.str:=by rw[List.drop_zero,List.take_append_of_le_length Zm];exact Kd Zm
 rw[htk];refine au ?_;have hne:r.vars≠ []:=fun e=>q1 (by rw[e];rfl);have hfr:frO r.vars= .free:=by cases hv:r.vars with|nil=>exact absurd hv hne|cons a l=>rfl
 refine aC _ (Hp.le_refl _) ⟨?_,fun m bl e=>?_⟩
 ·simp only[hfr,go_sem,reduceIte,jA,jB,jC,jD,reduceCtorEq,jE,jF];rfl
 have:=hd m bl e;simp only[Hp.del,Hp.set];rw[if_neg or,if_neg or];exact aCN _ _ e
instance:Inhabited Am:=⟨⟨⟨#[]⟩, .nil,[]⟩⟩
instance:Inhabited Li:=⟨⟨0,default,0,default,default,0⟩⟩
def eR(s:List ByteArray)(l:Li):Bool:=(decide (l.k≠1)&&nR s l.vars)||iE s l
theorem sK{l:Li}(h:bO l=true):l.vars.length≤2097158:=by
 have h1:=nW l.ts [];have h2:=kH h;simp only[jM] at h1;unfold Li.vars;omega
theorem As(s:List ByteArray)(hl:s.length≤1000000000)(n:Nat)(es:List ME)(c:Nat)(h:Hp)(hm:h n=some (.mp es c))(hs:hZ es s)(l:Li)(hr:bO l=true):aM Tryz.prog 233 [.map n,l.v] h (.bool (eR s l)):=by
 refine aJ (fun L=>trivial) fun h' nx hh=>aB L.aWw fun hd=>?_;have hm1:=hh _ _ hm rfl;have n1:n<nx:=hd _ _ hm1;have b1:=sK hr;obtain⟨o1,ho1⟩:=bX .leaf (l.vars.map V.str);have C1:∀h:Hp,aM Tryz.prog 75 [l.v] h (.sl .leaf o1 (l.vars.map V.str)):=fun h=>ho1▸xP l hr h;have hf:=Li.aAC l;have C2:∀h:Hp,h n=some (.mp es c)→aM Tryz.prog 229 [.map n, .sl .leaf o1 (l.vars.map V.str)] h (.bool (nR s l.vars)):=fun h hm=>xZ s hl n es c h hm hs o1 _ or;have C3:∀h:Hp,h n=some (.mp es c)→aM Tryz.prog 186 [.map n,l.v] h (.bool (iE s l)):=fun h hm=>de s hl n es c h hm hs l hr;obtain⟨T,hT,hk⟩:∃T,l.v= .agg T∧T.getD 0 (.tup [])= .int .i64 l.k:=⟨_,rfl,rfl⟩;rw[hT] at C1 C3 hf⊢;refine ZK ?_;unfold eR;by_cases k1:l.k=1
 ·have g1:(l.k != 1)=false:=bnf;refine aue (e4 hf hk g1 n1) ?_;refine aH (C3 (h'.set nx (.arr (.agg 17) [.agg T])) (by simp only[hm1,n1,go_sem,reduceIte,jA,jB,jC,jD,reduceCtorEq,jE,jF])) rfl (aI _) ?_;refine Zn ?_;refine au ?_;refine aC h' (leo hd) ⟨?_,rfl⟩;simp[k1]
 have g1:(l.k != 1)=true:=bnt;refine aue (e4 hf hk g1 n1) ?_;refine aH (C2 (h'.set nx (.arr (.agg 17) [.agg T])) (by simp only[hm1,n1,go_sem,reduceIte,jA,jB,jC,jD,reduceCtorEq,jE,jF])) rfl (aI _) ?_;refine Zn ?_;cases ka:nR s l.vars with
 |true=>
  refine au ?_;refine aC h' (leo hd) ⟨?_,rfl⟩;simp[k1]
 |false=>
  refine aue (e2 hf n1) ?_;refine aH (C3 (h'.set nx (.arr (.agg 17) [.agg T])) (by simp only[hm1,n1,go_sem,reduceIte,jA,jB,jC,jD,reduceCtorEq,jE,jF])) rfl (aI _) ?_;refine Zn ?_;refine au ?_;refine aC h' (leo hd) ⟨?_,rfl⟩;simp[k1]
theorem zm(r:Ru)(hr:dF r=true)(s:List ByteArray)(hl:s.length≤1000000000)(n:Nat)(es:List ME)(c:Nat)(h:Hp)(hm:h n=some (.mp es c))(hs:hZ es s)(p q:Nat)(hp:h p=some (.arr .leaf [.map n]))(hq:h q=some (.arr (.agg 6) [r.v]))(k:Nat)(hk:k<r.b.length):
 aM Tryz.prog 232 [.int .i64 k, .ptr p .leaf 0 0, .ptr q (.agg 6) 0 0] h (.bool (eR s (r.b.getD k default))):=by
 refine aJ (fun L=>trivial) fun h' nx hh=>aB L.aWx fun hd=>?_;refine ZK ?_;have hm1:=hh _ _ hm rfl;have hp1:=hh _ _ hp rfl;have hq1:=hh _ _ hq rfl;have n2:p<nx:=hd _ _ hp1;have n3:q<nx:=hd _ _ hq1;have hg:=aL Li.v r.b k hk;have hD:r.b.getD k default=r.b[k]:=by rw[Ka,Kh hk];rfl
 have hrl:=(dE hr).2.2 r.b[k] (Kf _);rw[hD];generalize r.b[k]=l at hg hrl;have hf:=Li.aAC l;have C:=As s hl n es c h' hm1 hs l hrl;obtain⟨X,hX⟩:∃X,l.v=X:=⟨_,rfl⟩;rw[hX] at hg hf C;refine aue (e8 hp1 hq1 hg hk Ru.v.eq_1 (@jK Li V) (jG k) (bI hf)) ?_;refine bR C rfl (aI _) ?_;refine Zn ?_;refine au ?_;exact aC h' (leo hd) ⟨rfl,rfl⟩
theorem zl(r:Ru)(p:Nat)(h:Hp)(hp:h p=some (.arr (.agg 6) [r.v]))(k:Nat)(hk:k<r.b.length):
 aM Tryz.prog 234 [.int .i64 k, .ptr p (.agg 6) 0 0] h (.bool (decide ((r.b.getD k default).k=1))):=by
 refine aJ (fun L=>trivial) fun h' nx hh=>aB L.aWv fun hd=>?_;refine ZK ?_;have hp1:=hh _ _ hp rfl;have n2:p<nx:=hd _ _ hp1;have hg:=aL Li.v r.b k hk;have hD:r.b.getD k default=r.b[k]:=by rw[Ka,Kh hk];rfl
 rw[hD];generalize r.b[k]=l at hg;obtain⟨T,hT,hk0⟩:∃T,l.v= .agg T∧T.getD 0 (.tup [])= .int .i64 l.k:=⟨_,rfl,rfl⟩;rw[hT] at hg;refine aue (e8 hp1 hg hk Ru.v.eq_1 (@jK Li V) (jG k) hk0 n2) ?_;exact aC h' (leo hd) ⟨vb (by rw[Bool.eq_iff_iff];simp),rfl⟩
def kV(k:Nat):V:= .int .i64 k
theorem Bf:aE Tryz.prog 231=some (LB.aAX .leaf):=Zz
theorem C9(p:Nat→Bool)(n:Nat)(l:List Nat)(zs:List V)(g:Nat)(caps:List V)(h:Hp)(hn:h n=some (.arr .leaf (l.map kV++zs)))(hp:∀x∈l,aM Tryz.prog g ([kV x]++caps) h (.bool (p x)))(hl:l.length≤1000000000):
 aM Tryz.prog 231 [.rs n .leaf 0 l.length, .fn (.func g) [] caps] h (.int .i64 (bN p l)):=by
 refine aJ (fun L=>trivial) fun h' nx hh=>aB Bf fun hd=>?_;have hn':=hh n _ hn rfl;refine ZK ?_;refine au ?_;refine aP (fun i:Nat=>aD 19 0 [(0, .rs n .leaf 0 l.length),(1, .fn (.func g) [] caps),(7, .int .i64 l.length),(8, .int .i64 i)]) (fun i hp2 _=>i≤l.length∧hp2=h'∧∀x∈l.take i,p x=false) (fun i=>l.length-i) 0 ⟨Ky _,rfl,Zm⟩ ?_ ?_
 ·simp only[WkL,aD,jH,jI,jJ,go_sem,reduceIte,jA,jB,jC,jD,reduceCtorEq,jE,jF]
 rintro i hp2 nx1 ⟨hi,rfl,hno⟩;generalize hQ:aZ _ _ _ _ _=Q0;refine Zk ?_;rcases Kk i l.length with hlt|hge
 ·have hc:decide ((i:Int)<(l.length:Int))=true:=decide_eq_true or;have hg:(l.map kV++zs).getD i (.tup [])= .int .i64 l[i]:=by rw[Ka,Kp (by simpa using hlt),←Ka];exact aL kV l i hlt
  have hap:(l.map kV++zs).length=l.length+zs.length:=Zm;have hlz:i<l.length+zs.length:=or;have hw:IntKind.i64.wrap ((i:Int)+1)=((i+1:Nat):Int):=by rw[fY]<;>omega
  have htk:l.take (i+1)=l.take i++[l[i]]:=Kb hlt
  (repeat' (first|(with_reducible first|refine stp ?_|refine cQ ZM ?_|refine xH (fun _=>?_) (fun _=>?_))|((first|(with_reducible refine qD ?_;first|refine nG rfl ?_ ?_|refine eA rfl (hp l[i] (Kf _)) rfl hh ?_|refine Zx ?_)|(with_reducible refine qI ?_;first|refine nP rfl ?_ ?_|refine ZX ?_)|refine Zy ?_)<;>try simp only[hc,hg,hw,hlt,hn',hap,hlz,Nat.zero_add,jG,jQ,go_sem,reduceIte,jA,jB,jC,jD,reduceCtorEq,jE,jF])|refine ZY ?_|omega))
  ·rename_i hx;rw[←hQ];refine au ?_;refine aC hp2 (Hp.le_refl _) ⟨?_,rfl⟩;refine Zn ?_;rw[bN,(List.findIdx?_eq_some_iff_getElem (p:=p) (xs:=l) (i:=i)).2 ⟨hlt,hx,fun j hj=>by simp[hno l[j] (List.mem_take_iff_getElem.2 ⟨j,or,rfl⟩)]⟩]
  rename_i hx;rw[←hQ];refine aF (i+1) or ⟨hlt,rfl,fun x hx2=>?_⟩ ?_
  ·rw[htk] at hx2;rcases Kg.1 hx2 with h1|h1
   ·exact hno x h1
   simp at h1;rw[h1];exact hx
  simp only[WkL,aD,jH,jI,jJ,go_sem,reduceIte,jA,jB,jC,jD,reduceCtorEq,jE,jF]
 have hc:decide ((i:Int)<(l.length:Int))=false:=decide_eq_false or;refine aue hc ?_;rw[←hQ];refine au ?_;refine aC hp2 (Hp.le_refl _) ⟨?_,rfl⟩;refine Zn ?_;rw[show i=l.length by omega,Ku] at hno;rw[bN,Kq.2 (fun x hx=>by simp[hno x hx])]
def PlL(h:Hp)(n0:Nat)(l:List Nat)(v:V):Prop:=(l=[]∧v= .sl .leaf .nil [])∨∃id zs,n0≤id∧v= .rs id .leaf 0 l.length∧h id=some (.arr .leaf (l.map kV++zs))
theorem PlL.le{h h':Hp}{n0:Nat}{l:List Nat}{v:V}(o:PlL h n0 l v)(hle:h.le h'):PlL h' n0 l v:=o.imp id fun⟨i,z,b,c,d⟩=>⟨i,z,b,c,hle _ _ d⟩
theorem gq(p:Nat→Bool){h:Hp}{n0:Nat}{l:List Nat}{v:V}(hv:PlL h n0 l v)(g:Nat)(caps:List V)(h':Hp)(hh:h.has h')(hp:∀x∈l,aM Tryz.prog g ([kV x]++caps) h' (.bool (p x)))(hl:l.length≤1000000000):
 aM Tryz.prog 231 [v, .fn (.func g) [] caps] h' (.int .i64 (bN p l)):=by
 rcases hv with⟨rfl,rfl⟩|⟨id,zs,h2,rfl,h3⟩
 ·exact oJ kV (fun _=>rfl) Bf p .nil [] g caps h' (fun x hx=>by cases hx) Zm
 exact C9 p id l zs g caps h' (hh _ _ h3 rfl) hp hl
def nA(r:Ru)(s:List ByteArray)(left:List Nat):Int:=
 if 0≤bN (fun k=>eR s (r.b.getD k default)) left then bN (fun k=>eR s (r.b.getD k default)) left else bN (fun k=>decide ((r.b.getD k default).k=1)) left
theorem y4(r:Ru)(hr:dF r=true)(s:List ByteArray)(hl:s.length≤1000000000)(n:Nat)(es:List ME)(c:Nat)(h:Hp)(hm:h n=some (.mp es c))(hs:hZ es s)(left:List Nat)(hleft:∀k∈left,k<r.b.length)(hll:left.length≤1000)(n0:Nat)(v:V)(hv:PlL h n0 left v):
 aM Tryz.prog 188 [.map n,r.v,v] h (.int .i64 (nA r s left)):=by
 refine aJ (fun L=>trivial) fun h' nx hh=>aB L.aXR fun hd=>?_;have hm1:=hh _ _ hm rfl;have n1:n<nx:=hd _ _ hm1;obtain⟨X,hX⟩:∃X,r.v=X:=⟨_,rfl⟩;have hf:X.fits (.agg 6)=true:=by rw[←hX];rfl
 rw[hX];refine ZK ?_;obtain⟨H,hH⟩:∃H,H=(h'.set nx (.arr .leaf [.map n])).set (nx+1) (.arr (.agg 6) [X]):=⟨_,rfl⟩;have hle:h'.le H:=by rw[hH];exact leo hd
 have C5:aM Tryz.prog 231 [v, .fn (.func 232) [] [.ptr nx .leaf 0 0, .ptr (nx+1) (.agg 6) 0 0]] H (.int .i64 (bN (fun k=>eR s (r.b.getD k default)) left)):=
  gq _ hv _ _ _ (pI hh (yR hle)) (fun k hk=>zm r hr s hl n es c H (hle _ _ hm1) hs nx (nx+1) (by rw[hH];simp[Hp.set]) (by rw[hH,hX];simp[Hp.set]) k (hleft k hk)) or
 have C6:aM Tryz.prog 231 [v, .fn (.func 234) [] [.ptr (nx+1) (.agg 6) 0 0]] H (.int .i64 (bN (fun k=>decide ((r.b.getD k default).k=1)) left)):=
  gq _ hv _ _ _ (pI hh (yR hle)) (fun k hk=>zl r (nx+1) H (by rw[hH,hX];simp[Hp.set]) k (hleft k hk)) or
 rw[hH] at C5 C6;unfold nA;by_cases hz:0≤bN (fun k=>eR s (r.b.getD k default)) left
 ·have g1:decide (0≤bN (fun k=>eR s (r.b.getD k default)) left)=true:=dct;refine aue (e2 hf g1) ?_;refine aC h' (leo hd) ⟨?_,rfl⟩;rw[if_pos hz];rfl
 have g1:decide (0≤bN (fun k=>eR s (r.b.getD k default)) left)=false:=dcf;refine aue (e2 hf g1) ?_;refine aC h' (leo hd) ⟨?_,rfl⟩;rw[if_neg hz];rfl
end Go.Proofs.YtlhedpgobaellaaGreatDoor
namespace Go.Proofs.YtlhedpgobaellaaGreatDoor
open Go.RowKit Go.Sort
attribute [local irreducible] IntKind.wrap
theorem lQ{s vs:List ByteArray}:nR s vs=true↔∀v∈vs,v∈s:=by simp[nR,eY]
theorem o7{s t vs:List ByteArray}(h:∀x∈s,x∈t)(ha:nR s vs=true):nR t vs=true:=lQ.2 fun v hv=>h v (lQ.1 ha v hv)
theorem pD{l:Li}{x:ByteArray}:x∈l.vars↔∃t∈l.ts,t.x=x∧t.x.size≠0:=by
 unfold Li.vars;rw[qi];simp
theorem FG{e:Ex}(h:(eB e).size≠0):e.ts=[e.t]∧eB e=e.t.x:=by
 unfold eB at h⊢;split at h
 ·exact absurd rfl h
 rename_i hc;rw[if_neg hc];simp only[not_or,Classical.not_not,ne_eq] at hc;rw[Ex.aCF,if_pos hc.2];exact⟨rfl,rfl⟩
theorem oz{e:Ex}{l:Li}(h:(eB e).size≠0)(hs:∀t∈e.ts,t∈l.ts):eB e∈l.vars:=by
 obtain⟨h1,h2⟩:=FG h;rw[pD];exact⟨e.t,hs _ (by rw[h1];simp),h2.symm,by rw[←h2];exact h⟩
theorem HP{l:Li}:∀t∈l.x.ts,t∈l.ts:=fun t h=>by simp[Li.ts,h]
theorem HO{l:Li}:∀t∈l.y.ts,t∈l.ts:=fun t h=>by simp[Li.ts,h]
theorem BY{s:List ByteArray}{l:Li}(h:iE s l=true):nR s l.vars=false:=by
 unfold iE at h;simp only[Bool.and_eq_true,Bool.or_eq_true,decide_eq_true_eq,Bool.not_eq_true'] at h;rw[←Bool.not_eq_true];intro ha;rcases h.2 with⟨⟨h1,h2⟩,_⟩|⟨⟨h1,h2⟩,_⟩
 ·exact lK.1 h2 (lQ.1 ha _ (oz h1 HP))
 exact lK.1 h2 (lQ.1 ha _ (oz h1 HO))
def qW(b:List Li)(s:List ByteArray):Nat:=(b.filter fun l=> !nR s l.vars).length
theorem Gj(b:List Li){s t:List ByteArray}(h:∀x∈s,x∈t):qW b t≤qW b s:=by
 unfold qW;induction b with
 |nil=>exact Ki _
 |cons a b ih=>
  simp only[KE];cases h1:nR s a.vars with
  |true=>rw[o7 h h1];simpa using ih
  |false=>cases nR t a.vars<;>simp<;>omega
theorem wH{b:List Li}{s:List ByteArray}{l:Li}(hl:l∈b)(h:iE s l=true):qW b (s++l.vars)<qW b s:=by
 have h0:=BY h;have h1:nR (s++l.vars) l.vars=true:=lQ.2 fun v hv=>Kg.2 (.inr hv);unfold qW;induction b with
 |nil=>cases hl
 |cons a b ih=>
  have hm:=Gj b (s:=s) (t:=s++l.vars) fun x hx=>Kg.2 (.inl hx);unfold qW at hm;simp only[KE];rcases List.mem_cons.1 hl with rfl|hl
  ·rw[h0,h1];simp;omega
  have:=ih hl;cases h2:nR s a.vars with
  |true=>rw[o7 (t:=s++l.vars) (fun x hx=>Kg.2 (.inl hx)) h2];simpa using this
  |false=>cases nR (s++l.vars) a.vars<;>simp<;>omega
def kT(b:List Li):Nat→List ByteArray→List ByteArray
 |0,s=>s
 |n+1,s=>match b.find? (iE s) with
  |some l=>kT b n (s++l.vars)
  |none=>s
theorem zY(b:List Li):∀(n k:Nat) (s:List ByteArray),qW b s≤n→qW b s≤k→kT b n s=kT b k s
 |0,0,s,_,_=>rfl
 |0,k+1,s,h,_=>by
  unfold kT;cases hf:b.find? (iE s) with
  |none=>rfl
  |some l=>have:=wH (Kc hf) (Kj hf);omega
 |n+1,0,s,_,h=>by
  unfold kT;cases hf:b.find? (iE s) with
  |none=>rfl
  |some l=>have:=wH (Kc hf) (Kj hf);omega
 |n+1,k+1,s,h1,h2=>by
  unfold kT;cases hf:b.find? (iE s) with
  |none=>rfl
  |some l=>
   have:=wH (Kc hf) (Kj hf);exact zY b n k _ or or
def d6(b:List Li):List ByteArray:=b.flatMap fun l=>if l.k=1 then l.vars else []
def kC(r:Ru):List ByteArray:=kT r.b (qW r.b (d6 r.b)) (d6 r.b)
theorem xj{b:List Li}{s:List ByteArray}{l:Li}(hf:b.find? (iE s)=some l):kT b (qW b s) s=kT b (qW b (s++l.vars)) (s++l.vars):=by
 have hlt:=wH (Kc hf) (Kj hf);obtain⟨m,hm⟩:∃m,qW b s=m+1:=⟨qW b s-1,or⟩;rw[hm];conv=>lhs;unfold kT
 rw[hf];exact zY b _ _ _ or (Ki _)
theorem xp{b:List Li}{s:List ByteArray}(hf:b.find? (iE s)=none)(n:Nat):kT b n s=s:=by
 cases n with
 |zero=>rfl
 |succ n=>unfold kT;rw[hf]
theorem uf{b:List Li}(h:∀l∈b,bO l=true):(d6 b).length≤b.length*2097158:=by
 unfold d6;induction b with
 |nil=>simp
 |cons a b ih=>
  have h1:=ih fun l hl=>h l (List.mem_cons_of_mem _ hl);have h2:=sK (h a List.mem_cons_self);have h3:(if a.k=1 then a.vars else []).length≤2097158:=by
   split
   ·exact h2
   simp
  rw[List.flatMap_cons,Km,jL,Nat.add_mul];omega
theorem Cd(b:List Li)(i:Nat)(h:i<b.length):d6 (b.take (i+1))=d6 (b.take i)++(if b[i].k=1 then b[i].vars else []):=by
 unfold d6;rw[Kb h,List.flatMap_append];simp
theorem Dj{α:Type}{p:α→Bool}{b:List α}{i:Nat}(h:i<b.length)(h1:∀x∈b.take i,p x=false)(h2:p b[i]=true):b.find? p=some b[i]:=by
 have e:b=b.take i++b[i]::b.drop (i+1):=by rw[←List.drop_eq_getElem_cons h,List.take_append_drop]
 conv=>lhs;rw[e]
 rw[List.find?_append,KA.2 (fun x hx=>by simp[h1 x hx]),Option.none_or,List.find?_cons_of_pos h2]
theorem xi(r:Ru)(hr:dF r=true)(h:Hp)(nx:Nat):aR Tryz.prog 121 [r.v] h nx fun v h' nx'=>∃n es c,v= .map n∧nx≤n∧h' n=some (.mp es c)∧hZ es (kC r)∧(kC r).length≤1000000000∧Hp.same nx h h':=by
 refine aB L.bAO fun hd=>?_;obtain⟨b1,b2,b3⟩:=dE hr;refine ZK ?_;refine aue (e3 Ru.v.eq_1 trs.eq_1 (@jK Li V)) ?_;refine pF ?_;refine Zn ?_;refine aue (e3 Ru.v.eq_1 trs.eq_1 (@jK Li V)) ?_
 refine aP (fun i:Nat=>aD 40 0 [(1, .ptr nx (.agg 6) 0 0),(3, .map (nx+1)),(10, .sl (.agg 17) r.o (r.b.map Li.v)),(11, .int .i64 r.b.length),(12, .int .i64 i)])
  (fun i hp nx2=>i≤r.b.length∧nx+2≤nx2∧aS hp nx2∧Hp.same nx h hp∧hp nx=some (.arr (.agg 6) [.agg [.str r.h.r, .sl (.agg 4) r.h.o (r.h.l.map Tr.v), .int .i64 r.g, .int .i64 r.c, .sl (.agg 17) r.o (r.b.map Li.v), .int .i64 r.at_]])∧∃es c,hp (nx+1)=some (.mp es c)∧hZ es (d6 (r.b.take i)))
  (fun i=>r.b.length-i) 0 ⟨Ky _,Zw,by exact dmo hd,by exact kep Hp.same.aAr,by simp only[go_sem,reduceIte,jA,jB,jC,jD,reduceCtorEq,jE,jF],[],0,by simp only[go_sem,reduceIte,jA,jB,jC,jD,reduceCtorEq,jE,jF],by exact lf⟩ (by simp only[WkL,aD,jH,jI,jJ,jK,go_sem,reduceIte,jA,jB,jC,jD,reduceCtorEq,jE,jF]) ?_
 rintro i hp nx2 ⟨hi,hnx,hdm,hsm,hbx,es,c,hme,hse⟩;generalize hQ:aZ _ _ _ _ _=Q0;refine Zk ?_;rcases Kk i r.b.length with hlt|hge
 ·have hc:decide ((i:Int)<(r.b.length:Int))=true:=dct;have f1:(nx=nx2)=False:=fls;have f2:(nx+1=nx2)=False:=fls;have hg:=aL Li.v r.b i hlt;have hw:IntKind.i64.wrap ((i:Int)+1)=((i+1:Nat):Int):=wrp;have htk:=Cd r.b i hlt;have hrl:=b3 r.b[i] (Kf _);have hpl:=uf (b:=r.b.take i) fun l hl=>b3 l (List.mem_of_mem_take hl);have hml:(r.b.take i).length*2097158≤8*2097158:=Ke _ (by rw[KD];omega);generalize r.b[i]=l at hg htk hrl;have hvl:=sK hrl;have hf:=Li.aAC l;obtain⟨o1,ho1⟩:=bX .leaf (l.vars.map V.str);have C1:∀h:Hp,aM Tryz.prog 75 [l.v] h (.sl .leaf o1 (l.vars.map V.str)):=fun h=>ho1▸xP l hrl h;obtain⟨T,hT,hk⟩:∃T,l.v= .agg T∧T.getD 0 (.tup [])= .int .i64 l.k:=⟨_,rfl,rfl⟩;rw[hT] at hg hf C1;by_cases k1:l.k=1
  ·have g1:(l.k==1)=true:=bqt;rw[if_pos k1] at htk;refine aue (e9 hc hg hlt hf hk g1 (@jK Li V) jG hw) ?_;refine aV ((tY o1 l.vars (d6 (r.b.take i)) or (nx+1) es c _ (nx2+2) (by simp only[hme,f2,go_sem,reduceIte,jA,jB,jC,jD,reduceCtorEq,jE,jF]) hse).dom.mono ?_);rintro v h2 nx3 aAS ⟨⟨es2,c2,q1,q2,q3⟩,hd2,_⟩;unfold bW;refine Zn ?_;refine aue (e2 hw hc) ?_;rw[←hQ];refine aF (i+1) or ⟨hlt,or,hd2,fun m hm=>?_,?_,es2,c2,q1,by rw[htk];exact q2⟩ (by simp only[WkL,aD,jH,jI,jJ,go_sem,reduceIte,jA,jB,jC,jD,reduceCtorEq,jE,jF])
   ·rw[q3 m or or,←hsm m hm];have f3:(m=nx2)=False:=fls;simp only[Hp.set,f3,if_false]
   rw[q3 nx or or];simp only[hbx,f1,go_sem,reduceIte,jA,jB,jC,jD,reduceCtorEq,jE,jF]
  have g1:(l.k==1)=false:=bqf;rw[if_neg k1,KF] at htk;refine aue (e9 hc hg hlt hf hk g1 (@jK Li V) jG hw) ?_;rw[←hQ];refine aF (i+1) or ⟨hlt,or,dmo hdm,kep hsm,?_,es,c,?_,by rw[htk];exact hse⟩ (by simp only[WkL,aD,jH,jI,jJ,go_sem,reduceIte,jA,jB,jC,jD,reduceCtorEq,jE,jF])
  ·simp only[hbx,f1,go_sem,reduceIte,jA,jB,jC,jD,reduceCtorEq,jE,jF]
  simp only[hme,f2,go_sem,reduceIte,jA,jB,jC,jD,reduceCtorEq,jE,jF]
 have hc:decide ((i:Int)<(r.b.length:Int))=false:=dcf;refine aue hc ?_;rw[←hQ];refine au ?_;rw[Kd or] at hse;have hpl:=uf (b:=r.b) b3;have hml:r.b.length*2097158≤8*2097158:=Ke _ b2
 --again and again
 refine aP (fun s:List ByteArray=>aD 40 0 [(1, .ptr nx (.agg 6) 0 0),(3, .map (nx+1))])
  (fun s hp nx2=>nx+2≤nx2∧aS hp nx2∧Hp.same nx h hp∧hp nx=some (.arr (.agg 6) [.agg [.str r.h.r, .sl (.agg 4) r.h.o (r.h.l.map Tr.v), .int .i64 r.g, .int .i64 r.c, .sl (.agg 17) r.o (r.b.map Li.v), .int .i64 r.at_]])∧(∃es c,hp (nx+1)=some (.mp es c)∧hZ es s)∧kC r=kT r.b (qW r.b s) s∧s.length+qW r.b s*2097158≤16*2097158)
  (fun s=>qW r.b s) (d6 r.b) ⟨hnx,hdm,hsm,hbx,⟨es,c,hme,hse⟩,rfl,?_⟩ (by simp only[WkL,aD,jH,jI,jJ,go_sem,reduceIte,jA,jB,jC,jD,reduceCtorEq,jE,jF]) ?_
 ·have:qW r.b (d6 r.b)*2097158≤8*2097158:=Ke _ (Nat.le_trans (List.length_filter_le ..) b2);omega
 rintro s hp nx2 ⟨hnx,hdm,hsm,hbx,⟨es,c,hme,hse⟩,aAh,hsl⟩;generalize hQ:aZ _ _ _ _ _=Q0;refine Zk ?_;have n1:nx<nx2:=or;refine aue (e3 hbx n1 (@jK Li V)) ?_
 refine aP (fun i:Nat=>aD 40 0 [(1, .ptr nx (.agg 6) 0 0),(3, .map (nx+1)),(25, .sl (.agg 17) r.o (r.b.map Li.v)),(26, .int .i64 r.b.length),(27, .int .i64 i)])
  (fun i hp nx2=>i≤r.b.length∧nx+2≤nx2∧aS hp nx2∧Hp.same nx h hp∧hp nx=some (.arr (.agg 6) [.agg [.str r.h.r, .sl (.agg 4) r.h.o (r.h.l.map Tr.v), .int .i64 r.g, .int .i64 r.c, .sl (.agg 17) r.o (r.b.map Li.v), .int .i64 r.at_]])∧hp (nx+1)=some (.mp es c)∧∀l∈r.b.take i,iE s l=false)
  (fun i=>r.b.length-i) 0 ⟨Ky _,hnx,hdm,hsm,hbx,hme,Zm⟩ (by simp only[WkL,aD,jH,jI,jJ,jK,go_sem,reduceIte,jA,jB,jC,jD,reduceCtorEq,jE,jF]) ?_
 rintro i hp nx2 ⟨hi,hnx,hdm,hsm,hbx,hme,hno⟩;generalize hQ2:aZ _ _ _ _ _=Q2;refine Zk ?_;rcases Kk i r.b.length with hlt|hge
 ·have hc:decide ((i:Int)<(r.b.length:Int))=true:=dct;have f1:(nx=nx2)=False:=fls;have f2:(nx+1=nx2)=False:=fls;have hg:=aL Li.v r.b i hlt;have hw:IntKind.i64.wrap ((i:Int)+1)=((i+1:Nat):Int):=wrp;have hrl:=b3 r.b[i] (Kf _);obtain⟨l,hl⟩:∃l,r.b[i]=l:=⟨_,rfl⟩;have hvl:=sK hrl;rw[hl] at hg hrl hvl;have hf:=Li.aAC l;obtain⟨o1,ho1⟩:=bX .leaf (l.vars.map V.str);have C1:∀h:Hp,aM Tryz.prog 75 [l.v] h (.sl .leaf o1 (l.vars.map V.str)):=fun h=>ho1▸xP l hrl h;have S:∀h:Hp,h (nx+1)=some (.mp es c)→aM Tryz.prog 186 [.map (nx+1),l.v] h (.bool (iE s l)):=fun h hm=>de s or (nx+1) es c h hm hse l hrl;obtain⟨X,hX⟩:∃X,l.v=X:=⟨_,rfl⟩;rw[hX] at hg hf C1 S;refine aue (e7 hc hg hlt hf (@jK Li V) jG hw) ?_;refine aH (S _ (by simp only[hme,f2,go_sem,reduceIte,jA,jB,jC,jD,reduceCtorEq,jE,jF])) rfl (aI _) ?_;refine Zn ?_;cases hss:iE s l with
  |true=>
   have hfd:=Dj (p:=iE s) hlt hno (by rw[hl];exact hss);rw[hl] at hfd;have aO7:=wH (Kc hfd) hss;refine aue hf ?_;refine aV ((tY o1 l.vars s or (nx+1) es c _ (nx2+2) (by simp only[hme,f2,go_sem,reduceIte,jA,jB,jC,jD,reduceCtorEq,jE,jF]) hse).dom.mono ?_);rintro v h2 nx3 aAS ⟨⟨es2,c2,q1,q2,q3⟩,hd2,_⟩;unfold bW;refine Zn ?_;refine au ?_;rw[←hQ2];refine au ?_;rw[←hQ];refine aF (s++l.vars) aO7 ⟨or,hd2,fun m hm=>?_,?_,⟨es2,c2,q1,q2⟩,by rw[aAh];exact xj hfd,?_⟩ (by simp only[WkL,aD,jH,jI,jJ,go_sem,reduceIte,jA,jB,jC,jD,reduceCtorEq,jE,jF])
   ·rw[q3 m or or,←hsm m hm];have f3:(m=nx2)=False:=fls;simp only[Hp.set,f3,if_false]
   ·rw[q3 nx or or];simp only[hbx,f1,go_sem,reduceIte,jA,jB,jC,jD,reduceCtorEq,jE,jF]
   rw[Km];have:=Ke 2097158 aO7;omega
  |false=>
   refine aue hw ?_;rw[←hQ2];refine aF (i+1) or ⟨hlt,or,dmo hdm,kep hsm,?_,?_,fun x hx=>?_⟩ (by simp only[WkL,aD,jH,jI,jJ,go_sem,reduceIte,jA,jB,jC,jD,reduceCtorEq,jE,jF])
   ·simp only[hbx,f1,go_sem,reduceIte,jA,jB,jC,jD,reduceCtorEq,jE,jF]
   ·simp only[hme,f2,go_sem,reduceIte,jA,jB,jC,jD,reduceCtorEq,jE,jF]
   rw[Kb hlt,Kg,List.mem_singleton] at hx;rcases hx with hx|rfl
   ·exact hno x hx
   rw[hl];exact hss
 have hc:decide ((i:Int)<(r.b.length:Int))=false:=dcf;refine aue hc ?_;rw[←hQ2];refine au ?_;rw[←hQ];refine au ?_;rw[Kd or] at hno;have hbl:kC r=s:=by rw[aAh];exact xp (KA.2 fun x hx=>by simp[hno x hx]) _
 exact aC hp (Hp.le_refl _) ⟨nx+1,es,c,rfl,or,hme,by rw[hbl];exact hse,by rw[hbl];omega,hsm⟩
end Go.Proofs.YtlhedpgobaellaaGreatDoor
namespace Go.Proofs.YtlhedpgobaellaaGreatDoor
open Go.RowKit Go.Sort
attribute [local irreducible] IntKind.wrap
theorem vQ(r:Ru)(hr:dF r=true)(h:Hp):aM Tryz.prog 71 [r.v] h (.sl .leaf (frO r.vars) ((eF r (kC r) false).map V.str)):=by
 have hnm:∀L,(V.sl .leaf (frO r.vars) ((eF r (kC r) false).map V.str)).names L:=fun L=>⟨fun m e=>(by unfold frO at e;split at e<;>cases e),bF (f:=V.str) (fun _=>trivial) _⟩;refine aJ hnm fun h' nx hh=>aB L.bA6 fun hd=>?_;have hd:aS h' nx:=hd;have hB:=fun h nx=>xi r hr h nx;have hS:=fun n es c h hm hs=>di r hr (kC r) n es c h hm hs false;obtain⟨X,hX⟩:∃X,r.v=X:=⟨_,rfl⟩;have hf:X.fits (.agg 6)=true:=by rw[←hX];rfl
 obtain⟨res,aA1⟩:∃res,V.sl .leaf (frO r.vars) ((eF r (kC r) false).map V.str)=res:=⟨_,rfl⟩;rw[hX] at hB hS⊢;rw[aA1] at hS⊢;simp only[List.length_cons,List.length_nil,Ks,Kt,List.replicate_succ,List.replicate_zero,List.cons_append,List.nil_append,V.undef];generalize hDC:aT.draw _ _ _=DC;refine aue hf ?_;rw[←hDC]
 obtain⟨I,hI⟩:∃I:(Nat→Bool)→St→Prop,∀D s',I D s'↔∃c2 c3 c4 c5 c6,s'.sl=[X, .ptr nx (.agg 6) 0 0,c2,c3,c4,c5,c6]∧h'.le s'.h∧aS s'.h s'.nx∧nx<s'.nx∧s'.h nx=some (.arr (.agg 6) [X])∧(D 0=true→c3=X)∧(D 1=true→c4=X)∧
  (D 2=true→∃n es c,c5= .map n∧s'.h n=some (.mp es c)∧hZ es (kC r))∧(D 3=true→c6=res)∧(D 4=true→c2=res):=⟨_,fun _ _=>Iff.rfl⟩
 refine pE ⟨I,?_,?_,?_⟩
 ·exact(hI _ _).2 ⟨_,_,_,_,_,rfl,leo hd,dmo hd,Zw,by simp only[go_sem,reduceIte,Ks,Kt,KB,Kv,reduceCtorEq,Kw,Kx],fun h=>(by cases h),fun h=>(by cases h),fun h=>(by cases h),fun h=>(by cases h),fun h=>(by cases h)⟩
 ·rintro D i o aAF ⟨sl,h1,nx1⟩ hi hDi aAv hcl hID;obtain⟨c2,c3,c4,c5,c6,q1,q2,q3,q4,q5,d0,d1,d2,d3,d4⟩:=(hI _ _).1 hID;dsimp only at q1 q2 q3 q4 q5 d2;subst q1;match i,hi with
  |0,hi=>
   cases hi;refine aue (e3 q5 hf q4) ?_;refine(hI _ _).2 ⟨_,_,_,_,_,rfl,q2,q3,q4,q5,fun _=>rfl,d1,d2,d3,d4⟩
  |1,hi=>
   cases hi;refine aue (e3 q5 hf q4) ?_;refine(hI _ _).2 ⟨_,_,_,_,_,rfl,q2,q3,q4,q5,d0,fun _=>rfl,d2,d3,d4⟩
  |2,hi=>
   cases hi;obtain rfl:=d1 (aAv 1 Zm);refine aV ((hB h1 nx1).dom.mono ?_);rintro v h2 nx2 aAS ⟨⟨n,es,c,rfl,w1,w2,w3,w4,w5⟩,hd2,_⟩;unfold bW;simp only[go_sem,reduceIte,Ks,Kt,KB,Kv,reduceCtorEq,Kw,Kx];refine au ?_;refine(hI _ _).2 ⟨_,_,_,_,_,rfl,w5.le (hd.up (Nat.le_of_lt q4)) q2,hd2,Nat.lt_of_lt_of_le q4 aAS,(w5 nx q4).trans q5,d0,fun _=>rfl,fun _=>⟨n,es,c,rfl,w2,w3⟩,d3,d4⟩
  |3,hi=>
   cases hi;obtain rfl:=d0 (aAv 0 Zm);obtain⟨n,es,c,rfl,w2,w3⟩:=d2 (aAv 2 Zm);refine aH (hS n es c h1 w2 w3) rfl (aI _) ?_;simp only[go_sem,reduceIte,Ks,Kt,KB,Kv,reduceCtorEq,Kw,Kx];refine au ?_;refine(hI _ _).2 ⟨_,_,_,_,_,rfl,q2,q3,q4,q5,fun _=>rfl,d1,fun _=>⟨n,es,c,rfl,w2,w3⟩,fun _=>rfl,d4⟩
  |4,hi=>
   cases hi;obtain rfl:=d3 (aAv 3 Zm);refine au ?_;refine(hI _ _).2 ⟨_,_,_,_,_,rfl,q2,q3,q4,q5,d0,d1,d2,fun _=>rfl,fun _=>rfl⟩
  |n+5,hi=>cases hi
 rintro D ⟨sl,h1,nx1⟩ hD hID;obtain⟨c2,c3,c4,c5,c6,q1,q2,q3,q4,q5,d0,d1,d2,d3,d4⟩:=(hI _ _).1 hID;dsimp only at q1 q2;subst q1;obtain rfl:=d4 (hD 4 ZM);refine au ?_;exact aC h' q2 ⟨rfl,rfl⟩
end Go.Proofs.YtlhedpgobaellaaGreatDoor
