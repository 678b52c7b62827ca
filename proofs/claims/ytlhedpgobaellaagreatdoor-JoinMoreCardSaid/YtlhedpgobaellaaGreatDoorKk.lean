/-
Texts of this proof,one behind the other. No conditions.
-/
import Derived.Test.YtlhedpgobaellaaGreatDoorKhb
import Derived.Test.YtlhedpgobaellaaGreatDoorKha
open Go.Proofs.YtlhedpgobaellaaGreatDoor.Hp renaming set→Ka,le_refl→Kb,aAM→Kc,del→Ke,same→Kg,le_trans→Kh
open List renaming getD_eq_getElem?_getD→Kd,take_succ_eq_append_getElem→Kf,getElem?_eq_getElem→Ki,mem_of_find?_eq_some→Kj,getElem_mem→Kk,range→Ko,take_of_length_le→Kp,length_append→Kq,mem_append→Ks,getElem?_append_left→Ku,find?_some→Kv,findIdx?_eq_some_iff_getElem→Ky,filter_append→KC,length_eraseIdx_of_lt→KD,findIdx?_eq_none_iff→KE,mem_of_mem_eraseIdx→KH,take_length→KI,append_nil→KL,filter_eq_self→KP,mem_cons→KQ,find?_eq_none→KR,mem_singleton→KS,append_assoc→KV,length_range→KX,length_take→KY,filter_cons→KZ,map_append→Qc,drop_drop→Qd,map_take→Qe,length→Qi,drop→Qk
open Nat renaming le_refl→Km,mul_le_mul_right→Kt,lt_or_ge→Kx,zero_le→Kz,reduceAdd→KF,reduceSub→KG,reduceLeDiff→KJ,reduceEqDiff→KK,lt_of_lt_of_le→KT,reduceLT→KU,lt_succ_self→Qa,zero_add→Qg,add_mul→Qh,le_succ→Qj
open Go.IntKind renaming wrap→Kw
open Bool renaming and_eq_true→KB,or_eq_false_iff→KO,not_eq_true'→KW,or_eq_true→Qb,true_and→Qf
open Int renaming reduceToNat→KM
open Prod renaming fst→KN
open Nat renaming reduceAdd→jA,reduceSub→jB,reduceLT→jC,reduceLeDiff→jD,reduceEqDiff→jE
open Int renaming reduceToNat→jF,toNat_natCast→jG,natCast_add→jH,natCast_one→jI,natCast_zero→jJ
open List renaming length_map→jK,length_cons→jL,length_nil→jM,nil_append→jQ
set_option linter.all false
set_option maxHeartbeats 8000000
namespace Go.Proofs.YtlhedpgobaellaaGreatDoor
open Go.RowKit Go.Sort
attribute [local irreducible] Kw
def gO(es:List ME)(l:List ByteArray):Prop:=∀x:ByteArray,match bM (.plain .leaf [.str]) (.str x) es with
 |some none=>x∉l
 |some (some j)=>j<es.length∧x∈l∧∃n:Int,(es.getD j default).v= .int .i64 n∧1≤n∧n≤l.length
 |none=>False
theorem jw:gO [] []:=fun x=>by simp[bM]
theorem cn(e:zK)(k:V):∀(a b:List ME),a.map ME.k=b.map ME.k→bM e k a=bM e k b
 | [],[],_=>rfl
 |x::a,y::b,h=>by
  simp only[List.map_cons,List.cons.injEq] at h;simp only[bM,h.1,cn e k a b h.2]
theorem kw(e:zK)(k:V):∀(l:List ME) (j:Nat),bM e k l=some (some j)→veq e k (l.getD j default).k=some true
 | [],j,h=>by cases h
 |x::l,j,h=>by
  simp only[bM] at h;cases hv:veq e k x.k with
  |none=>rw[hv] at h;cases h
  |some b=>
   rw[hv] at h;cases b with
   |true=>cases h;exact hv
   |false=>
    simp only[Option.map_eq_some_iff] at h;obtain⟨o,h1,i,rfl,rfl⟩:=h;exact kw e k l i h1
theorem wv{x:ByteArray}{v:V}(h:veq (.plain .leaf [.str]) (.str x) v=some true):v= .str x:=by
 simp only[veq] at h;split at h
 ·rename_i hf;cases v<;>first|(simp[V.fits,V.aAE] at hf;done)|simp only[V.cells,gQ,gT,reduceCtorEq,Option.some.injEq] at h
  rename_i s;rw[eA] at h;rw[of_decide_eq_true h]
 cases h
theorem Bq{es:List ME}{l:List ByteArray}{x:ByteArray}{b:Nat}(h:gO es l)(hx:bM (.plain .leaf [.str]) (.str x) es=some none):gO (es++[⟨.str x, .int .i64 1,b⟩]) (l++[x]):=fun y=>by
 have hy:=h y;rw[xC];cases hm:bM (.plain .leaf [.str]) (.str y) es with
 |none=>rw[hm] at hy;exact hy.elim
 |some o=>
  rw[hm] at hy;cases o with
  |some j=>
   obtain⟨h1,h2,n,h3,h4,h5⟩:=hy;refine⟨by simp;omega,by simp[h2],n,?_,h4,by simp;omega⟩;rw[←h3];simp only[Kd];rw[Ku h1]
  |none=>
   simp only[zL] at hy⊢;by_cases e:y=x
   ·rw[decide_eq_true e];exact⟨Zm,by simp[e],1,by simp[Kd],or,by simp;omega⟩
   rw[decide_eq_false e];simp[hy,e]
theorem Bp{es:List ME}{l:List ByteArray}{x:ByteArray}{j:Nat}{n:Int}(h:gO es l)(hx:bM (.plain .leaf [.str]) (.str x) es=some (some j))(hn:(es.getD j default).v= .int .i64 n)(b:Nat):gO (es.set j ⟨.str x, .int .i64 (n+1),b⟩) (l++[x]):=fun y=>by
 have hk:=wv (kw _ _ _ _ hx);have hX:=h x;rw[hx] at hX;obtain⟨p1,p2,n',p3,p4,p5⟩:=hX;rw[hn] at p3;obtain rfl:n=n':=by injection p3
 have aPV:bM (.plain .leaf [.str]) (.str y) (es.set j ⟨.str x, .int .i64 (n+1),b⟩)=bM (.plain .leaf [.str]) (.str y) es:=by
  refine cn _ _ _ _ (List.ext_getElem Zm fun i h1 h2=>?_);simp only[List.getElem_map,List.getElem_set];split
  ·rename_i e;subst e;rw[Kd,Ki p1] at hk;exact hk.symm
  rfl
 have hy:=h y;rw[aPV];cases hm:bM (.plain .leaf [.str]) (.str y) es with
 |none=>rw[hm] at hy;exact hy.elim
 |some o=>
  rw[hm] at hy;cases o with
  |none=>
   have:y≠x:=fun e=>hy (e▸p2);simp[hy,this]
  |some i=>
   obtain⟨h1,h2,m,h3,h4,h5⟩:=hy;refine⟨by simpa using h1,by simp[h2],?_⟩;by_cases e:j=i
   ·subst e;refine⟨n+1,?_,or,by simp;omega⟩;rw[Kd,List.getElem?_set_self p1];rfl
   refine⟨m,?_,h4,by simp;omega⟩;rw[←h3];simp only[Kd];rw[List.getElem?_set_ne e]
theorem rG{es:List ME}{l:List ByteArray}(h:gO es l)(x:ByteArray):∃r n,bM (.plain .leaf [.str]) (.str x) es=some r∧iY false (.int .i64 0) es r= .int .i64 n∧0≤n∧n≤l.length∧(n=0↔iD x l=false):=by
 have hx:=h x;cases hm:bM (.plain .leaf [.str]) (.str x) es with
 |none=>rw[hm] at hx;exact hx.elim
 |some o=>
  rw[hm] at hx;cases o with
  |none=>exact⟨none,0,rfl,rfl,or,or,by simp[vS.2 hx]⟩
  |some j=>
   obtain⟨h1,h2,n,h3,h4,h5⟩:=hx;refine⟨some j,n,rfl,h3,or,h5,⟨fun e=>or,fun e=>absurd h2 (vS.1 e)⟩⟩
section
variable{P:Program}{Q:St→Prop}{s:St}{dst:Option Nat}{r:List aA}{x:aK}
theorem BQ{kS:Sh}{ks:List LK}{n c j:Nat}{es:List ME}{k v:aK}(hk:(k.ev s.sl).fits kS=true)(hx:x.ev s.sl= .map n)(hn:s.h n=some (.mp es c))(hf:bM (.plain kS ks) (k.ev s.sl) es=some (some j))
 (h2:aZ P r Q ⟨bH s.sl dst V.undef,s.h.set n (.mp (es.set j ⟨k.ev s.sl,v.ev s.sl,(es.getD j default).b⟩) c),s.nx+1⟩):aZ P (⟨dst,none, .mp (.put kS ks x k v)⟩::r) Q s:=by
 unfold aZ;simp only[LOp.run,LOp.sem,MOp.sem,hx,hn,hf];exact⟨hk,h2⟩
end
theorem sU(o:Own)(vs:List ByteArray)(l:List ByteArray)(hl:l.length+vs.length≤1000000000)(n:Nat)(es:List ME)(c:Nat)(h:Hp)(nx:Nat)(hm:h n=some (.mp es c))(hs:gO es l):
 aR Tryz.prog 185 [.map n, .sl .leaf o (vs.map V.str)] h nx fun v h' nx'=>∃es' c',h' n=some (.mp es' c')∧gO es' (l++vs)∧∀m,m<nx→m≠n→h' m=h m:=by
 refine aB L.aXc fun hd=>?_;refine ZK ?_;have hn2:n<nx:=hd _ _ hm;refine aue (@jK ByteArray V) ?_
 refine aQ (fun i:Nat=>aD 17 0 [(0, .map n),(6, .sl .leaf o (vs.map V.str)),(7, .int .i64 vs.length),(8, .int .i64 i)])
  (fun i hp nx1=>i≤vs.length∧nx≤nx1∧(∃es c,hp n=some (.mp es c)∧gO es (l++vs.take i))∧∀m,m<nx→m≠n→hp m=h m)
  (fun i=>vs.length-i) 0 ⟨Kz _,Km _,⟨es,c,hm,by simpa using hs⟩,fun _ _ _=>rfl⟩ (by simp only[WkL,aD,jH,jI,jJ,jK,go_sem,reduceIte,jA,jB,jC,jD,reduceCtorEq,jE,jF]) ?_
 rintro i hp nx1 ⟨hi,hnx,⟨es1,c1,hm1,hs1⟩,hsm⟩;generalize hQ:bB _ _ _ _ _=Q0;refine Zk ?_;rcases Kx i vs.length with hlt|hge
 ·have hc:decide ((i:Int)<(vs.length:Int))=true:=dct;have hg:=aN V.str vs i hlt;have hw:IntKind.i64.wrap ((i:Int)+1)=((i+1:Nat):Int):=wrp;have htk:l++vs.take (i+1)=(l++vs.take i)++[vs[i]]:=by rw[Kf hlt,KV]
  have hlen:(l++vs.take i).length≤l.length+i:=by rw[Kq,KY];omega
  have hn3:n<nx1:=or;generalize vs[i]=x at hg htk;have hx:=hs1 x;cases hf:bM (.plain .leaf [.str]) (.str x) es1 with
  |none=>rw[hf] at hx;exact hx.elim
  |some r=>
   cases r with
   |none=>
    have hg0:iY false (.int .i64 0) es1 none= .int .i64 0:=rfl;have hw1:IntKind.i64.wrap ((0:Int)+1)=1:=wrp;have hs2:=Bq (b:=c1) hs1 hf;refine aue (e9 hc hg hlt hm1 hf hg0 hw1 (@jK ByteArray V) jG) ?_;refine kB (es:=es1) (c:=c1) (n:=n) rfl rfl (by simp only[hm1,go_sem,reduceIte,jA,jB,jC,jD,reduceCtorEq,jE,jF]) hf ?_;refine Zn ?_;refine aue hw ?_;rw[←hQ];refine aF (i+1) or ⟨hlt,or,⟨_,_,by simp only[go_sem,reduceIte,jA,jB,jC,jD,reduceCtorEq,jE,jF];rfl,by rw[htk];exact hs2⟩,fun m h1 h2=>?_⟩ (by simp only[WkL,aD,jH,jI,jJ,go_sem,reduceIte,jA,jB,jC,jD,reduceCtorEq,jE,jF]);simp only[Ka];rw[if_neg h2];exact hsm m h1 h2
   |some j=>
    rw[hf] at hx;obtain⟨p1,p2,m,p3,p4,p5⟩:=hx;have hg0:iY false (.int .i64 0) es1 (some j)= .int .i64 m:=p3;have hw1:IntKind.i64.wrap (m+1)=m+1:=wrp;have hs2:=Bp hs1 hf p3 (es1.getD j default).b;refine aue (e9 hc hg hlt hm1 hf hg0 hw1 (@jK ByteArray V) jG) ?_;refine BQ (es:=es1) (c:=c1) (n:=n) (j:=j) rfl rfl (by simp only[hm1,go_sem,reduceIte,jA,jB,jC,jD,reduceCtorEq,jE,jF]) hf ?_;refine Zn ?_;refine aue hw ?_;rw[←hQ];refine aF (i+1) or ⟨hlt,or,⟨_,_,by simp only[go_sem,reduceIte,jA,jB,jC,jD,reduceCtorEq,jE,jF];rfl,by rw[htk];exact hs2⟩,fun m h1 h2=>?_⟩ (by simp only[WkL,aD,jH,jI,jJ,go_sem,reduceIte,jA,jB,jC,jD,reduceCtorEq,jE,jF]);simp only[Ka];rw[if_neg h2];exact hsm m h1 h2
 have hc:decide ((i:Int)<(vs.length:Int))=false:=dcf;refine aue hc ?_;rw[←hQ];refine au ?_;rw[Kp or] at hs1;exact⟨hp,Kb _,es1,c1,hm1,hs1,hsm⟩
def kH(l vs:List ByteArray):Bool:=vs.all fun v=>iD v l
theorem zP:aE Tryz.prog 227=some (LB.aAX .leaf):=Zz
theorem FA:aE Tryz.prog 251=some (LB.ContainsFunc .leaf 227):=Zz
theorem xu(l:List ByteArray)(hl:l.length≤1000000000)(n:Nat)(es:List ME)(c:Nat)(h:Hp)(hm:h n=some (.mp es c))(hs:gO es l)(p:Nat)(hp:h p=some (.arr .leaf [.map n]))(x:ByteArray):aL Tryz.prog 252 [.str x, .ptr p .leaf 0 0] h (.bool (!iD x l)):=by
 refine aJ (fun L=>trivial) fun h' nx hh=>aB L.aUm fun hd=>?_;refine ZK ?_;have hm1:=hh _ _ hm rfl;have hp1:=hh _ _ hp rfl;have n1:n<nx:=hd _ _ hm1;have n2:p<nx:=hd _ _ hp1;obtain⟨r,m,q1,q2,q3,q4,q5⟩:=rG hs x;have hb:(m==0)= !iD x l:=by
  cases k:iD x l with
  |true=>exact bqf (fun e=>by rw[q5.1 e] at k;cases k)
  |false=>exact bqt (q5.2 k)
 refine aue (e6 hm1 hp1 q1 q2 hb n1) ?_;exact aC h' (leo hd) ⟨rfl,rfl⟩
theorem wW(l:List ByteArray)(hl:l.length≤1000000000)(n:Nat)(es:List ME)(c:Nat)(h:Hp)(hm:h n=some (.mp es c))(hs:gO es l)(o:Own)(vs:List ByteArray)(hv:vs.length≤1000000000):aL Tryz.prog 229 [.map n, .sl .leaf o (vs.map V.str)] h (.bool (kH l vs)):=by
 refine aJ (fun L=>trivial) fun h' nx hh=>aB L.aU8 fun hd=>?_;refine ZK ?_;have hm1:=hh _ _ hm rfl;have n1:n<nx:=hd _ _ hm1;refine aue trivial ?_;refine aI (gI V.str (fun _=>rfl) FA zP (fun x=> !iD x l) o vs _ _ (h'.set nx (.arr .leaf [.map n])) (fun x _=>xu l hl n es c _ (by simp only[Ka];rw[if_neg or];exact hm1) hs nx (by simp[Ka]) x) hv) rfl (aH _) ?_;refine Zn ?_;refine au ?_;exact aC h' (leo hd) ⟨by unfold kH;rw[←pr];rfl,rfl⟩
def cX(e:Ex):ByteArray:=if e.op≠0∨e.kids≠ [] then ⟨#[]⟩ else e.t.x
theorem g9(e:Ex)(h:Hp):aL Tryz.prog 228 [e.v] h (.str (cX e)):=by
 refine aJ (fun L=>trivial) fun h' nx hh=>aB L.aU9 fun hd=>?_;obtain⟨op,t,o,ks⟩:=e;rw[Ex.aAn];refine ZK ?_;unfold cX;by_cases h1:op=0
 ·have g1:(op != 0)=false:=bnf;cases ks with
  |nil=>
   have hk:decide ((0:Int)<((0:Nat):Int))=false:=rfl;have hk':decide (((0:Nat):Int)>0)=false:=rfl;refine aue (e8 Ex.cs.eq_1 Ex.op.eq_1 Ex.t.eq_1 Ex.o.eq_1 Ex.kids.eq_1 g1 hk hk') ?_;refine aC h' (leo hd) ⟨?_,rfl⟩;rw[if_neg (by simp[h1,Ex.op,Ex.kids])];rfl
  |cons a r=>
   obtain⟨ks,hks⟩:∃ks,ks=a::r:=⟨_,rfl⟩;have hk:decide ((0:Int)<(ks.length:Int))=true:=dct (by rw[hks];simp);rw[←hks];refine aue (e8 Ex.cs.eq_1 Ex.op.eq_1 Ex.t.eq_1 Ex.o.eq_1 Ex.kids.eq_1 g1 hk (@jK Ex V)) ?_;refine aC h' (leo hd) ⟨?_,rfl⟩;rw[if_pos (.inr (by rw[hks];simp[Ex.kids]))];rfl
 have g1:(op != 0)=true:=bnt;refine aue (e6 Ex.cs.eq_1 Ex.op.eq_1 Ex.t.eq_1 Ex.o.eq_1 Ex.kids.eq_1 g1) ?_;refine aC h' (leo hd) ⟨?_,rfl⟩;rw[if_pos (.inl h1)];rfl
def gV(s:List ByteArray)(l:Li):Bool:=decide (l.k=3∧l.op=1)&&
 ((decide ((cX l.x).size≠0)&& !iD (cX l.x) s&&kH s (nmL [] l.y.ts))||(decide ((cX l.y).size≠0)&& !iD (cX l.y) s&&kH s (nmL [] l.x.ts)))
theorem bc(s:List ByteArray)(hl:s.length≤1000000000)(n:Nat)(es:List ME)(c:Nat)(h:Hp)(hm:h n=some (.mp es c))(hs:gO es s)(l:Li)(hr:bS l=true):aL Tryz.prog 186 [.map n,l.v] h (.bool (gV s l)):=by
 refine aJ (fun L=>trivial) fun h' nx hh=>aB L.aXb fun hd=>?_;rw[Li.aAn];refine ZK ?_;have hm1:=hh _ _ hm rfl;have n1:n<nx:=hd _ _ hm1;obtain⟨b1,b2,b3⟩:=mC hr;have b4:=nI b2;have b5:=nI b3;have b6:=rJ l.x.ts [];have b7:=rJ l.y.ts [];simp only[jM] at b6 b7;have D1:∀h:Hp,aL Tryz.prog 228 [.agg [.int .i64 l.x.op, .str l.x.t.x, .int .i64 l.x.t.w.k, .int .i64 l.x.t.w.n, .str l.x.t.w.s, .sl (.agg 6) l.x.o (l.x.kids.map Ex.v)]] h (.str (cX l.x)):=fun h=>(show V.agg l.x.cs=_ from rfl)▸Ex.aAn l.x▸g9 l.x h;have D2:∀h:Hp,aL Tryz.prog 228 [.agg [.int .i64 l.y.op, .str l.y.t.x, .int .i64 l.y.t.w.k, .int .i64 l.y.t.w.n, .str l.y.t.w.s, .sl (.agg 6) l.y.o (l.y.kids.map Ex.v)]] h (.str (cX l.y)):=fun h=>(show V.agg l.y.cs=_ from rfl)▸Ex.aAn l.y▸g9 l.y h;obtain⟨o1,ho1⟩:=eH .leaf ((nmL [] l.x.ts).map V.str);obtain⟨o2,ho2⟩:=eH .leaf ((nmL [] l.y.ts).map V.str);have C1:∀h:Hp,aL Tryz.prog 230 [.agg [.int .i64 l.x.op, .str l.x.t.x, .int .i64 l.x.t.w.k, .int .i64 l.x.t.w.n, .str l.x.t.w.s, .sl (.agg 6) l.x.o (l.x.kids.map Ex.v)]] h (.sl .leaf o1 ((nmL [] l.x.ts).map V.str)):=fun h=>(show V.agg l.x.cs=_ from rfl)▸Ex.aAn l.x▸ho1▸A8 l.x b2 h;have C2:∀h:Hp,aL Tryz.prog 230 [.agg [.int .i64 l.y.op, .str l.y.t.x, .int .i64 l.y.t.w.k, .int .i64 l.y.t.w.n, .str l.y.t.w.s, .sl (.agg 6) l.y.o (l.y.kids.map Ex.v)]] h (.sl .leaf o2 ((nmL [] l.y.ts).map V.str)):=fun h=>(show V.agg l.y.cs=_ from rfl)▸Ex.aAn l.y▸ho2▸A8 l.y b3 h;have z1:=wR (cX l.x);have z2:=wR (cX l.y);obtain⟨r1,m1,p1,p2,p3,p4,p5⟩:=rG hs (cX l.x);obtain⟨r2,m2,q1,q2,q3,q4,q5⟩:=rG hs (cX l.y);have e1:(m1==0)= !iD (cX l.x) s:=by
  cases k:iD (cX l.x) s with
  |true=>exact bqf (fun e=>by rw[p5.1 e] at k;cases k)
  |false=>exact bqt (p5.2 k)
 have e2':(m2==0)= !iD (cX l.y) s:=by
  cases k:iD (cX l.y) s with
  |true=>exact bqf (fun e=>by rw[q5.1 e] at k;cases k)
  |false=>exact bqt (q5.2 k)
 unfold gV;generalize cX l.x=A at*;generalize cX l.y=B at*;have C5:aL Tryz.prog 229 [.map n, .sl .leaf o2 ((nmL [] l.y.ts).map V.str)] h' (.bool (kH s (nmL [] l.y.ts))):=wW s hl n es c h' hm1 hs o2 _ or;have C6:aL Tryz.prog 229 [.map n, .sl .leaf o1 ((nmL [] l.x.ts).map V.str)] h' (.bool (kH s (nmL [] l.x.ts))):=wW s hl n es c h' hm1 hs o1 _ or;have hle:=xH (leo hd:h'.le (h'.set nx (Blk.arr (Sh.agg 17) [.agg [.int .i64 l.k, .str l.a.r,trs l.a.o l.a.l, .int .i64 l.op, .int .i64 l.x.op, .str l.x.t.x, .int .i64 l.x.t.w.k, .int .i64 l.x.t.w.n, .str l.x.t.w.s, .sl (.agg 6) l.x.o (l.x.kids.map Ex.v), .int .i64 l.y.op, .str l.y.t.x, .int .i64 l.y.t.w.k, .int .i64 l.y.t.w.n, .str l.y.t.w.s, .sl (.agg 6) l.y.o (l.y.kids.map Ex.v), .int .i64 l.at_]])))
 replace C5:=C5.mono hle
 replace C6:=C6.mono hle
 (repeat' (first|(with_reducible first|refine stp ?_|refine cD ZM ?_|refine wE (fun _=>?_) (fun _=>?_))|((first|(with_reducible refine nC ?_;first|refine kX rfl ?_ ?_|refine aI (C1 _) rfl (aH _) ?_|refine aI (C2 _) rfl (aH _) ?_|refine aI C5 rfl (aH _) ?_|refine aI C6 rfl (aH _) ?_|refine Zx ?_)|(with_reducible refine nE ?_;first|refine lC rfl ?_ ?_|refine bD (D1 _) rfl (bA _) ?_|refine bD (D2 _) rfl (bA _) ?_|refine ZX ?_)|refine Zy ?_)<;>try simp only[hm1,n1,z1,z2,p1,p2,q1,q2,e1,e2',go_sem,reduceIte,jA,jB,jC,jD,reduceCtorEq,jE,jF])|refine ZY ?_|omega))
 all_goals refine aC h' (leo hd) ⟨vb ?_,rfl⟩
 all_goals simp_all
theorem iy(p:ByteArray→Bool)(n:Nat)(l:List ByteArray)(g:Nat)(caps:List V)(h hc:Hp)(nx:Nat)(hn:h n=some (.arr .leaf (l.map V.str)))
 (hcn:hc n=none) (hch:Hp.has hc h) (hcd:aV hc nx) (hp:∀x∈l,aL Tryz.prog g ([V.str x]++caps) hc (.bool (p x))) (hl:l.length≤1000000000):
 aR Tryz.prog 182 [.rs n .leaf 0 l.length, .fn (.func g) [] caps] h nx fun v h' nx'=>∃zs,v= .rs n .leaf 0 (l.filter fun x=> !(p x)).length∧h'=h.set n (.arr .leaf ((l.filter fun x=> !(p x)).map V.str++zs)):=by
 have aFM:h.set n (.arr .leaf (l.map V.str))=h:=by
  funext x;unfold Ka;split
  ·rename_i hx;rw[hx,hn]
  rfl
 refine aB L.aV0 fun hd=>?_;have bAA:n<nx:=hd n _ hn;obtain⟨k1,k2⟩:=qO p l;refine ZK ?_;cases aA9:(bI p l==-1) with
 |true=>
  have aAZ:=k1.1 aA9
  (repeat' (first|(with_reducible first|refine stp ?_|refine cD ZM ?_|refine wE (fun _=>?_) (fun _=>?_))|((first|(with_reducible refine nC ?_;first|refine kX rfl ?_ ?_|refine aI (vP V.str (fun _=>rfl) zP p n l g caps h hn (fun x hx=>(hp x hx).mono hch) or) (by simp only[go_sem,reduceIte,jA,jB,jC,jD,reduceCtorEq,jE,jF]) (aH _) ?_|refine Zx ?_)|(with_reducible refine nE ?_;first|refine lC rfl ?_ ?_|refine ZX ?_)|refine Zy ?_)<;>try simp only[aA9,go_sem,reduceIte,jA,jB,jC,jD,reduceCtorEq,jE,jF])|refine ZY ?_|omega))
  have hfl:(l.filter fun x=> !(p x))=l:=KP.2 (fun x hx=>by simp[aAZ x hx]);refine aC h (Kb _) ⟨[],?_,?_⟩
  ·simp only[hfl,go_sem,reduceIte,jA,jB,jC,jD,reduceCtorEq,jE,jF]
  rw[hfl,KL,aFM]
 |false=>
  obtain⟨i0,hi0⟩:∃i:Nat,bI p l=i:=by
   cases hf:l.findIdx? p with
   |none=>exact absurd (k1.2 (by simpa using KE.1 hf)) (by rw[aA9];simp)
   |some j=>exact⟨j,by unfold bI;rw[hf]⟩
  obtain⟨b1,b2,b3⟩:=k2 i0 hi0;have hw0:IntKind.i64.wrap ((i0:Int)+1)=((i0+1:Nat):Int):=by rw[fQ]<;>omega
  rw[hi0] at aA9
  (repeat' (first|(with_reducible first|refine stp ?_|refine cD ZM ?_|refine wE (fun _=>?_) (fun _=>?_))|((first|(with_reducible refine nC ?_;first|refine kX rfl ?_ ?_|refine aI (vP V.str (fun _=>rfl) zP p n l g caps h hn (fun x hx=>(hp x hx).mono hch) or) (by simp only[go_sem,reduceIte,jA,jB,jC,jD,reduceCtorEq,jE,jF]) (aH _) ?_|refine Zx ?_)|(with_reducible refine nE ?_;first|refine lC rfl ?_ ?_|refine ZX ?_)|refine Zy ?_)<;>try simp only[aA9,hi0,hw0,go_sem,reduceIte,jA,jB,jC,jD,reduceCtorEq,jE,jF])|refine ZY ?_|omega))
  refine aQ (fun q:Nat×Nat×List ByteArray=>aD 42 0 [(0, .rs n .leaf 0 l.length),(1, .fn (.func g) [] caps),(5, .int .i64 q.1),(6, .int .i64 q.2.1)])
   (fun q hp2 nx1=>q.1+1≤q.2.1∧q.2.1≤l.length∧q.2.2.length=l.length∧q.2.2.take q.1=(l.take q.2.1).filter (fun x=> !(p x))∧q.2.2.drop q.1=l.drop q.1∧hp2 n=some (.arr .leaf (q.2.2.map V.str))∧nx≤nx1∧∀x,x≠n→x<nx→hp2 x=h x)
   (fun q=>l.length-q.2.1) (i0,i0+1,l) ⟨Km _,b1,rfl,?_,rfl,hn,Km _,fun _ _ _=>rfl⟩ ?_ ?_
  ·dsimp only;rw[Kf b1,KC,KP.2 (fun x hx=>by simp[b3 x hx])];simp[b2]
  ·simp only[WkL,aD,jH,jI,jJ,go_sem,reduceIte,jA,jB,jC,jD,reduceCtorEq,jE,jF]
  rintro⟨i,j,xs⟩ hp2 nx1 ⟨a1,a2,a3,a4,a5,a6,a7,a8⟩;generalize hQ:bB _ _ _ _ _=Q0;dsimp only at a1 a2 a3 a4 a5 a6;refine Zk ?_;have aPa:Hp.has hc hp2:=fun m kk hm hbm=>by
   have hmn:m≠n:=fun e2=>by rw[e2,hcn] at hm;cases hm
   rw[a8 m hmn (hcd m _ hm)];exact hch m kk hm hbm
  have hcf:∀m,nx≤m→hc m=none:=fun m hm=>aV.none hcd hm;rcases Kx j l.length with hlt|hge
  ·have hcc:decide ((j:Int)<(l.length:Int))=true:=decide_eq_true or;have hxj:xs[j]'or=l[j]:=by
    have e1:xs[j]'or=(xs.drop i)[j-i]'(by simp;omega):=by simp[show i+(j-i)=j by omega]
    have e2:l[j]=(l.drop i)[j-i]'(by simp;omega):=by simp[show i+(j-i)=j by omega]
    rw[e1,e2];congr 1
   have hg:(xs.map V.str).getD j (.tup [])=V.str l[j]:=by rw[aN V.str xs j or,hxj]
   have hw:IntKind.i64.wrap ((j:Int)+1)=((j+1:Nat):Int):=by rw[fQ]<;>omega
   have hw2:IntKind.i64.wrap ((i:Int)+1)=((i+1:Nat):Int):=by rw[fQ]<;>omega
   have hnl:n<nx1:=or;have hil:i<l.length:=or;have htk:l.take (j+1)=l.take j++[l[j]]:=Kf hlt
   (repeat' (first|(with_reducible first|refine stp ?_|refine cD ZM ?_|refine wE (fun _=>?_) (fun _=>?_))|((first|(with_reducible refine nC ?_;first|refine kX rfl ?_ ?_|refine cT rfl (hp l[j] (Kk _)) (by simp only[go_sem,reduceIte,jA,jB,jC,jD,reduceCtorEq,jE,jF]) (by repeat (first|exact aPa|refine Eg ?_ (by first|exact hcn|exact hcf _ or) _)) ?_|refine Zx ?_)|(with_reducible refine nE ?_;first|refine lC rfl ?_ ?_|refine ZX ?_)|refine Zy ?_)<;>try simp only[hcc,hg,hw,hw2,hnl,hil,hlt,a6,a3,jK,jG,go_sem,reduceIte,jA,jB,jC,jD,reduceCtorEq,jE,jF])|refine ZY ?_|omega))
   ·rename_i hx;have hx:p l[j]=false:=by simpa using hx
    rw[←hQ];refine aF (i+1,j+1,xs.set i l[j]) Zw ⟨Zw,Zw,by simpa using a3,?_,?_,?_,or,fun x hxn hxl=>?_⟩ ?_
    ·dsimp only;rw[htk,KC,←a4,Kf (by simp;omega),List.getElem_set_self,List.take_set_of_le (Km _)];simp[hx]
    ·dsimp only;rw[List.drop_set_of_lt or];have:=congrArg (Qk 1) a5;rwa [Qd,Qd] at this
    ·simp only[hnl,go_sem,reduceIte,jA,jB,jC,jD,reduceCtorEq,jE,jF];rw[List.map_set,aN V.str xs i or];rfl
    ·have h1:(x=nx1)=False:=eq_false or;simp only[hxn,h1,go_sem,reduceIte,jA,jB,jC,jD,reduceCtorEq,jE,jF];exact a8 x hxn hxl
    simp only[WkL,aD,jH,jI,jJ,go_sem,reduceIte,jA,jB,jC,jD,reduceCtorEq,jE,jF]
   rename_i hx;have hx:p l[j]=true:=by simpa using hx
   rw[←hQ];refine aF (i,j+1,xs) Zw ⟨Zw,Zw,a3,?_,a5,?_,or,fun x hxn hxl=>?_⟩ ?_
   ·dsimp only;rw[htk,KC,←a4];simp[hx]
   ·exact a6
   ·exact a8 x hxn hxl
   simp only[WkL,aD,jH,jI,jJ,go_sem,reduceIte,jA,jB,jC,jD,reduceCtorEq,jE,jF]
  have hcc:decide ((j:Int)<(l.length:Int))=false:=decide_eq_false or;rw[show j=l.length by omega,KI] at a4;have hil:i<l.length:=or;have aW8:(i=l.length)=False:=eq_false or;refine aue hcc ?_;rw[←hQ];refine aue (ee4 aW8 hil a6 a3) ?_;have hlen:(l.filter fun x=> !(p x)).length=i:=by rw[←a4];simp;omega
  refine aC (h.set n (.arr .leaf ((l.filter fun x=> !(p x)).map V.str++(List.replicate (l.length-i) (.str ⟨#[]⟩)++(xs.map V.str).drop (i+(l.length-i)))))) ?_ ⟨_,?_,rfl⟩
  ·intro x b hxb;by_cases hxn:x=n
   ·subst hxn;simp only[go_sem,reduceIte,jA,jB,jC,jD,reduceCtorEq,jE,jF] at hxb⊢;rw[←hxb,←a4,Qe,KV]
   have hxl:x<nx:=hd x b (by simpa only[Ka,if_neg hxn] using hxb);simp only[hxn,go_sem,reduceIte,jA,jB,jC,jD,reduceCtorEq,jE,jF] at hxb⊢;rw[a8 x hxn hxl];exact hxb
  simp only[hlen,Nat.sub_zero,go_sem,reduceIte,jA,jB,jC,jD,reduceCtorEq,jE,jF]
theorem u0(p:ByteArray→Bool)(g:Nat)(caps:List V)(h:Hp):
 aL Tryz.prog 182 [.sl .leaf .nil [], .fn (.func g) [] caps] h (.sl .leaf .nil []):=by
 refine aJ (fun L=>by simp[V.names,bT]) fun h' nx hh=>aB L.aV0 fun hd=>?_;have aA9:(bI p ([]:List ByteArray)==-1)=true:=by simp[bI]
 have hi:aL Tryz.prog 227 [.sl .leaf .nil [], .fn (.func g) [] caps] h' (.int .i64 (bI p ([]:List ByteArray))):=by
  have:=nP V.str (fun _=>rfl) zP p .nil [] g caps h' (fun x hx=>by cases hx) Zm;simpa using this
 refine ZK ?_;have C5:=hi;refine aue aA9 ?_;exact aC h' (Kb _) ⟨rfl,rfl⟩
theorem rn(s:List ByteArray)(n:Nat)(es:List ME)(c:Nat)(h:Hp)(hm:h n=some (.mp es c))(hs:gO es s)(b:Bool)(p q:Nat)(hp:h p=some (.arr .leaf [.map n]))(hq:h q=some (.arr .leaf [.bool b]))(x:ByteArray):aL Tryz.prog 184 [.str x, .ptr p .leaf 0 0, .ptr q .leaf 0 0] h (.bool (!(iD x s==b))):=by
 refine aJ (fun L=>trivial) fun h' nx hh=>aB L.aXd fun hd=>?_;refine ZK ?_;have hm1:=hh _ _ hm rfl;have hp1:=hh _ _ hp rfl;have hq1:=hh _ _ hq rfl;have n1:n<nx:=hd _ _ hm1;have n2:p<nx:=hd _ _ hp1;have n3:q<nx:=hd _ _ hq1;obtain⟨r,m,q1,q2,q3,q4,q5⟩:=rG hs x;have hb:decide (0<m)=iD x s:=by
  cases k:iD x s with
  |true=>exact dct (by have:m≠0:=fun e=>(by rw[q5.1 e] at k;cases k);omega)
  |false=>exact dcf (by have:=q5.2 k;omega)
 have hv:veq (.plain .leaf [.bool]) (.bool (iD x s)) (.bool b)=some (iD x s==b):=rfl;refine aue (e7 hm1 hp1 hq1 q1 q2 hb hv) ?_;exact aC h' (leo hd) ⟨rfl,rfl⟩
def dP(r:Ru)(s:List ByteArray)(b:Bool):List ByteArray:=r.vars.filter fun v=>iD v s==b
theorem bg(r:Ru)(hr:dW r=true)(s:List ByteArray)(n:Nat)(es:List ME)(c:Nat)(h:Hp)(hm:h n=some (.mp es c))(hs:gO es s)(b:Bool):aL Tryz.prog 120 [r.v, .map n, .bool b] h (.sl .leaf (frO r.vars) ((dP r s b).map V.str)):=by
 have hnm:∀L,(V.sl .leaf (frO r.vars) ((dP r s b).map V.str)).names L:=fun L=>⟨fun m e=>(by unfold frO at e;split at e<;>cases e),cQ (f:=V.str) (fun _=>trivial) _⟩;refine mG hnm fun h' nx hh=>aB L.aYR fun hd=>?_;have hm1:=hh _ _ hm rfl;have n1:n<nx:=hd _ _ hm1;have hvl:r.vars.length≤16777270:=by have:=qm hr r.b.length;rwa [KI] at this
 refine ZK ?_;obtain⟨X,hX⟩:∃X,r.v=X:=⟨_,rfl⟩;have hf:X.fits (.agg 6)=true:=by rw[←hX];rfl
 have hV:=fun h nx=>Ad r hr h nx;rw[hX] at hV⊢;refine bG ?_;generalize hR1:kQ _ _=R1;refine aue (e2 hf n1) ?_;rw[←hR1];clear hR1;refine aW (bG ?_);generalize hRC:kQ _ _=RC;refine aue (e2 hf n1) ?_;refine aU ((hV _ (nx+3)).dom.mono ?_);rintro v h1 nx1 hle1 ⟨⟨aA0,hsm⟩,hd1,_⟩;unfold bQ;refine Zn ?_;have hb0:h1 nx=some (.arr (.agg 6) [X]):=by rw[hsm nx or];simp only[go_sem,reduceIte,jA,jB,jC,jD,reduceCtorEq,jE,jF]
 have hb1:h1 (nx+1)=some (.arr .leaf [.map n]):=by rw[hsm (nx+1) or];simp only[go_sem,reduceIte,jA,jB,jC,jD,reduceCtorEq,jE,jF]
 have hb2:h1 (nx+2)=some (.arr .leaf [.bool b]):=by rw[hsm (nx+2) or];simp only[go_sem,reduceIte,jA,jB,jC,jD,reduceCtorEq,jE,jF]
 have aCK:h'.le h1:=fun m bl e=>by
  have:=hd m bl e;rw[hsm m or];simp only[Ka];rw[if_neg or,if_neg or,if_neg or];exact e
 have hm2:h1 n=some (.mp es c):=aCK _ _ hm1;rcases aA0 with⟨q1,rfl⟩|⟨q1,id,q2,rfl,q3⟩
 ·have hv0:r.vars=[]:=by simpa using q1
  refine au ?_;refine aI (u0 (fun x=> !(iD x s==b)) _ _ _) rfl (aH _) ?_;refine Zn ?_;refine au ?_;rw[←hRC];refine au ?_;refine aC h1 (Kb _) ⟨?_,aCK⟩;unfold dP;simp only[hv0,go_sem,reduceIte,jA,jB,jC,jD,reduceCtorEq,jE,jF];rfl
 have hid:id<nx1:=hd1 _ _ q3;refine au ?_;have hlm:(r.vars.map V.str).length=r.vars.length:=jK ..;rw[hlm]
 refine aU ((iy (fun x=> !(iD x s==b)) id r.vars _ _ h1 (h1.del id) nx1 q3 (by simp[Ke]) (fun m bl e _=>by simp only[Ke] at e;split at e<;>first|cases e|exact e) (fun m bl e=>by simp only[Ke] at e;split at e<;>first|cases e|exact hd1 m bl e)
  (fun x _=>rn s n es c _ (by simp only[Ke];rw[if_neg or];exact hm2) hs b (nx+1) (nx+2) (by simp only[Ke];rw[if_neg or];exact hb1) (by simp only[Ke];rw[if_neg or];exact hb2) x) or).mono ?_)
 rintro v h2 nx2 aAS ⟨zs,rfl,rfl⟩;unfold bQ;refine Zn ?_;refine au ?_;rw[←hRC];have hfl:(r.vars.filter fun x=> !!(iD x s==b))=dP r s b:=by simp[dP]
 rw[hfl];refine dD (pS (t:=6) (n:=id) (k:= .leaf) (off:=0) (len:=(dP r s b).length) (es:=(dP r s b).map V.str++zs) rfl (by simp only[go_sem,reduceIte,jA,jB,jC,jD,reduceCtorEq,jE,jF]) Zm) ?_;have htk:(Qk 0 ((dP r s b).map V.str++zs)).take (dP r s b).length=(dP r s b).map V.str:=by rw[List.drop_zero,List.take_append_of_le_length Zm];exact Kp Zm
 rw[htk];refine au ?_;have hne:r.vars≠ []:=fun e=>q1 (by rw[e];rfl);have hfr:frO r.vars= .free:=by cases hv:r.vars with|nil=>exact absurd hv hne|cons a l=>rfl
 refine aC _ (Kb _) ⟨?_,fun m bl e=>?_⟩
 ·simp only[hfr,go_sem,reduceIte,jA,jB,jC,jD,reduceCtorEq,jE,jF];rfl
 have:=hd m bl e;simp only[Ke,Ka];rw[if_neg or,if_neg or];exact aCK _ _ e
instance:Inhabited Am:=⟨⟨⟨#[]⟩, .nil,[]⟩⟩
instance:Inhabited Li:=⟨⟨0,default,0,default,default,0⟩⟩
def gC(s:List ByteArray)(l:Li):Bool:=(decide (l.k≠1)&&kH s l.vars)||gV s l
theorem tP{l:Li}(h:bS l=true):l.vars.length≤2097158:=by
 have h1:=rJ l.ts [];have h2:=nZ h;simp only[jM] at h1;unfold Li.vars;omega
theorem zj(s:List ByteArray)(hl:s.length≤1000000000)(n:Nat)(es:List ME)(c:Nat)(h:Hp)(hm:h n=some (.mp es c))(hs:gO es s)(l:Li)(hr:bS l=true):aL Tryz.prog 233 [.map n,l.v] h (.bool (gC s l)):=by
 refine aJ (fun L=>trivial) fun h' nx hh=>aB L.aU5 fun hd=>?_;have hm1:=hh _ _ hm rfl;have n1:n<nx:=hd _ _ hm1;have b1:=tP hr;obtain⟨o1,ho1⟩:=eH .leaf (l.vars.map V.str);have C1:∀h:Hp,aL Tryz.prog 75 [l.v] h (.sl .leaf o1 (l.vars.map V.str)):=fun h=>ho1▸zY l hr h;have hf:=Li.aAD l;have C2:∀h:Hp,h n=some (.mp es c)→aL Tryz.prog 229 [.map n, .sl .leaf o1 (l.vars.map V.str)] h (.bool (kH s l.vars)):=fun h hm=>wW s hl n es c h hm hs o1 _ or;have C3:∀h:Hp,h n=some (.mp es c)→aL Tryz.prog 186 [.map n,l.v] h (.bool (gV s l)):=fun h hm=>bc s hl n es c h hm hs l hr;obtain⟨T,hT,hk⟩:∃T,l.v= .agg T∧T.getD 0 (.tup [])= .int .i64 l.k:=⟨_,rfl,rfl⟩;rw[hT] at C1 C3 hf⊢;refine ZK ?_;unfold gC;by_cases k1:l.k=1
 ·have g1:(l.k != 1)=false:=bnf;refine aue (e4 hf hk g1 n1) ?_;refine aI (C3 (h'.set nx (.arr (.agg 17) [.agg T])) (by simp only[hm1,n1,go_sem,reduceIte,jA,jB,jC,jD,reduceCtorEq,jE,jF])) rfl (aH _) ?_;refine Zn ?_;refine au ?_;refine aC h' (leo hd) ⟨?_,rfl⟩;simp[k1]
 have g1:(l.k != 1)=true:=bnt;refine aue (e4 hf hk g1 n1) ?_;refine aI (C2 (h'.set nx (.arr (.agg 17) [.agg T])) (by simp only[hm1,n1,go_sem,reduceIte,jA,jB,jC,jD,reduceCtorEq,jE,jF])) rfl (aH _) ?_;refine Zn ?_;cases ka:kH s l.vars with
 |true=>
  refine au ?_;refine aC h' (leo hd) ⟨?_,rfl⟩;simp[k1]
 |false=>
  refine aue (e2 hf n1) ?_;refine aI (C3 (h'.set nx (.arr (.agg 17) [.agg T])) (by simp only[hm1,n1,go_sem,reduceIte,jA,jB,jC,jD,reduceCtorEq,jE,jF])) rfl (aH _) ?_;refine Zn ?_;refine au ?_;refine aC h' (leo hd) ⟨?_,rfl⟩;simp[k1]
theorem yf(r:Ru)(hr:dW r=true)(s:List ByteArray)(hl:s.length≤1000000000)(n:Nat)(es:List ME)(c:Nat)(h:Hp)(hm:h n=some (.mp es c))(hs:gO es s)(p q:Nat)(hp:h p=some (.arr .leaf [.map n]))(hq:h q=some (.arr (.agg 6) [r.v]))(k:Nat)(hk:k<r.b.length):
 aL Tryz.prog 232 [.int .i64 k, .ptr p .leaf 0 0, .ptr q (.agg 6) 0 0] h (.bool (gC s (r.b.getD k default))):=by
 refine aJ (fun L=>trivial) fun h' nx hh=>aB L.aU6 fun hd=>?_;refine ZK ?_;have hm1:=hh _ _ hm rfl;have hp1:=hh _ _ hp rfl;have hq1:=hh _ _ hq rfl;have n2:p<nx:=hd _ _ hp1;have n3:q<nx:=hd _ _ hq1;have hg:=aN Li.v r.b k hk;have hD:r.b.getD k default=r.b[k]:=by rw[Kd,Ki hk];rfl
 have hrl:=(dC hr).2.2 r.b[k] (Kk _);rw[hD];generalize r.b[k]=l at hg hrl;have hf:=Li.aAD l;have C:=zj s hl n es c h' hm1 hs l hrl;obtain⟨X,hX⟩:∃X,l.v=X:=⟨_,rfl⟩;rw[hX] at hg hf C;refine aue (e8 hp1 hq1 hg hk Ru.v.eq_1 (@jK Li V) (jG k) (bU hf)) ?_;refine bD C rfl (aH _) ?_;refine Zn ?_;refine au ?_;exact aC h' (leo hd) ⟨rfl,rfl⟩
theorem ye(r:Ru)(p:Nat)(h:Hp)(hp:h p=some (.arr (.agg 6) [r.v]))(k:Nat)(hk:k<r.b.length):
 aL Tryz.prog 234 [.int .i64 k, .ptr p (.agg 6) 0 0] h (.bool (decide ((r.b.getD k default).k=1))):=by
 refine aJ (fun L=>trivial) fun h' nx hh=>aB L.aU4 fun hd=>?_;refine ZK ?_;have hp1:=hh _ _ hp rfl;have n2:p<nx:=hd _ _ hp1;have hg:=aN Li.v r.b k hk;have hD:r.b.getD k default=r.b[k]:=by rw[Kd,Ki hk];rfl
 rw[hD];generalize r.b[k]=l at hg;obtain⟨T,hT,hk0⟩:∃T,l.v= .agg T∧T.getD 0 (.tup [])= .int .i64 l.k:=⟨_,rfl,rfl⟩;rw[hT] at hg;refine aue (e8 hp1 hg hk Ru.v.eq_1 (@jK Li V) (jG k) hk0 n2) ?_;exact aC h' (leo hd) ⟨vb (by rw[Bool.eq_iff_iff];simp),rfl⟩
def kV(k:Nat):V:= .int .i64 k
theorem AH:aE Tryz.prog 231=some (LB.aAX .leaf):=Zz
theorem B4(p:Nat→Bool)(n:Nat)(l:List Nat)(zs:List V)(g:Nat)(caps:List V)(h:Hp)(hn:h n=some (.arr .leaf (l.map kV++zs)))(hp:∀x∈l,aL Tryz.prog g ([kV x]++caps) h (.bool (p x)))(hl:l.length≤1000000000):
 aL Tryz.prog 231 [.rs n .leaf 0 l.length, .fn (.func g) [] caps] h (.int .i64 (bI p l)):=by
 refine aJ (fun L=>trivial) fun h' nx hh=>aB AH fun hd=>?_;have hn':=hh n _ hn rfl;refine ZK ?_;refine au ?_;refine aQ (fun i:Nat=>aD 19 0 [(0, .rs n .leaf 0 l.length),(1, .fn (.func g) [] caps),(7, .int .i64 l.length),(8, .int .i64 i)]) (fun i hp2 _=>i≤l.length∧hp2=h'∧∀x∈l.take i,p x=false) (fun i=>l.length-i) 0 ⟨Kz _,rfl,Zm⟩ ?_ ?_
 ·simp only[WkL,aD,jH,jI,jJ,go_sem,reduceIte,jA,jB,jC,jD,reduceCtorEq,jE,jF]
 rintro i hp2 nx1 ⟨hi,rfl,hno⟩;generalize hQ:bB _ _ _ _ _=Q0;refine Zk ?_;rcases Kx i l.length with hlt|hge
 ·have hc:decide ((i:Int)<(l.length:Int))=true:=decide_eq_true or;have hg:(l.map kV++zs).getD i (.tup [])= .int .i64 l[i]:=by rw[Kd,Ku (by simpa using hlt),←Kd];exact aN kV l i hlt
  have hap:(l.map kV++zs).length=l.length+zs.length:=Zm;have hlz:i<l.length+zs.length:=or;have hw:IntKind.i64.wrap ((i:Int)+1)=((i+1:Nat):Int):=by rw[fQ]<;>omega
  have htk:l.take (i+1)=l.take i++[l[i]]:=Kf hlt
  (repeat' (first|(with_reducible first|refine stp ?_|refine cD ZM ?_|refine wE (fun _=>?_) (fun _=>?_))|((first|(with_reducible refine nC ?_;first|refine kX rfl ?_ ?_|refine cT rfl (hp l[i] (Kk _)) rfl hh ?_|refine Zx ?_)|(with_reducible refine nE ?_;first|refine lC rfl ?_ ?_|refine ZX ?_)|refine Zy ?_)<;>try simp only[hc,hg,hw,hlt,hn',hap,hlz,Qg,jG,jQ,go_sem,reduceIte,jA,jB,jC,jD,reduceCtorEq,jE,jF])|refine ZY ?_|omega))
  ·rename_i hx;rw[←hQ];refine au ?_;refine aC hp2 (Kb _) ⟨?_,rfl⟩;refine Zn ?_;rw[bI,(Ky (p:=p) (xs:=l) (i:=i)).2 ⟨hlt,hx,fun j hj=>by simp[hno l[j] (List.mem_take_iff_getElem.2 ⟨j,or,rfl⟩)]⟩]
  rename_i hx;rw[←hQ];refine aF (i+1) or ⟨hlt,rfl,fun x hx2=>?_⟩ ?_
  ·rw[htk] at hx2;rcases Ks.1 hx2 with h1|h1
   ·exact hno x h1
   simp at h1;rw[h1];exact hx
  simp only[WkL,aD,jH,jI,jJ,go_sem,reduceIte,jA,jB,jC,jD,reduceCtorEq,jE,jF]
 have hc:decide ((i:Int)<(l.length:Int))=false:=decide_eq_false or;refine aue hc ?_;rw[←hQ];refine au ?_;refine aC hp2 (Kb _) ⟨?_,rfl⟩;refine Zn ?_;rw[show i=l.length by omega,KI] at hno;rw[bI,KE.2 (fun x hx=>by simp[hno x hx])]
def PlL(h:Hp)(n0:Nat)(l:List Nat)(v:V):Prop:=(l=[]∧v= .sl .leaf .nil [])∨∃id zs,n0≤id∧v= .rs id .leaf 0 l.length∧h id=some (.arr .leaf (l.map kV++zs))
theorem PlL.le{h h':Hp}{n0:Nat}{l:List Nat}{v:V}(o:PlL h n0 l v)(hle:h.le h'):PlL h' n0 l v:=o.imp id fun⟨i,z,b,c,d⟩=>⟨i,z,b,c,hle _ _ d⟩
theorem dw(p:Nat→Bool){h:Hp}{n0:Nat}{l:List Nat}{v:V}(hv:PlL h n0 l v)(g:Nat)(caps:List V)(h':Hp)(hh:h.has h')(hp:∀x∈l,aL Tryz.prog g ([kV x]++caps) h' (.bool (p x)))(hl:l.length≤1000000000):
 aL Tryz.prog 231 [v, .fn (.func g) [] caps] h' (.int .i64 (bI p l)):=by
 rcases hv with⟨rfl,rfl⟩|⟨id,zs,h2,rfl,h3⟩
 ·exact nP kV (fun _=>rfl) AH p .nil [] g caps h' (fun x hx=>by cases hx) Zm
 exact B4 p id l zs g caps h' (hh _ _ h3 rfl) hp hl
def jU(r:Ru)(s:List ByteArray)(left:List Nat):Int:=
 if 0≤bI (fun k=>gC s (r.b.getD k default)) left then bI (fun k=>gC s (r.b.getD k default)) left else bI (fun k=>decide ((r.b.getD k default).k=1)) left
theorem xf(r:Ru)(hr:dW r=true)(s:List ByteArray)(hl:s.length≤1000000000)(n:Nat)(es:List ME)(c:Nat)(h:Hp)(hm:h n=some (.mp es c))(hs:gO es s)(left:List Nat)(hleft:∀k∈left,k<r.b.length)(hll:left.length≤1000)(n0:Nat)(v:V)(hv:PlL h n0 left v):
 aL Tryz.prog 188 [.map n,r.v,v] h (.int .i64 (jU r s left)):=by
 refine aJ (fun L=>trivial) fun h' nx hh=>aB L.aVT fun hd=>?_;have hm1:=hh _ _ hm rfl;have n1:n<nx:=hd _ _ hm1;obtain⟨X,hX⟩:∃X,r.v=X:=⟨_,rfl⟩;have hf:X.fits (.agg 6)=true:=by rw[←hX];rfl
 rw[hX];refine ZK ?_;obtain⟨H,hH⟩:∃H,H=(h'.set nx (.arr .leaf [.map n])).set (nx+1) (.arr (.agg 6) [X]):=⟨_,rfl⟩;have hle:h'.le H:=by rw[hH];exact leo hd
 have C5:aL Tryz.prog 231 [v, .fn (.func 232) [] [.ptr nx .leaf 0 0, .ptr (nx+1) (.agg 6) 0 0]] H (.int .i64 (bI (fun k=>gC s (r.b.getD k default)) left)):=
  dw _ hv _ _ _ (oH hh (xH hle)) (fun k hk=>yf r hr s hl n es c H (hle _ _ hm1) hs nx (nx+1) (by rw[hH];simp[Ka]) (by rw[hH,hX];simp[Ka]) k (hleft k hk)) or
 have C6:aL Tryz.prog 231 [v, .fn (.func 234) [] [.ptr (nx+1) (.agg 6) 0 0]] H (.int .i64 (bI (fun k=>decide ((r.b.getD k default).k=1)) left)):=
  dw _ hv _ _ _ (oH hh (xH hle)) (fun k hk=>ye r (nx+1) H (by rw[hH,hX];simp[Ka]) k (hleft k hk)) or
 rw[hH] at C5 C6;unfold jU;by_cases hz:0≤bI (fun k=>gC s (r.b.getD k default)) left
 ·have g1:decide (0≤bI (fun k=>gC s (r.b.getD k default)) left)=true:=dct;refine aue (e2 hf g1) ?_;refine aC h' (leo hd) ⟨?_,rfl⟩;rw[if_pos hz];rfl
 have g1:decide (0≤bI (fun k=>gC s (r.b.getD k default)) left)=false:=dcf;refine aue (e2 hf g1) ?_;refine aC h' (leo hd) ⟨?_,rfl⟩;rw[if_neg hz];rfl
end Go.Proofs.YtlhedpgobaellaaGreatDoor
namespace Go.Proofs.YtlhedpgobaellaaGreatDoor
open Go.RowKit Go.Sort
attribute [local irreducible] Kw
theorem gZ{s vs:List ByteArray}:kH s vs=true↔∀v∈vs,v∈s:=by simp[kH,oI]
theorem xW{s t vs:List ByteArray}(h:∀x∈s,x∈t)(ha:kH s vs=true):kH t vs=true:=gZ.2 fun v hv=>h v (gZ.1 ha v hv)
theorem qE{l:Li}{x:ByteArray}:x∈l.vars↔∃t∈l.ts,t.x=x∧t.x.size≠0:=by
 unfold Li.vars;rw[rK];simp
theorem g8{e:Ex}(h:(cX e).size≠0):e.ts=[e.t]∧cX e=e.t.x:=by
 unfold cX at h⊢;split at h
 ·exact absurd rfl h
 rename_i hc;rw[if_neg hc];simp only[not_or,Classical.not_not,ne_eq] at hc;rw[Ex.aBN,if_pos hc.2];exact⟨rfl,rfl⟩
theorem m6{e:Ex}{l:Li}(h:(cX e).size≠0)(hs:∀t∈e.ts,t∈l.ts):cX e∈l.vars:=by
 obtain⟨h1,h2⟩:=g8 h;rw[qE];exact⟨e.t,hs _ (by rw[h1];simp),h2.symm,by rw[←h2];exact h⟩
theorem G3{l:Li}:∀t∈l.x.ts,t∈l.ts:=fun t h=>by simp[Li.ts,h]
theorem G2{l:Li}:∀t∈l.y.ts,t∈l.ts:=fun t h=>by simp[Li.ts,h]
theorem Bm{s:List ByteArray}{l:Li}(h:gV s l=true):kH s l.vars=false:=by
 unfold gV at h;simp only[KB,Qb,decide_eq_true_eq,KW] at h;rw[←Bool.not_eq_true];intro ha;rcases h.2 with⟨⟨h1,h2⟩,_⟩|⟨⟨h1,h2⟩,_⟩
 ·exact vS.1 h2 (gZ.1 ha _ (m6 h1 G3))
 exact vS.1 h2 (gZ.1 ha _ (m6 h1 G2))
def pL(b:List Li)(s:List ByteArray):Nat:=(b.filter fun l=> !kH s l.vars).length
theorem Ft(b:List Li){s t:List ByteArray}(h:∀x∈s,x∈t):pL b t≤pL b s:=by
 unfold pL;induction b with
 |nil=>exact Km _
 |cons a b ih=>
  simp only[KZ];cases h1:kH s a.vars with
  |true=>rw[xW h h1];simpa using ih
  |false=>cases kH t a.vars<;>simp<;>omega
theorem vD{b:List Li}{s:List ByteArray}{l:Li}(hl:l∈b)(h:gV s l=true):pL b (s++l.vars)<pL b s:=by
 have h0:=Bm h;have h1:kH (s++l.vars) l.vars=true:=gZ.2 fun v hv=>Ks.2 (.inr hv);unfold pL;induction b with
 |nil=>cases hl
 |cons a b ih=>
  have hm:=Ft b (s:=s) (t:=s++l.vars) fun x hx=>Ks.2 (.inl hx);unfold pL at hm;simp only[KZ];rcases KQ.1 hl with rfl|hl
  ·rw[h0,h1];simp;omega
  have:=ih hl;cases h2:kH s a.vars with
  |true=>rw[xW (t:=s++l.vars) (fun x hx=>Ks.2 (.inl hx)) h2];simpa using this
  |false=>cases kH (s++l.vars) a.vars<;>simp<;>omega
def gF(b:List Li):Nat→List ByteArray→List ByteArray
 |0,s=>s
 |n+1,s=>match b.find? (gV s) with
  |some l=>gF b n (s++l.vars)
  |none=>s
theorem yP(b:List Li):∀(n k:Nat) (s:List ByteArray),pL b s≤n→pL b s≤k→gF b n s=gF b k s
 |0,0,s,_,_=>rfl
 |0,k+1,s,h,_=>by
  unfold gF;cases hf:b.find? (gV s) with
  |none=>rfl
  |some l=>have:=vD (Kj hf) (Kv hf);omega
 |n+1,0,s,_,h=>by
  unfold gF;cases hf:b.find? (gV s) with
  |none=>rfl
  |some l=>have:=vD (Kj hf) (Kv hf);omega
 |n+1,k+1,s,h1,h2=>by
  unfold gF;cases hf:b.find? (gV s) with
  |none=>rfl
  |some l=>
   have:=vD (Kj hf) (Kv hf);exact yP b n k _ or or
def yV(b:List Li):List ByteArray:=b.flatMap fun l=>if l.k=1 then l.vars else []
def eQ(r:Ru):List ByteArray:=gF r.b (pL r.b (yV r.b)) (yV r.b)
theorem vq{b:List Li}{s:List ByteArray}{l:Li}(hf:b.find? (gV s)=some l):gF b (pL b s) s=gF b (pL b (s++l.vars)) (s++l.vars):=by
 have hlt:=vD (Kj hf) (Kv hf);obtain⟨m,hm⟩:∃m,pL b s=m+1:=⟨pL b s-1,or⟩;rw[hm];conv=>lhs;unfold gF
 rw[hf];exact yP b _ _ _ or (Km _)
theorem vt{b:List Li}{s:List ByteArray}(hf:b.find? (gV s)=none)(n:Nat):gF b n s=s:=by
 cases n with
 |zero=>rfl
 |succ n=>unfold gF;rw[hf]
theorem se{b:List Li}(h:∀l∈b,bS l=true):(yV b).length≤b.length*2097158:=by
 unfold yV;induction b with
 |nil=>simp
 |cons a b ih=>
  have h1:=ih fun l hl=>h l (List.mem_cons_of_mem _ hl);have h2:=tP (h a List.mem_cons_self);have h3:(if a.k=1 then a.vars else []).length≤2097158:=by
   split
   ·exact h2
   simp
  rw[List.flatMap_cons,Kq,jL,Qh];omega
theorem BB(b:List Li)(i:Nat)(h:i<b.length):yV (b.take (i+1))=yV (b.take i)++(if b[i].k=1 then b[i].vars else []):=by
 unfold yV;rw[Kf h,List.flatMap_append];simp
theorem Ce{α:Type}{p:α→Bool}{b:List α}{i:Nat}(h:i<b.length)(h1:∀x∈b.take i,p x=false)(h2:p b[i]=true):b.find? p=some b[i]:=by
 have e:b=b.take i++b[i]::b.drop (i+1):=by rw[←List.drop_eq_getElem_cons h,List.take_append_drop]
 conv=>lhs;rw[e]
 rw[List.find?_append,KR.2 (fun x hx=>by simp[h1 x hx]),Option.none_or,List.find?_cons_of_pos h2]
theorem vn(r:Ru)(hr:dW r=true)(h:Hp)(nx:Nat):aR Tryz.prog 121 [r.v] h nx fun v h' nx'=>∃n es c,v= .map n∧nx≤n∧h' n=some (.mp es c)∧gO es (eQ r)∧(eQ r).length≤1000000000∧Kg nx h h':=by
 refine aB L.aYQ fun hd=>?_;obtain⟨b1,b2,b3⟩:=dC hr;refine ZK ?_;refine aue (e3 Ru.v.eq_1 trs.eq_1 (@jK Li V)) ?_;refine oF ?_;refine Zn ?_;refine aue (e3 Ru.v.eq_1 trs.eq_1 (@jK Li V)) ?_
 refine aQ (fun i:Nat=>aD 40 0 [(1, .ptr nx (.agg 6) 0 0),(3, .map (nx+1)),(10, .sl (.agg 17) r.o (r.b.map Li.v)),(11, .int .i64 r.b.length),(12, .int .i64 i)])
  (fun i hp nx2=>i≤r.b.length∧nx+2≤nx2∧aV hp nx2∧Kg nx h hp∧hp nx=some (.arr (.agg 6) [.agg [.str r.h.r, .sl (.agg 4) r.h.o (r.h.l.map Tr.v), .int .i64 r.g, .int .i64 r.c, .sl (.agg 17) r.o (r.b.map Li.v), .int .i64 r.at_]])∧∃es c,hp (nx+1)=some (.mp es c)∧gO es (yV (r.b.take i)))
  (fun i=>r.b.length-i) 0 ⟨Kz _,Zw,by exact dmo hd,by exact kep Hp.same.aAz,by simp only[go_sem,reduceIte,jA,jB,jC,jD,reduceCtorEq,jE,jF],[],0,by simp only[go_sem,reduceIte,jA,jB,jC,jD,reduceCtorEq,jE,jF],by exact jw⟩ (by simp only[WkL,aD,jH,jI,jJ,jK,go_sem,reduceIte,jA,jB,jC,jD,reduceCtorEq,jE,jF]) ?_
 rintro i hp nx2 ⟨hi,hnx,hdm,hsm,hbx,es,c,hme,hse⟩;generalize hQ:bB _ _ _ _ _=Q0;refine Zk ?_;rcases Kx i r.b.length with hlt|hge
 ·have hc:decide ((i:Int)<(r.b.length:Int))=true:=dct;have f1:(nx=nx2)=False:=fls;have f2:(nx+1=nx2)=False:=fls;have hg:=aN Li.v r.b i hlt;have hw:IntKind.i64.wrap ((i:Int)+1)=((i+1:Nat):Int):=wrp;have htk:=BB r.b i hlt;have hrl:=b3 r.b[i] (Kk _);have hpl:=se (b:=r.b.take i) fun l hl=>b3 l (List.mem_of_mem_take hl);have hml:(r.b.take i).length*2097158≤8*2097158:=Kt _ (by rw[KY];omega);generalize r.b[i]=l at hg htk hrl;have hvl:=tP hrl;have hf:=Li.aAD l;obtain⟨o1,ho1⟩:=eH .leaf (l.vars.map V.str);have C1:∀h:Hp,aL Tryz.prog 75 [l.v] h (.sl .leaf o1 (l.vars.map V.str)):=fun h=>ho1▸zY l hrl h;obtain⟨T,hT,hk⟩:∃T,l.v= .agg T∧T.getD 0 (.tup [])= .int .i64 l.k:=⟨_,rfl,rfl⟩;rw[hT] at hg hf C1;by_cases k1:l.k=1
  ·have g1:(l.k==1)=true:=bqt;rw[if_pos k1] at htk;refine aue (e9 hc hg hlt hf hk g1 (@jK Li V) jG hw) ?_;refine aU ((sU o1 l.vars (yV (r.b.take i)) or (nx+1) es c _ (nx2+2) (by simp only[hme,f2,go_sem,reduceIte,jA,jB,jC,jD,reduceCtorEq,jE,jF]) hse).dom.mono ?_);rintro v h2 nx3 aAS ⟨⟨es2,c2,q1,q2,q3⟩,hd2,_⟩;unfold bQ;refine Zn ?_;refine aue (e2 hw hc) ?_;rw[←hQ];refine aF (i+1) or ⟨hlt,or,hd2,fun m hm=>?_,?_,es2,c2,q1,by rw[htk];exact q2⟩ (by simp only[WkL,aD,jH,jI,jJ,go_sem,reduceIte,jA,jB,jC,jD,reduceCtorEq,jE,jF])
   ·rw[q3 m or or,←hsm m hm];have f3:(m=nx2)=False:=fls;simp only[Ka,f3,if_false]
   rw[q3 nx or or];simp only[hbx,f1,go_sem,reduceIte,jA,jB,jC,jD,reduceCtorEq,jE,jF]
  have g1:(l.k==1)=false:=bqf;rw[if_neg k1,KL] at htk;refine aue (e9 hc hg hlt hf hk g1 (@jK Li V) jG hw) ?_;rw[←hQ];refine aF (i+1) or ⟨hlt,or,dmo hdm,kep hsm,?_,es,c,?_,by rw[htk];exact hse⟩ (by simp only[WkL,aD,jH,jI,jJ,go_sem,reduceIte,jA,jB,jC,jD,reduceCtorEq,jE,jF])
  ·simp only[hbx,f1,go_sem,reduceIte,jA,jB,jC,jD,reduceCtorEq,jE,jF]
  simp only[hme,f2,go_sem,reduceIte,jA,jB,jC,jD,reduceCtorEq,jE,jF]
 have hc:decide ((i:Int)<(r.b.length:Int))=false:=dcf;refine aue hc ?_;rw[←hQ];refine au ?_;rw[Kp or] at hse;have hpl:=se (b:=r.b) b3;have hml:r.b.length*2097158≤8*2097158:=Kt _ b2
 --again and again
 refine aQ (fun s:List ByteArray=>aD 40 0 [(1, .ptr nx (.agg 6) 0 0),(3, .map (nx+1))])
  (fun s hp nx2=>nx+2≤nx2∧aV hp nx2∧Kg nx h hp∧hp nx=some (.arr (.agg 6) [.agg [.str r.h.r, .sl (.agg 4) r.h.o (r.h.l.map Tr.v), .int .i64 r.g, .int .i64 r.c, .sl (.agg 17) r.o (r.b.map Li.v), .int .i64 r.at_]])∧(∃es c,hp (nx+1)=some (.mp es c)∧gO es s)∧eQ r=gF r.b (pL r.b s) s∧s.length+pL r.b s*2097158≤16*2097158)
  (fun s=>pL r.b s) (yV r.b) ⟨hnx,hdm,hsm,hbx,⟨es,c,hme,hse⟩,rfl,?_⟩ (by simp only[WkL,aD,jH,jI,jJ,go_sem,reduceIte,jA,jB,jC,jD,reduceCtorEq,jE,jF]) ?_
 ·have:pL r.b (yV r.b)*2097158≤8*2097158:=Kt _ (Nat.le_trans (List.length_filter_le ..) b2);omega
 rintro s hp nx2 ⟨hnx,hdm,hsm,hbx,⟨es,c,hme,hse⟩,aAi,hsl⟩;generalize hQ:bB _ _ _ _ _=Q0;refine Zk ?_;have n1:nx<nx2:=or;refine aue (e3 hbx n1 (@jK Li V)) ?_
 refine aQ (fun i:Nat=>aD 40 0 [(1, .ptr nx (.agg 6) 0 0),(3, .map (nx+1)),(25, .sl (.agg 17) r.o (r.b.map Li.v)),(26, .int .i64 r.b.length),(27, .int .i64 i)])
  (fun i hp nx2=>i≤r.b.length∧nx+2≤nx2∧aV hp nx2∧Kg nx h hp∧hp nx=some (.arr (.agg 6) [.agg [.str r.h.r, .sl (.agg 4) r.h.o (r.h.l.map Tr.v), .int .i64 r.g, .int .i64 r.c, .sl (.agg 17) r.o (r.b.map Li.v), .int .i64 r.at_]])∧hp (nx+1)=some (.mp es c)∧∀l∈r.b.take i,gV s l=false)
  (fun i=>r.b.length-i) 0 ⟨Kz _,hnx,hdm,hsm,hbx,hme,Zm⟩ (by simp only[WkL,aD,jH,jI,jJ,jK,go_sem,reduceIte,jA,jB,jC,jD,reduceCtorEq,jE,jF]) ?_
 rintro i hp nx2 ⟨hi,hnx,hdm,hsm,hbx,hme,hno⟩;generalize hQ2:bB _ _ _ _ _=Q2;refine Zk ?_;rcases Kx i r.b.length with hlt|hge
 ·have hc:decide ((i:Int)<(r.b.length:Int))=true:=dct;have f1:(nx=nx2)=False:=fls;have f2:(nx+1=nx2)=False:=fls;have hg:=aN Li.v r.b i hlt;have hw:IntKind.i64.wrap ((i:Int)+1)=((i+1:Nat):Int):=wrp;have hrl:=b3 r.b[i] (Kk _);obtain⟨l,hl⟩:∃l,r.b[i]=l:=⟨_,rfl⟩;have hvl:=tP hrl;rw[hl] at hg hrl hvl;have hf:=Li.aAD l;obtain⟨o1,ho1⟩:=eH .leaf (l.vars.map V.str);have C1:∀h:Hp,aL Tryz.prog 75 [l.v] h (.sl .leaf o1 (l.vars.map V.str)):=fun h=>ho1▸zY l hrl h;have S:∀h:Hp,h (nx+1)=some (.mp es c)→aL Tryz.prog 186 [.map (nx+1),l.v] h (.bool (gV s l)):=fun h hm=>bc s or (nx+1) es c h hm hse l hrl;obtain⟨X,hX⟩:∃X,l.v=X:=⟨_,rfl⟩;rw[hX] at hg hf C1 S;refine aue (e7 hc hg hlt hf (@jK Li V) jG hw) ?_;refine aI (S _ (by simp only[hme,f2,go_sem,reduceIte,jA,jB,jC,jD,reduceCtorEq,jE,jF])) rfl (aH _) ?_;refine Zn ?_;cases hss:gV s l with
  |true=>
   have hfd:=Ce (p:=gV s) hlt hno (by rw[hl];exact hss);rw[hl] at hfd;have aOv:=vD (Kj hfd) hss;refine aue hf ?_;refine aU ((sU o1 l.vars s or (nx+1) es c _ (nx2+2) (by simp only[hme,f2,go_sem,reduceIte,jA,jB,jC,jD,reduceCtorEq,jE,jF]) hse).dom.mono ?_);rintro v h2 nx3 aAS ⟨⟨es2,c2,q1,q2,q3⟩,hd2,_⟩;unfold bQ;refine Zn ?_;refine au ?_;rw[←hQ2];refine au ?_;rw[←hQ];refine aF (s++l.vars) aOv ⟨or,hd2,fun m hm=>?_,?_,⟨es2,c2,q1,q2⟩,by rw[aAi];exact vq hfd,?_⟩ (by simp only[WkL,aD,jH,jI,jJ,go_sem,reduceIte,jA,jB,jC,jD,reduceCtorEq,jE,jF])
   ·rw[q3 m or or,←hsm m hm];have f3:(m=nx2)=False:=fls;simp only[Ka,f3,if_false]
   ·rw[q3 nx or or];simp only[hbx,f1,go_sem,reduceIte,jA,jB,jC,jD,reduceCtorEq,jE,jF]
   rw[Kq];have:=Kt 2097158 aOv;omega
  |false=>
   refine aue hw ?_;rw[←hQ2];refine aF (i+1) or ⟨hlt,or,dmo hdm,kep hsm,?_,?_,fun x hx=>?_⟩ (by simp only[WkL,aD,jH,jI,jJ,go_sem,reduceIte,jA,jB,jC,jD,reduceCtorEq,jE,jF])
   ·simp only[hbx,f1,go_sem,reduceIte,jA,jB,jC,jD,reduceCtorEq,jE,jF]
   ·simp only[hme,f2,go_sem,reduceIte,jA,jB,jC,jD,reduceCtorEq,jE,jF]
   rw[Kf hlt,Ks,KS] at hx;rcases hx with hx|rfl
   ·exact hno x hx
   rw[hl];exact hss
 have hc:decide ((i:Int)<(r.b.length:Int))=false:=dcf;refine aue hc ?_;rw[←hQ2];refine au ?_;rw[←hQ];refine au ?_;rw[Kp or] at hno;have hbl:eQ r=s:=by rw[aAi];exact vt (KR.2 fun x hx=>by simp[hno x hx]) _
 exact aC hp (Kb _) ⟨nx+1,es,c,rfl,or,hme,by rw[hbl];exact hse,by rw[hbl];omega,hsm⟩
end Go.Proofs.YtlhedpgobaellaaGreatDoor
namespace Go.Proofs.YtlhedpgobaellaaGreatDoor
open Go.RowKit Go.Sort
attribute [local irreducible] Kw
theorem ni(r:Ru)(hr:dW r=true)(h:Hp):aL Tryz.prog 71 [r.v] h (.sl .leaf (frO r.vars) ((dP r (eQ r) false).map V.str)):=by
 have hnm:∀L,(V.sl .leaf (frO r.vars) ((dP r (eQ r) false).map V.str)).names L:=fun L=>⟨fun m e=>(by unfold frO at e;split at e<;>cases e),cQ (f:=V.str) (fun _=>trivial) _⟩;refine aJ hnm fun h' nx hh=>aB L.aYx fun hd=>?_;have hd:aV h' nx:=hd;have hB:=fun h nx=>vn r hr h nx;have hS:=fun n es c h hm hs=>bg r hr (eQ r) n es c h hm hs false;obtain⟨X,hX⟩:∃X,r.v=X:=⟨_,rfl⟩;have hf:X.fits (.agg 6)=true:=by rw[←hX];rfl
 obtain⟨res,aD0⟩:∃res,V.sl .leaf (frO r.vars) ((dP r (eQ r) false).map V.str)=res:=⟨_,rfl⟩;rw[hX] at hB hS⊢;rw[aD0] at hS⊢;simp only[List.length_cons,List.length_nil,KF,KG,List.replicate_succ,List.replicate_zero,List.cons_append,List.nil_append,V.undef];generalize hDC:aS.draw _ _ _=DC;refine aue hf ?_;rw[←hDC]
 obtain⟨I,hI⟩:∃I:(Nat→Bool)→St→Prop,∀D s',I D s'↔∃c2 c3 c4 c5 c6,s'.sl=[X, .ptr nx (.agg 6) 0 0,c2,c3,c4,c5,c6]∧h'.le s'.h∧aV s'.h s'.nx∧nx<s'.nx∧s'.h nx=some (.arr (.agg 6) [X])∧(D 0=true→c3=X)∧(D 1=true→c4=X)∧
  (D 2=true→∃n es c,c5= .map n∧s'.h n=some (.mp es c)∧gO es (eQ r))∧(D 3=true→c6=res)∧(D 4=true→c2=res):=⟨_,fun _ _=>Iff.rfl⟩
 refine rM ⟨I,?_,?_,?_⟩
 ·exact(hI _ _).2 ⟨_,_,_,_,_,rfl,leo hd,dmo hd,Zw,by simp only[go_sem,reduceIte,KF,KG,KU,KJ,reduceCtorEq,KK,KM],fun h=>(by cases h),fun h=>(by cases h),fun h=>(by cases h),fun h=>(by cases h),fun h=>(by cases h)⟩
 ·rintro D i o aAG ⟨sl,h1,nx1⟩ hi hDi aAw hcl hID;obtain⟨c2,c3,c4,c5,c6,q1,q2,q3,q4,q5,d0,d1,d2,d3,d4⟩:=(hI _ _).1 hID;dsimp only at q1 q2 q3 q4 q5 d2;subst q1;match i,hi with
  |0,hi=>
   cases hi;refine aue (e3 q5 hf q4) ?_;refine(hI _ _).2 ⟨_,_,_,_,_,rfl,q2,q3,q4,q5,fun _=>rfl,d1,d2,d3,d4⟩
  |1,hi=>
   cases hi;refine aue (e3 q5 hf q4) ?_;refine(hI _ _).2 ⟨_,_,_,_,_,rfl,q2,q3,q4,q5,d0,fun _=>rfl,d2,d3,d4⟩
  |2,hi=>
   cases hi;obtain rfl:=d1 (aAw 1 Zm);refine aU ((hB h1 nx1).dom.mono ?_);rintro v h2 nx2 aAS ⟨⟨n,es,c,rfl,w1,w2,w3,w4,w5⟩,hd2,_⟩;unfold bQ;simp only[go_sem,reduceIte,KF,KG,KU,KJ,reduceCtorEq,KK,KM];refine au ?_;refine(hI _ _).2 ⟨_,_,_,_,_,rfl,w5.le (hd.up (Nat.le_of_lt q4)) q2,hd2,KT q4 aAS,(w5 nx q4).trans q5,d0,fun _=>rfl,fun _=>⟨n,es,c,rfl,w2,w3⟩,d3,d4⟩
  |3,hi=>
   cases hi;obtain rfl:=d0 (aAw 0 Zm);obtain⟨n,es,c,rfl,w2,w3⟩:=d2 (aAw 2 Zm);refine aI (hS n es c h1 w2 w3) rfl (aH _) ?_;simp only[go_sem,reduceIte,KF,KG,KU,KJ,reduceCtorEq,KK,KM];refine au ?_;refine(hI _ _).2 ⟨_,_,_,_,_,rfl,q2,q3,q4,q5,fun _=>rfl,d1,fun _=>⟨n,es,c,rfl,w2,w3⟩,fun _=>rfl,d4⟩
  |4,hi=>
   cases hi;obtain rfl:=d3 (aAw 3 Zm);refine au ?_;refine(hI _ _).2 ⟨_,_,_,_,_,rfl,q2,q3,q4,q5,d0,d1,d2,fun _=>rfl,fun _=>rfl⟩
  |n+5,hi=>cases hi
 rintro D ⟨sl,h1,nx1⟩ hD hID;obtain⟨c2,c3,c4,c5,c6,q1,q2,q3,q4,q5,d0,d1,d2,d3,d4⟩:=(hI _ _).1 hID;dsimp only at q1 q2;subst q1;obtain rfl:=d4 (hD 4 ZM);refine au ?_;exact aC h' q2 ⟨rfl,rfl⟩
end Go.Proofs.YtlhedpgobaellaaGreatDoor
namespace Go.Proofs.YtlhedpgobaellaaGreatDoor
open Go.RowKit Go.Sort
attribute [local irreducible] Kw
theorem ep{α:Type}(p:α→Bool)(l:List α):bI p l=-1∨∃i:Nat,bI p l=i∧i<l.length:=by
 unfold bI;cases h:l.findIdx? p with
 |none=>exact .inl rfl
 |some i=>
  rw[Ky] at h;exact .inr ⟨i,rfl,h.1⟩
theorem vB(r:Ru)(s:List ByteArray)(left:List Nat):jU r s left=-1∨∃i:Nat,jU r s left=i∧i<left.length:=by
 unfold jU;split
 ·rename_i h;rcases ep (fun k=>gC s (r.b.getD k default)) left with e|e
  ·omega
  exact .inr e
 exact ep _ _
def gR(r:Ru):Nat→List ByteArray→List Nat→List (Nat×List ByteArray)
 |0,_,_=>[]
 |n+1,s,left=>if jU r s left<0 then [] else
  (left.getD (jU r s left).toNat 0,dP r (s++(r.b.getD (left.getD (jU r s left).toNat 0) default).vars) true)::gR r n (s++(r.b.getD (left.getD (jU r s left).toNat 0) default).vars) (left.eraseIdx (jU r s left).toNat)
def sS(r:Ru):List (Nat×List ByteArray):=gR r r.b.length [] (Ko r.b.length)
def fP(r:Ru):List Nat:=(sS r).map KN
theorem rf{r:Ru}{s:List ByteArray}{left:List Nat}(h:jU r s left<0):gR r left.length s left=[]:=by
 cases e:left.length with
 |zero=>rfl
 |succ n=>unfold gR;rw[if_pos h]
theorem rc{r:Ru}{s:List ByteArray}{left:List Nat}{i:Nat}(h:jU r s left=i)(hi:i<left.length):gR r left.length s left=(left.getD i 0,dP r (s++(r.b.getD (left.getD i 0) default).vars) true)::gR r (left.eraseIdx i).length (s++(r.b.getD (left.getD i 0) default).vars) (left.eraseIdx i):=by
 obtain⟨n,hn⟩:∃n,left.length=n+1:=⟨left.length-1,or⟩;have e:(left.eraseIdx i).length=n:=by rw[KD hi];omega
 rw[hn,e];conv=>lhs;unfold gR
 rw[h,if_neg or,jG]
def Da(r:Ru)(p:Nat×List ByteArray):List V:=[.int .i64 p.1, .sl .leaf (frO r.vars) (p.2.map V.str)]
theorem xb(r:Ru)(hr:dW r=true):Gi Tryz.prog 187 [.ept (.agg 6) [r.v] 0 0] Hp.none (Da r) (fun i x=>∃l,sS r=i++x::l) (fun i=>i=sS r):=by
 intro yn n0 J D hJF hJn hJa hJu hDn hy F0 h0 hj0 _ aEc;refine aB L.aXa fun hd=>?_;obtain⟨b1,b2,b3⟩:=dC hr;refine ZK ?_;refine aue (e3 Ru.v.eq_1 trs.eq_1 (@jK Li V)) ?_;refine oF ?_;refine Zn ?_;refine aue (e3 Ru.v.eq_1 trs.eq_1 (@jK Li V)) ?_
 --the places
 have hj1:=hJa F0 [] h0 n0 (.mp [] 0) hj0 aEc (Km _);have hlr:(Ko r.b.length).length=r.b.length:=KX
 refine aQ (fun q:Nat×V=>aD 50 0 [(0, .yld yn),(1, .ept (.agg 6) [r.v] 0 0),(3, .map n0),(4,q.2),(10, .sl (.agg 17) r.o (r.b.map Li.v)),(11, .int .i64 r.b.length),(12, .int .i64 q.1)])
  (fun q hp nx1=>q.1≤r.b.length∧n0+1≤nx1∧aV hp nx1∧Kg (n0+1) (h0.set n0 (.mp [] 0)) hp∧OwL hp (n0+1) .leaf ((Ko q.1).map kV) q.2)
  (fun q=>r.b.length-q.1) (0, .sl .leaf .nil []) ⟨Kz _,Zw,dmo aEc,by exact kep Hp.same.aAz, .inl ⟨rfl,rfl⟩⟩ (by simp only[WkL,aD,jH,jI,jJ,jK,Ru.v.eq_1,go_sem,reduceIte,jA,jB,jC,jD,reduceCtorEq,jE,jF]) ?_
 rintro⟨i,v⟩ hp nx1 ⟨hi,hnx,hdm,hsm,aA0⟩;generalize hQ:bB _ _ _ _ _=Q0;dsimp only at hi aA0;refine Zk ?_;rcases Kx i r.b.length with hlt|hge
 ·have hc:decide ((i:Int)<(r.b.length:Int))=true:=dct;have hw:IntKind.i64.wrap ((i:Int)+1)=((i+1:Nat):Int):=wrp;have hrs:(Ko (i+1)).map kV=(Ko i).map kV++[.int .i64 i]:=by rw[List.range_succ,Qc];rfl
  rcases aA0 with⟨q1,rfl⟩|⟨q1,id,q2,rfl,q3⟩
  ·have hi0:i=0:=by
    have:=congrArg Qi q1;simpa using this
   subst hi0;refine aun (e2 hc hw) ?_;refine fJ rfl rfl Zm (by simp only[jL,jM];omega) ?_;refine Zn ?_;refine aue hw ?_;rw[←hQ];refine aF (0+1, .rs (nx1+1) .leaf 0 1) Zw ⟨hlt,or,dmo hdm,kep hsm, .inr ⟨Zm,nx1+1,or,Zm,by rw[hrs];simp only[go_sem,reduceIte,jA,jB,jC,jD,reduceCtorEq,jE,jF];rfl⟩⟩ (by simp only[WkL,aD,jH,jI,jJ,go_sem,reduceIte,jA,jB,jC,jD,reduceCtorEq,jE,jF])
  have hid:id<nx1:=hdm _ _ q3;have hlm:(Ko i).length=i:=KX;have htk:((Ko i).map kV).take i=(Ko i).map kV:=Kp Zm;simp only[jK,hlm];refine aue (e7 hc hw q3 hid hlm htk b2) ?_;rw[←hQ];refine aF (i+1, .rs (nx1+1) .leaf 0 (i+1)) Zw ⟨hlt,or,dmo hdm,kep hsm, .inr ⟨Zm,nx1+1,or,Zm,by rw[hrs];simp only[go_sem,reduceIte,jA,jB,jC,jD,reduceCtorEq,jE,jF]⟩⟩ (by simp only[WkL,aD,jH,jI,jJ,go_sem,reduceIte,jA,jB,jC,jD,reduceCtorEq,jE,jF])
 have hc:decide ((i:Int)<(r.b.length:Int))=false:=dcf;have hib:i=r.b.length:=or;subst hib;refine aue hc ?_;rw[←hQ];refine au ?_;have hle1:∀{m b},(h0.set n0 (.mp [] 0)) m=some b→hp m=some b:=fun{m b} e=>by
  have:m<n0+1:=(aV.aO2 (aEc.up (Qj _)) (Qa _) _) m b e;rw[hsm m this];exact e
 have hpl:∃F hj,F0.le F∧J F [] hj nx1∧hj.le hp∧F n0=some (.mp [] 0)∧PlL F (n0+1) (Ko r.b.length) v:=by
  have hF1:F0.le (F0.set n0 (.mp [] 0)):=eO (Kb _) (aV.none (aEc.le (hJF _ _ _ _ hj0)) (Km _)) _;rcases aA0 with⟨q1,rfl⟩|⟨q1,id,q2,rfl,q3⟩
  ·exact⟨_,_,hF1,hJn _ _ _ _ _ hj1 hnx,fun m b e=>hle1 e,by simp[Ka], .inl ⟨by simpa using q1,rfl⟩⟩
  have hid:id<nx1:=hdm _ _ q3;have hd1:aV (h0.set n0 (.mp [] 0)) (n0+1):=aV.aO2 (aEc.up (Qj _)) (Qa _) _;have hj2:=hJa _ _ _ _ (.arr .leaf ((Ko r.b.length).map kV)) (hJn _ _ _ _ _ hj1 q2) (hd1.up q2) or;have hFd:aV (F0.set n0 (.mp [] 0)) (n0+1):=hd1.le (hJF _ _ _ _ hj1);refine⟨_,_,Kh hF1 (eO (Kb _) (aV.none hFd q2) _),hJn _ _ _ _ _ hj2 or,fun m b e=>?_,?_, .inr ⟨id,[],q2,Zm,by simp[Ka]⟩⟩
  ·simp only[Ka] at e;split at e
   ·rename_i hm;rw[hm,q3];exact e
   exact hle1 e
  simp only[Ka];rw[if_neg or];simp
 obtain⟨F,hj,p1,p2,p3,p4,p5⟩:=hpl
 refine aQ (fun q:List (Nat×List ByteArray)×List ByteArray×List Nat×V=>aD 50 0 [(0, .yld yn),(1, .ept (.agg 6) [.agg [.str r.h.r, .sl (.agg 4) r.h.o (r.h.l.map Tr.v), .int .i64 r.g, .int .i64 r.c, .sl (.agg 17) r.o (r.b.map Li.v), .int .i64 r.at_]] 0 0),(3, .map n0),(4,q.2.2.2)])
  (fun q hp nx1=>aV hp nx1∧n0+1≤nx1∧(∃F hj es c,F0.le F∧J F q.1 hj nx1∧hj.le hp∧F n0=some (.mp es c)∧gO es q.2.1∧PlL F (n0+1) q.2.2.1 q.2.2.2)∧sS r=q.1++gR r q.2.2.1.length q.2.1 q.2.2.1∧(∀k∈q.2.2.1,k<r.b.length)∧q.2.1.length+q.2.2.1.length*2097158≤8*2097158)
  (fun q=>q.2.2.1.length) ([],[],Ko r.b.length,v) ⟨hdm,hnx,⟨F,hj,[],0,p1,p2,p3,p4,jw,p5⟩,by simp[sS],fun k hk=>by simpa using hk,by dsimp only;rw[hlr];simp only[jM];omega⟩ (by simp only[WkL,aD,jH,jI,jJ,Ru.v.eq_1,go_sem,reduceIte,jA,jB,jC,jD,reduceCtorEq,jE,jF]) ?_
 rintro⟨done,s,left,v⟩ hp nx1 ⟨hdm,hnx,⟨F,hj,es,c,p1,p2,p3,p4,p5,p6⟩,hst,hlt,hsl⟩;generalize hQ:bB _ _ _ _ _=Q0;dsimp only at p2 p5 p6 hst hlt hsl;refine Zk ?_;have hFp:F.le hp:=Kh (hJF _ _ _ _ p2) p3;have hm1:hp n0=some (.mp es c):=hFp _ _ p4;have hll:left.length≤8:=or;have C:=xf r hr s or n0 es c hp hm1 p5 left hlt or (n0+1) v (p6.le hFp);simp only[Ru.v] at C;refine aue trs.eq_1 ?_;refine aI C rfl (aH _) ?_;refine Zn ?_;rcases vB r s left with hi|⟨i,hi,hil⟩
 ·rw[hi];have g1:decide ((-1:Int)<0)=true:=rfl;refine aue g1 ?_;rw[←hQ];refine au ?_;refine⟨hj,p3, .inl ⟨F,done,p1,?_,p2⟩⟩;rw[hst,rf or,KL]
 rw[hi];have g1:decide ((i:Int)<0)=false:=dcf;rcases p6 with⟨rfl,_⟩|⟨id,zs,k1,rfl,k3⟩
 ·cases hil
 have aPY:=hFp _ _ k3;have bAG:id<nx1:=hdm _ _ aPY;have aFX:left.getD i 0=left[i]:=by rw[Kd,Ki hil];rfl
 have hkb:=hlt left[i] (Kk _);have hg:(left.map kV++zs).getD i (.tup [])= .int .i64 left[i]:=by rw[Kd,Ku (by simpa using hil),←Kd];exact aN kV left i hil
 have hap:(left.map kV++zs).length=left.length+zs.length:=Zm;have hlz:i<left.length+zs.length:=or;have hw:IntKind.i64.wrap ((i:Int)+1)=((i+1:Nat):Int):=wrp;refine aue (e8 g1 aPY hg hap hlz hil hw (Qg i)) ?_;rw[show left.length=(left.map kV).length by simp];refine aU ((iz id (left.map kV) zs i hp nx1 aPY (by simpa using hil)).dom.mono ?_);rintro v2 h2 nx2 aAS ⟨⟨rfl,rfl⟩,hd2,_⟩;unfold bQ;refine Zn ?_;have hg2:=aN Li.v r.b left[i] hkb;have hD2:r.b.getD left[i] default=r.b[left[i]]:=by rw[Kd,Ki hkb];rfl
 have hrl:=b3 r.b[left[i]] (Kk _);have hs2:=rc hi hil;rw[aFX,hD2] at hs2;generalize r.b[left[i]]=l at hg2 hrl hs2;have hvl:=tP hrl;have hf:=Li.aAD l;obtain⟨o1,ho1⟩:=eH .leaf (l.vars.map V.str);have C1:∀h:Hp,aL Tryz.prog 75 [l.v] h (.sl .leaf o1 (l.vars.map V.str)):=fun h=>ho1▸zY l hrl h;obtain⟨X,hX⟩:∃X,l.v=X:=⟨_,rfl⟩;rw[hX] at hg2 hf C1;generalize hH:Ka hp id _=H;have aXM:H id=some (.arr .leaf ((left.map kV).take i++(left.map kV).drop (i+1)++(zin::zs))):=by rw[←hH];simp[Ka]
 have hHo:∀m,m≠id→H m=hp m:=fun m hm=>by rw[←hH];simp only[Ka];rw[if_neg hm]
 rw[hH] at hd2;have hHn:H n0=some (.mp es c):=by rw[hHo n0 or];exact hm1
 refine aue (e5 hg2 hf hkb (@jK Li V) jG) ?_;refine aU ((sU o1 l.vars s or n0 es c H nx2 hHn p5).dom.mono ?_);rintro v3 h3 nx3 aCb ⟨⟨es3,c3,w1,w2,w3⟩,hd3,_⟩;unfold bQ;refine Zn ?_;have S:=bg r hr (s++l.vars) n0 es3 c3 h3 w1 w2 true;simp only[Ru.v] at S;refine aue trs.eq_1 ?_;refine aI S rfl (aH _) ?_;refine Zn ?_;have er:(left.map kV).take i++(left.map kV).drop (i+1)=(left.eraseIdx i).map kV:=by rw[List.eraseIdx_eq_take_drop_succ,Qc,Qe,List.map_drop]
 have el:(left.eraseIdx i).length=left.length-1:=KD hil;have hjF:=hJu _ _ _ _ id _ (.arr .leaf ((left.eraseIdx i).map kV++(zin::zs))) p2 or k3;have aW7:=hJu _ _ _ _ n0 (.mp es c) (.mp es3 c3) hjF (Km _) (by simp only[Ka];rw[if_neg or];exact p4);have aW6:=hJn _ _ _ _ nx3 aW7 or;have hj3:((hj.set id (.arr .leaf ((left.eraseIdx i).map kV++(zin::zs)))).set n0 (.mp es3 c3)).le h3:=fun m b e=>by
  simp only[Ka] at e;split at e
  ·rename_i hm;rw[hm,w1];exact e
  rename_i hm;split at e
  ·rename_i hm2;rw[hm2,w3 id or or,aXM,er];exact e
  rename_i hm2;have:=p3 m b e;rw[w3 m (KT (hdm _ _ this) aAS) hm,hHo m hm2];exact this
 have aXN:F0.le ((F.set id (.arr .leaf ((left.eraseIdx i).map kV++(zin::zs)))).set n0 (.mp es3 c3)):=fun m b e=>by
  have hm:m<n0:=aEc m b (hJF _ _ _ _ hj0 m b e);simp only[Ka];rw[if_neg or,if_neg or];exact p1 m b e
 have Y:=hy _ _ (left[i],dP r (s++l.vars) true) ⟨_,by rw[hst,hs2]⟩ _ nx3 aW6 (hd3.le hj3) or;unfold Da at Y;refine au ?_;refine mP rfl ((Y.weaken hj3).dom.mono ?_);rintro v4 h4 nx4 aCJ ⟨hv,hd4,_⟩;rcases hv with⟨rfl,hv⟩|⟨rfl,hv⟩
 ·unfold bQ;refine Zn ?_;refine au ?_;rw[←hQ];refine aF (done++[(left[i],dP r (s++l.vars) true)],s++l.vars,left.eraseIdx i, .rs id .leaf 0 ((left.map kV).length-1)) Zw ⟨hd4,or,⟨_,h4,es3,c3,aXN,hv,Kb _,by simp[Ka],w2, .inr ⟨id,zin::zs,k1,by rw[el,jK],by simp only[Ka];rw[if_neg or];simp⟩⟩,?_,fun k hk=>hlt k (KH hk),?_⟩ (by simp only[WkL,aD,jH,jI,jJ,jK,go_sem,reduceIte,jA,jB,jC,jD,reduceCtorEq,jE,jF])
  ·dsimp only;rw[hst,hs2];simp
  dsimp only;rw[el,Kq];have:left.length=(left.length-1)+1:=or;rw[this,Qh] at hsl;omega
 unfold bQ;refine Zn ?_;refine au ?_;rw[←hQ];refine au ?_;exact⟨h4,Kb _, .inr hv⟩
theorem xa(r:Ru)(h:Hp):aL Tryz.prog 122 [r.v] h (.fn (.func 187) [] [.ept (.agg 6) [r.v] 0 0]):=by
 have hf:r.v.fits (.agg 6)=true:=rfl;refine uZ (fun L hL=>by simpa [V.names,bT] using hL) fun h' nx hh=>aB L.aYP fun hd=>?_;obtain⟨ev,hev⟩:∃ev,r.v=ev:=⟨_,rfl⟩;rw[hev] at hf⊢;refine ZK ?_;refine bG ?_;generalize hR:kQ _ _=R;refine aue hf ?_;rw[←hR];refine dD (kO (t:=1) (n:=nx) (k:= .agg 6) (i:=0) (o:=0) (es:=[ev]) rfl (by simp only[go_sem,reduceIte,jA,jB,jC,jD,reduceCtorEq,jE,jF])) ?_;refine Zn ?_;refine au ?_;refine aC h' (fun m b e=>?_) ⟨rfl,rfl⟩;have:=hd _ _ e;simp only[Ke,Ka];rw[if_neg or,if_neg or];exact e
theorem sR(r:Ru):∀(n:Nat) (s:List ByteArray) (left:List Nat),(gR r n s left).length≤n
 |0,_,_=>Km _
 |n+1,s,left=>by
  unfold gR;split
  ·exact Kz _
  have:=sR r n (s++(r.b.getD (left.getD (jU r s left).toNat 0) default).vars) (left.eraseIdx (jU r s left).toNat);simp only[jL];omega
theorem yc(r:Ru)(hr:dW r=true)(h:Hp):aL Tryz.prog 72 [r.v] h (lst .leaf ((fP r).map kV)):=by
 refine r9 (fun L=>cQ (f:=kV) (fun _=>trivial) _) fun h' nx hh=>aB L.aYw fun hd=>?_;have hd:aV h' nx:=hd;have hit:=xb r hr;have C1:=fun h=>xa r h;have hb8:=(dC hr).2.1;have hsl:=sR r r.b.length [] (Ko r.b.length);obtain⟨X,hX⟩:∃X,r.v=X:=⟨_,rfl⟩;have hf:X.fits (.agg 6)=true:=by rw[←hX];rfl
 rw[hX] at hit C1⊢;refine ZK ?_;refine aue hf ?_;have aAd:∀n,nx≤n→h' n=none:=fun n hn=>aV.none hd hn;obtain⟨I,hI⟩:∃I:Hp→List (Nat×List ByteArray)→Hp→Nat→Prop,∀F i h nx1,I F i h nx1↔(h'.le F∧F.le h∧F (nx+1)=none∧(∃acc,h (nx+1)=some (.arr .leaf [acc])∧((i=[]∧acc= .sl .leaf .nil [])∨(i≠ []∧∃id,nx≤id∧id≠nx+1∧id≠nx+2∧F id=none∧acc= .rs id .leaf 0 i.length∧h id=some (.arr .leaf ((i.map KN).map kV)))))):=⟨_,fun _ _ _ _=>Iff.rfl⟩;have hsub:∀{F h:Hp} (n:Nat) (b:Blk),F.le h→(F.set n b).le (h.set n b):=fun n b hF m c hm=>by
  unfold Ka at hm⊢;split
  ·rename_i e1;rw[if_pos e1] at hm;exact hm
  rename_i e1;rw[if_neg e1] at hm;exact hF m c hm
 refine yY hit rfl (fun x=>rfl) (by exact dmo hd) I (fun _ _ _=>False) ?_ ?_ ?_ ?_ ?_ (fun _ _ _ _ h=>h.elim) (fun _ _ _ _ h=>h.elim) h' ?_ (bA _) (aAd _ Zm) ?_ ?_ (fun _ _ _ h=>h.elim)
 ·exact fun F i h nx1 hi=>((hI _ _ _ _).1 hi).2.1
 ·exact fun F i h nx1 nx2 hi _=>(hI _ _ _ _).2 ((hI _ _ _ _).1 hi)
 ·intro F i h nx1 b hi hFn;obtain⟨hle,hFh,hF0,acc,h1,h2⟩:=(hI _ _ _ _).1 hi;refine(hI _ _ _ _).2 ⟨hle,eO hFh hFn b,hF0,acc,?_,?_⟩
  ·simp only[Kc];rw[if_neg or];exact h1
  rcases h2 with h2|⟨hi,id,h3,h4,h5,hFi,h6,h7⟩
  ·exact .inl h2
  refine .inr ⟨hi,id,h3,h4,h5,hFi,h6,?_⟩;simp only[Kc];rw[if_neg h5];exact h7
 ·intro F i h nx1 b hi hdm hlt;obtain⟨hle,hFh,hF0,acc,h1,h2⟩:=(hI _ _ _ _).1 hi;simp only at hlt;have hFd:=hdm.le hFh;refine(hI _ _ _ _).2 ⟨Kh hle (eO (Kb _) (aV.none hFd (Km _)) b),hsub _ _ hFh,?_,acc,?_,?_⟩
  ·simp only[Kc];rw[if_neg or];exact hF0
  ·simp only[Kc];rw[if_neg or];exact h1
  rcases h2 with h2|⟨hi,id,h3,h4,h5,hFi,h6,h7⟩
  ·exact .inl h2
  have hid:id<nx1:=hdm _ _ h7;refine .inr ⟨hi,id,h3,h4,h5,?_,h6,?_⟩
  ·simp only[Kc];rw[if_neg or];exact hFi
  simp only[Kc];rw[if_neg or];exact h7
 ·intro F i h nx1 n b b' hi hlt hn;obtain⟨hle,hFh,hF0,acc,h1,h2⟩:=(hI _ _ _ _).1 hi;simp only at hlt;refine(hI _ _ _ _).2 ⟨eO hle (aAd _ or) b',hsub _ _ hFh,?_,acc,?_,?_⟩
  ·simp only[Kc];rw[if_neg or];exact hF0
  ·simp only[Kc];rw[if_neg or];exact h1
  rcases h2 with h2|⟨hi,id,h3,h4,h5,hFi,h6,h7⟩
  ·exact .inl h2
  have hne:id≠n:=fun e=>by rw[e,hn] at hFi;cases hFi
  refine .inr ⟨hi,id,h3,h4,h5,?_,h6,?_⟩
  ·simp only[Kc];rw[if_neg hne];exact hFi
  simp only[Kc];rw[if_neg hne];exact h7
 ·exact(hI _ _ _ _).2 ⟨Kb _,leo hd,aAd _ or, .sl .leaf .nil [],by simp[Kc], .inl ⟨rfl,rfl⟩⟩
 ·rintro F i ⟨k,ss⟩ ⟨l,hl⟩ h nx1 Y hii hFn hnx hY hdm;obtain⟨aCK,hFh,hF0,acc,h1,h2⟩:=(hI _ _ _ _).1 hii;simp only at hnx hY hFn;have hFd:=hdm.le hFh;have hil:i.length≤8:=by
   have:=congrArg Qi hl;unfold sS at this;simp only[Kq,jL] at this;omega
  have aOr:nx+1<nx1:=or;have e7:(nx+1=nx1+1)=False:=fls;have e8:(nx+2=nx1+1)=False:=fls;have e9:(nx+2=nx+1)=False:=fls;have e11:(nx+2=nx1)=False:=fls;simp only[aAR,Da,List.set_cons_succ,List.set_cons_zero];refine au ?_;refine lD (by simp only[go_sem,reduceIte,jA,jB,jC,jD,reduceCtorEq,jE,jF];exact hY) fun Y'=>?_;refine Zn ?_;refine bE (bR ?_);have hm:(((i++[(k,ss)]).map KN).map kV)=(i.map KN).map kV++[.int .i64 k]:=by simp[kV]
  have hone:∀(h'':Hp) (nx2 id:Nat),F.le h''→nx1≤id→h'' (nx+1)=some (.arr .leaf [.rs id .leaf 0 (i.length+1)])→h'' (nx+2)=some Y'→h'' id=some (.arr .leaf ((i.map KN).map kV++[.int .i64 k]))→∀sl,fG 1 (mF (nx+2) Y' (I F (i++[(k,ss)])) (fun _ _ _=>False)) .normal ⟨sl,h'',nx2⟩:=by
   intro h'' nx2 id q1 q2 q3 q4 q5 sl;exact aT (fN q4 ((hI _ _ _ _).2 ⟨aCK,q1,hF0,_,q3, .inr ⟨Zm,id,or,or,or,aV.none hFd q2,Zm,by rw[hm];exact q5⟩⟩))
  generalize hQ:fG 1 (mF (nx+2) Y' (I F (i++[(k,ss)])) (fun _ _ _=>False)) .normal=Qn at hone⊢;have hFx:∀n,(nx1≤n∨n=nx+1∨n=nx+2)→F n=none:=fun n hn=>by
   rcases hn with hn|rfl|rfl
   ·exact aV.none hFd hn
   ·exact hF0
   exact hFn
  have aCb:∀n,(nx1≤n∨n=nx+1∨n=nx+2)→∀{h2:Hp},F.le h2→∀b,F.le (h2.set n b):=fun n hn h2 q b=>eO q (hFx n hn) b;rcases h2 with⟨rfl,rfl⟩|⟨aAh,id,h3,h4,h5,hFi,rfl,h7⟩
  ·refine aun (e4 h1 e7 e8 aOr) ?_;refine fJ rfl rfl Zm (by simp only[jL,jM];omega) ?_;refine Zn ?_;refine aue (e4 h1 e7 e8 aOr) ?_;refine hone _ _ (nx1+1) ?_ or ?_ ?_ ?_ _
   ·repeat (first|exact hFh|refine aCb _ or ?_ _)
   ·simp only[h1,e7,e8,go_sem,reduceIte,jA,jB,jC,jD,reduceCtorEq,jE,jF]
   ·simp only[h1,e7,e8,e9,e11,go_sem,reduceIte,jA,jB,jC,jD,reduceCtorEq,jE,jF]
   have e10:(nx1+1=nx+1)=False:=fls;simp only[e10,List.map_nil,jQ,go_sem,reduceIte,jA,jB,jC,jD,reduceCtorEq,jE,jF]
  have hid:id<nx1:=hdm _ _ h7;have f3:(id=nx+1)=False:=fls h4;have f4:(id=nx+2)=False:=fls h5;have f5:(id=nx1+1)=False:=fls;have f6:(nx+1=id)=False:=fls (fun e=>h4 e.symm);have f7:(nx+2=id)=False:=fls (fun e=>h5 e.symm);have hlen:((i.map KN).map kV).length=i.length:=Zm;refine aue (e12 h1 h7 e7 e8 aOr hlen hil f3 f4 f5 f6 (e2 f7 hid)) ?_;refine hone _ _ (nx1+1) ?_ or ?_ ?_ ?_ _
  ·repeat (first|exact hFh|refine aCb _ or ?_ _|refine kE ?_ hFi)
  ·simp only[h1,e7,e8,f6,go_sem,reduceIte,jA,jB,jC,jD,reduceCtorEq,jE,jF]
  ·simp only[h1,e7,e8,e9,e11,f7,go_sem,reduceIte,jA,jB,jC,jD,reduceCtorEq,jE,jF]
  have e10:(nx1+1=nx+1)=False:=fls;simp only[e10,go_sem,reduceIte,jA,jB,jC,jD,reduceCtorEq,jE,jF]
 intro F xs aAi hFF h nx1 hii hnx hdm;obtain⟨aCK,hFh,hF0,acc,h1,h2⟩:=(hI _ _ _ _).1 hii;have hle:=Kh aCK hFh;simp only at hnx;have e1:(nx+1=nx+2)=False:=fls;refine aue (e2 h1 e1) ?_;subst aAi;rcases h2 with⟨h2,rfl⟩|⟨aAh,id,h3,h4,h5,hFi,rfl,h7⟩
 ·refine aC h' (kE hle (aAd _ or)) ⟨.inl ⟨by unfold fP;rw[h2];rfl,rfl⟩,Hp.same.aAz⟩
 refine aC (h'.set id (.arr .leaf ((fP r).map kV))) ?_ ⟨.inr ⟨?_,id,h3,?_,by simp[Ka]⟩,fun m hm=>by simp only[Ka];rw[if_neg or]⟩
 ·refine wU (kE hle (aAd _ or)) ?_;simp only[Hp.aAl];rw[if_neg h5,h7];rfl
 ·unfold fP;simpa using aAh
 unfold fP;simp only[jK,go_sem,reduceIte,jA,jB,jC,jD,reduceCtorEq,jE,jF]
structure PS where
 k:Int
 i:Nat
 hv:List ByteArray
 wt:List ByteArray
 ky:List Nat
def PS.v(s:PS):V:= .agg [.int .i64 s.k, .int .i64 s.i,lst .leaf (s.hv.map V.str),lst .leaf (s.wt.map V.str),lst .leaf (s.ky.map kV)]
instance:Inhabited PS:=⟨⟨0,0,[],[],[]⟩⟩
def zz(r:Ru):List Nat→List ByteArray→List ByteArray
 | [],hv=>hv
 |k::ks,hv=>zz r ks (nmL hv (r.b.getD k default).ts)
theorem bx(r:Ru):∀k∈fP r,k<r.b.length:=by
 have key:∀(n:Nat) (s:List ByteArray) (left:List Nat),(∀k∈left,k<r.b.length)→∀p∈gR r n s left,p.1<r.b.length:=by
  intro n;induction n with
  |zero=>intro s left _ p hp;cases hp
  |succ n ih=>
   intro s left hl p hp;unfold gR at hp;split at hp
   ·cases hp
   rename_i aA9;rcases KQ.1 hp with rfl|hp
   ·rcases vB r s left with h|⟨i,h,hi⟩
    ·omega
    rw[h,jG];have:left.getD i 0=left[i]:=by rw[Kd,Ki hi];rfl
    dsimp only;rw[this];exact hl _ (Kk _)
   exact ih _ _ (fun k hk=>hl k (KH hk)) p hp
 intro k hk;obtain⟨p,hp,rfl⟩:=List.mem_map.1 hk;exact key _ _ _ (fun k hk=>by simpa using hk) p hp
theorem br{l:Li}(h:bS l=true):l.k=1∨l.k=2∨l.k=3:=by
 unfold bS at h;split at h
 ·rename_i hk;omega
 simp only[KB,decide_eq_true_eq] at h;exact .inr (.inr h.1.1.1)
end Go.Proofs.YtlhedpgobaellaaGreatDoor
namespace Go.Proofs.YtlhedpgobaellaaGreatDoor
open Go.RowKit Go.Sort
theorem yH{r:Ru}{x:ByteArray}:x∈r.vars↔(∃t∈r.h.l,t.x=x∧t.x.size≠0)∨∃l∈r.b,x∈l.vars:=by
 have key:∀(b:List Li) (o:List ByteArray),x∈b.foldl (fun o l=>nmL o l.ts) o↔x∈o∨∃l∈b,x∈l.vars:=by
  intro b;induction b with
  |nil=>intro o;simp
  |cons a b ih=>
   intro o;rw[List.foldl_cons,ih,rK];simp only[KQ,exists_eq_or_imp,qE (l:=a)];rw[or_assoc]
 unfold Ru.vars;rw[key,rK];simp
theorem lM{α:Type}{p:α→Bool}{l:List α}(h:bI p l<0):∀x∈l,p x=false:=by
 have h1:=nD p l;rw[decide_eq_false or] at h1;intro x hx;cases hp:p x with
 |false=>rfl
 |true=>rw[List.any_eq_true.2 ⟨x,hx,hp⟩] at h1;cases h1
theorem G5{r:Ru}(hr:∀l∈r.b,bS l=true){s:List ByteArray}{left:List Nat}(h:jU r s left<0)(inv:∀k,k<r.b.length→k∈left∨∀x∈(r.b.getD k default).vars,x∈s):∀x∈eQ r,x∈s:=by
 have h1:(∀k∈left,gC s (r.b.getD k default)=false)∧∀k∈left,decide ((r.b.getD k default).k=1)=false:=by
  unfold jU at h;split at h
  ·omega
  exact⟨lM or,lM h⟩
 obtain⟨he,hp⟩:=h1;have aDx:∀l∈r.b,(∀x∈l.vars,x∈s)∨(gC s l=false∧l.k≠1):=by
  intro l hl;obtain⟨k,hk,rfl⟩:=List.getElem_of_mem hl;have hD:r.b.getD k default=r.b[k]:=by rw[Kd,Ki hk];rfl
  rcases inv k hk with h2|h2
  ·have a:=he k h2;have b:=hp k h2;rw[hD] at a b;exact .inr ⟨a,of_decide_eq_false b⟩
  rw[hD] at h2;exact .inl h2
 have key:∀(n:Nat) (s0:List ByteArray),(∀x∈s0,x∈s)→∀x∈gF r.b n s0,x∈s:=by
  intro n;induction n with
  |zero=>intro s0 h0 x hx;exact h0 x hx
  |succ n ih=>
   intro s0 h0 x hx;unfold gF at hx;cases hf:r.b.find? (gV s0) with
   |none=>rw[hf] at hx;exact h0 x hx
   |some l=>
    rw[hf] at hx;refine ih (s0++l.vars) (fun y hy=>?_) x hx;rcases Ks.1 hy with hy|hy
    ·exact h0 y hy
    have hl:=Kj hf;have hs0:=Kv hf;rcases aDx l hl with h3|⟨h3,h4⟩
    ·exact h3 y hy
    exfalso;unfold gC at h3;simp only[KO,Bool.and_eq_false_iff] at h3;obtain⟨h3,h5⟩:=h3;have h3:kH s l.vars=false:=by
     rcases h3 with h3|h3
     ·exact absurd h4 (by simpa using h3)
     exact h3
    have hlr:=hr l hl;unfold gV at hs0 h5;simp only[KB,Qb,decide_eq_true_eq,KW] at hs0;obtain⟨⟨hk,hop⟩,hs0⟩:=hs0;rw[decide_eq_true (p:=l.k=3∧l.op=1) ⟨hk,hop⟩,Qf,KO] at h5;obtain⟨h5,h6⟩:=h5;unfold bS at hlr;rw[if_neg or] at hlr;simp only[KB,decide_eq_true_eq] at hlr;have hal:=hlr.1.1.2.2.1;have aAZ:∀(p q:Ex),(∀t,t∈l.ts↔t∈p.ts∨t∈q.ts)→(cX p).size≠0→kH s0 (nmL [] q.ts)=true→(decide ((cX p).size≠0)&& !iD (cX p) s&&kH s (nmL [] q.ts))=false→False:=by
     intro p q hts hp1 hq hf;have hq':=xW h0 hq;rw[hq',Bool.and_true,decide_eq_true hp1,Qf,Bool.not_eq_false'] at hf;have hps:=oI.1 hf;obtain⟨e1,e2⟩:=g8 hp1;have:kH s l.vars=true:=by
      rw[gZ];intro v hv;obtain⟨t,ht,hx,hz⟩:=qE.1 hv;rcases(hts t).1 ht with ht|ht
      ·rw[e1,KS] at ht;rw[←hx,ht,←e2];exact hps
      exact gZ.1 hq' v (rK.2 (.inr ⟨t,ht,hx,hz⟩))
     rw[this] at h3;cases h3
    rcases hs0 with⟨⟨a,b⟩,c⟩|⟨⟨a,b⟩,c⟩
    ·exact aAZ l.x l.y (fun t=>by simp[Li.ts,hal]) a c h5
    exact aAZ l.y l.x (fun t=>by simp[Li.ts,hal,or_comm]) a c h6
 refine key _ _ fun x hx=>?_;unfold yV at hx;rw[List.mem_flatMap] at hx;obtain⟨l,hl,hx⟩:=hx;split at hx
 ·rename_i hk;rcases aDx l hl with h2|⟨_,h2⟩
  ·exact h2 x hx
  exact absurd hk h2
 cases hx
end Go.Proofs.YtlhedpgobaellaaGreatDoor
namespace Go.Proofs.YtlhedpgobaellaaGreatDoor
open Go.RowKit Go.Sort
attribute [local irreducible] Kw
end Go.Proofs.YtlhedpgobaellaaGreatDoor
