/-
Texts of this proof,one behind the other. No conditions.
-/
import Derived.Test.YtecepaehmojpgaaGreatNn
import Derived.Test.YtecepaehmojpgaaGreatNd
import Derived.Test.YtecepaehmojpgaaGreatNg
open Go.Proofs.YtecepaehmojpgaaGreat.Hp renaming le_refl→Ka,same→Kb
open List renaming any_eq_true→Kc,take_of_length_le→Kd,mem_cons→Kj,not_mem_nil→Km,foldl_cons→Ko
open Bool renaming not_eq_false'→Ke,or_eq_false_iff→Ki
open Nat renaming le_add_right→Kf,lt_or_ge→Kg,zero_le→Kh,le_refl→Kk,le_trans→Kp
set_option linter.unusedSimpArgs false
set_option linter.unusedVariables false
set_option linter.unusedSectionVars false
set_option maxHeartbeats 8000000
open Nat renaming reduceAdd→jA,reduceSub→jB,reduceLT→jC,reduceLeDiff→jD,reduceEqDiff→jE
open Int renaming reduceToNat→jF,toNat_natCast→jG,natCast_add→jH,natCast_one→jI,natCast_zero→jJ
open List renaming length_map→jK,length_cons→jL,length_nil→jM,replicate_succ→jN,replicate_zero→jO,cons_append→jP,nil_append→jQ
namespace Go.Proofs.YtecepaehmojpgaaGreat
open Go.RowKit Go.Sort
def gi(l:List Cg)(s:Sp):Int:=(l.map fun x=>if x.s=s then x.d else 0).sum
theorem zn{l:List Cg}{s:Sp}(h:∀x∈l,x.s≠s):gi l s=0:=by
 induction l with
 |nil=>rfl
 |cons x l ih=>
  have h1:gi (x::l) s=(if x.s=s then x.d else 0)+gi l s:=rfl;rw[h1,if_neg (h x Zm),ih fun y hy=>h y (by simp[hy])];rfl
theorem xL(n:Int):eB n=false↔-1000000≤n∧n≤1000000:=by
 unfold eB;rw[Ke,Bool.and_eq_true,decide_eq_true_eq,decide_eq_true_eq]
theorem yJ(s:Sp):∀(l:List Cg) (n A:Int),(∀x∈l,eB x.d=false)→-A≤n→n≤A→A+1000000*l.length≤4000000000000000000→
 l.foldl (fun n x=>if x.s=s then IntKind.i64.wrap (n+x.d) else n) n=n+gi l s
 | [],n,A,_,_,_,_=>by simp[gi]
 |x::l,n,A,hw,h1,h2,h3=>by
  have hx:=(xL x.d).1 (hw x Zm);simp only[List.length_cons] at h3;have hs:gi (x::l) s=(if x.s=s then x.d else 0)+gi l s:=rfl;rw[Ko,hs];split
  ·rw[aY or or,yJ s l (n+x.d) (A+1000000) (fun y hy=>hw y (by simp[hy])) or or or];omega
  rw[yJ s l n A (fun y hy=>hw y (by simp[hy])) h1 h2 or];omega
theorem Cp{l:List Cg}(hw:∀x∈l,eB x.d=false)(hl:l.length≤100000)(s:Sp):tot l s=gi l s:=by
 have:=yJ s l 0 0 hw or or or;rw[Int.zero_add] at this;exact this
def oh(l:List CE):Prop:=∀y∈l,eB y.n=false
theorem xA{l:List CE}{c:Nat}(h:fK l c):xz (dT l) (uY l):=uu h
theorem wZ(l:List CE):(uY l).length=l.length:=by unfold uY;rw[List.length_map,Bs]
theorem yy{l:List CE}{s:Sp}(h:dT l s≠0):∃y∈l,y.s=s:=by
 apply Classical.byContradiction;intro hn;exact h (iH fun x hx e=>hn ⟨x,hx,e⟩)
theorem fq{l:List CE}{c:Nat}(h:fK l c)(x:Cg):x∈uY l↔∃y∈l,y.s=x.s∧y.n=x.d:=by
 rw[(xA h).2];constructor
 ·rintro⟨h1,h2⟩;obtain⟨y,hy,e⟩:=yy (l:=l) (s:=x.s) (by rw[←h1];exact h2);refine⟨y,hy,e,?_⟩;rw[h1,←e,iB h.key hy]
 rintro⟨y,hy,e1,e2⟩;have:=iB h.key hy;rw[e1] at this;exact⟨by rw[this,e2],by rw[←e2];exact h.nz y hy⟩
theorem B6{l:List CE}{c:Nat}(h:fK l c)(p:Int→Bool):(uY l).any (fun x=>p x.d)=l.any (fun y=>p y.n):=by
 rw[Bool.eq_iff_iff,Kc,Kc];constructor
 ·rintro⟨x,hx,hp⟩;obtain⟨y,hy,_,e⟩:=(fq h x).1 hx;exact⟨y,hy,by rw[e];exact hp⟩
 rintro⟨y,hy,hp⟩;exact⟨⟨y.s,y.n⟩,(fq h _).2 ⟨y,hy,rfl,rfl⟩,hp⟩
theorem BM{l:List CE}{c:Nat}(h:fK l c)(s:Sp):CK (uY l) s=dT l s:=(xA h).get s
theorem Bc{l:List Cg}(hn:l.Pairwise fun a b=>a.s≠b.s)(hs:∀x∈l,eB x.d=false)(hl:l.length≤100000)(s:Sp):tot l s=CK l s:=by
 rw[Cp hs hl];clear hs hl;induction l with
 |nil=>rfl
 |cons x l ih=>
  have hn':=List.pairwise_cons.1 hn;have h1:gi (x::l) s=(if x.s=s then x.d else 0)+gi l s:=rfl;rw[h1];unfold CK;rw[List.find?_cons];by_cases e:x.s=s
  ·rw[if_pos e,zn fun y hy e2=>hn'.1 y hy (e.trans e2.symm)];simp[e]
  rw[if_neg e,ih hn'.2];simp[e,CK]
theorem Cr{l:List CE}{c:Nat}(h:fK l c)(hs:oh l)(hl:l.length≤100000)(s:Sp):tot (uY l) s=dT l s:=by
 rw[Bc ((xA h).1.imp fun{a b} hab e=>by rw[e,Sp.aAY] at hab;cases hab) (fun x hx=>?_) (by rw[wZ];exact hl),BM h];obtain⟨y,hy,_,e⟩:=(fq h x).1 hx;rw[←e];exact hs y hy
theorem uo(a b:List Cg)(s:Sp):tot (a++b) s=rV (tot a) b s:=by
 unfold tot rV;rw[List.foldl_append]
theorem xx{l:List CE}{c:Nat}(h:fK l c)(hs:oh l)(hl:l.length≤100000)(r:List Cg):uY (eX l c r).1=xQ (uY l++r):=by
 obtain⟨h1,h2,_⟩:=oW r h;have h3:=xA h1;refine ua h3 ?_;have e:dT (eX l c r).1=tot (uY l++r):=funext fun t=>by
  rw[h2,uo];unfold rV;rw[Cr h hs hl]
 rw[e];exact Bi _
def dD(P:Int)(C r:List Cg):List Cg×Int:=
 if r.any (fM P)=true then (C,2) else if r.any (fun x=>eB x.d)=true then (C,1) else
 if (xQ (C++r)).any (fun x=>eB x.d)=true then (C,1) else (xQ (C++r),0)
theorem zz(P:Int){l:List CE}{c:Nat}(h:fK l c)(hs:oh l)(hl:l.length≤100000)(r:List Cg):dD P (uY l) r=(uY (bQ P l c r).2.1,(bQ P l c r).1):=by
 have e1:=xx h hs hl r;have e2:=B6 (oW r h).1 eB;unfold dD bQ;rw[←e1,e2]
 (repeat' split)<;>rfl
structure StC(P:Int)(l:List CE)(c K:Nat):Prop where
 ok:fK l c
 small:oh l
 right:∀y∈l,0≤y.s.p∧y.s.p<P∧y.s.t.ok=true
 len:l.length≤K
theorem Ct(P:Int)(c:Nat):StC P [] c 0:=⟨jp c,(fun y hy=>by cases hy),(fun y hy=>by cases hy),Kk _⟩
theorem StC.up{P:Int}{l:List CE}{c K K':Nat}(h:StC P l c K)(hk:K≤K'):StC P l c K':=⟨h.ok,h.small,h.right,Kp h.len hk⟩
theorem pm{P:Int}{x:Cg}(h:fM P x=false):0≤x.s.p∧x.s.p<P∧x.s.t.ok=true:=by
 unfold fM at h;simp only[Ki,decide_eq_false_iff_not,Ke] at h;exact⟨or,or,h.2⟩
theorem StC.add{P:Int}{l:List CE}{c K:Nat}(h:StC P l c K)(r:List Cg):StC P (bQ P l c r).2.1 (bQ P l c r).2.2 (K+r.length):=by
 unfold bQ;split
 ·exact h.up (Kf _ _)
 split
 ·exact h.up (Kf _ _)
 split
 ·exact h.up (Kf _ _)
 rename_i h1 h2 h3;obtain⟨q1,q2,q3⟩:=oW r h.ok;refine⟨q1,fun y hy=>?_,fun y hy=>?_,by have:=h.len;dsimp only;omega⟩
 ·cases hw:eB y.n with
  |false=>rfl
  |true=>exact absurd (Kc.2 ⟨y,hy,hw⟩) h3
 have hg:dT (eX l c r).1 y.s≠0:=by rw[iB q1.key hy];exact q1.nz y hy
 by_cases hr:∃x∈r,x.s=y.s
 ·obtain⟨x,hx,e⟩:=hr;rw[←e];refine pm ?_;cases hq:fM P x with
  |false=>rfl
  |true=>exact absurd (Kc.2 ⟨x,hx,hq⟩) h1
 rw[q2 y.s] at hg;have:rV (dT l) r y.s=dT l y.s:=by
  have:∀(r:List Cg) (n:Int),(∀x∈r,x.s≠y.s)→r.foldl (fun n x=>if x.s=y.s then IntKind.i64.wrap (n+x.d) else n) n=n:=by
   intro r;induction r with
   |nil=>intro n _;rfl
   |cons x r ih=>
    intro n h;rw[Ko,if_neg (h x Zm)];exact ih n fun z hz=>h z (by simp[hz])
  exact this r _ fun x hx e=>hr ⟨x,hx,e⟩
 rw[this] at hg;obtain⟨z,hz,e⟩:=yy hg;rw[←e];exact h.right z hz
theorem AQ{P:Int}{l:List CE}{c:Nat}{r:List Cg}(h:(bQ P l c r).1≠0):(bQ P l c r).2=(l,c):=by
 unfold bQ at h⊢;split
 ·rfl
 split
 ·rfl
 split
 ·rfl
 rename_i h1 h2 h3;rw[if_neg h1,if_neg h2,if_neg h3] at h;exact absurd rfl h
theorem xq(t:Tm)(l:List Pa):fH t l=kA t l:=by
 induction l with
 |nil=>rfl
 |cons p l ih=>rw[zP,ih];rfl
theorem cd(t:Tm)(x:Tm):∀l:List Pa,x∈kA t l↔∃p∈l,(p.of t).2=0∧(p.of t).1=x
 | []=>by simp[kA]
 |p::l=>by
  rw[kA,List.mem_append,cd t x l];constructor
  ·rintro(h|⟨q,hq,h⟩)
   ·split at h
    ·rename_i h0;exact⟨p,Zm,h0,(List.mem_singleton.1 h).symm⟩
    cases h
   exact⟨q,by simp[hq],h⟩
  rintro⟨q,hq,h1,h2⟩;rcases Kj.1 hq with rfl|hq
  ·left;rw[if_pos h1,h2];simp
  exact .inr ⟨q,hq,h1,h2⟩
theorem DT{p:Pa}{t:Tm}(h:(p.of t).2=0):(p.of t).1.ok=true:=by
 unfold Pa.of at h⊢;by_cases h1:(!p.ok|| !t.ok)=true
 ·rw[if_pos h1] at h;exact absurd h (by show¬((2:Int)=0);omega)
 rw[if_neg h1] at h⊢;by_cases h2:Tm.ok ⟨t.e,if p.n=true then p.a else p.a+t.r⟩=false
 ·rw[if_pos h2] at h;exact absurd h (by show¬((1:Int)=0);omega)
 rw[if_neg h2];simpa using h2
end Go.Proofs.YtecepaehmojpgaaGreat
namespace Go.Proofs.YtecepaehmojpgaaGreat
open Go.RowKit Go.Shelf
attribute [local irreducible] IntKind.wrap
set_option maxRecDepth 100000 in
set_option maxHeartbeats 4000000 in
theorem AK{h':Hp}{nx cb m c:Nat}{P:Int}{wv lv:V}{l:List CE}(hc:eV h' cb m P wv lv l c):
 bD Tryz.prog 39 [.ptr cb (.agg 4) 0 0] h' nx fun v h'' _=>∃cb2 m2,v= .ptr cb2 (.agg 4) 0 0∧nx≤m2∧nx≤cb2∧cb2≠m2∧h''=(h'.set m2 (.mp (l.map CE.me) c)).set cb2 (.arr (.agg 4) [lM P wv lv m2]):=by
 refine aD L.aV4 fun hd=>?_;simp only[jL,jM,jA,jB,jN,jO,jP,jQ,V.undef];have hcb:=hc.cell;have hcm:=hc.mp;have n1:cb<nx:=hd _ _ hcb;have n2:m<nx:=hd _ _ hcm;have hwf:=hc.wf;have hlf:=hc.lf;refine aus ?_;refine sF ?_;obtain⟨X,hX⟩:∃X,X=Blk.mp (l.map CE.me) c:=⟨_,rfl⟩;obtain⟨F,hF⟩:∃F:(Nat→Bool)→Nat→Nat→List V,∀D m2 b,F D m2 b=[.ptr cb (.agg 4) 0 0, .tup [],if D 15=true then .ptr b (.agg 4) 0 0 else .aAI, .ptr cb (.agg 4) 0 0, .bool false,
  if D 0=true then .ptr cb (.agg 4) 0 0 else .tup [],if D 1=true then .ptr cb (.agg 4) 0 0 else .tup [],if D 2=true then .ptr cb (.agg 4) 0 0 else .tup [],if D 3=true then .agg [.int .i64 P,wv] else .tup [],
  if D 4=true then .ptr cb (.agg 4) 0 0 else .tup [],if D 5=true then .ptr cb (.agg 4) 0 0 else .tup [],if D 6=true then .ptr cb (.agg 4) 0 2 else .tup [],if D 7=true then lv else .tup [],
  if D 8=true then .ptr cb (.agg 4) 0 0 else .tup [],if D 9=true then .ptr cb (.agg 4) 0 0 else .tup [],if D 10=true then .ptr cb (.agg 4) 0 3 else .tup [],if D 11=true then .map m else .tup [],
  if D 12=true then .map m2 else .tup [],if D 13=true then lM P wv lv m2 else .tup [],if D 14=true then .ptr b (.agg 4) 0 0 else .tup []]:=⟨_,fun _ _ _=>rfl⟩
 obtain⟨H,hH⟩:∃H:(Nat→Bool)→Nat→Nat→Hp,∀D m2 b,H D m2 b=if D 14=true then (h'.set m2 X).set b (.arr (.agg 4) [lM P wv lv m2]) else if D 12=true then h'.set m2 X else h':=⟨_,fun _ _ _=>rfl⟩
 refine⟨fun D s'=>∃nx' m2 b,s'=⟨F D m2 b,H D m2 b,nx'⟩∧nx≤nx'∧(D 12=true→nx≤m2∧m2<nx')∧(D 14=true→nx≤b∧b≠m2),⟨nx,0,0,by simp[hF,hH,V.undef],Kk _,Zm,Zm⟩,?_,?_⟩
 ·rintro D i o aAP s' hi hDi aAX hcl ⟨nx',m2,b,rfl,hnx,k12,k14⟩;have e14:D 14=true→∀d,d<14→D d=true:=fun h d hd=>hcl 14 _ _ rfl h d (by simp;omega);have aUL:H D m2 b cb=some (.arr (.agg 4) [lM P wv lv m]):=by
   rw[hH];split
   ·rename_i h;have q1:=k14 h;have q2:=k12 (e14 h 12 or);simp only[Hp.set];rw[if_neg or,if_neg or];exact hcb
   split
   ·rename_i h;have q2:=k12 h;simp only[Hp.set];rw[if_neg or];exact hcb
   exact hcb
  have aAJ:lM P wv lv m= .agg [.int .i64 P,wv,lv, .map m]:=rfl;have hlp:bV (.agg 2) 0 (lM P wv lv m)= .agg [.int .i64 P,wv]:=rfl;rcases i with _|_|_|_|_|_|_|_|_|_|_|_|_|_|_|_|i;all_goals first|(injection hi with hi;injection hi with q1 q2;subst q1;subst q2)|skip
  all_goals try simp only[Kj,Km,or_false,forall_eq_or_imp,forall_eq,false_implies,implies_true] at aAX
  all_goals simp only[bB,LOp.run,bL.sem,aO.ev,hF,aUL,aAJ,List.getD_cons_succ,List.getD_cons_zero,if_true,aAX]
  all_goals try exact⟨nx',m2,b,by simp[bN,hH],hnx,by simpa using k12,by simpa using k14⟩
  all_goals try exact⟨trivial,Zm,by simp[cR],nx',m2,b,by simp[bN,hH,bV,V.cell,V.cells],hnx,by simpa using k12,by simpa using k14⟩
  ·have aSv:D 14=false:=by
    cases h:D 14 with
    |false=>rfl
    |true=>have:=e14 h 12 or;rw[this] at hDi;cases hDi
   have hm:H D m2 b m=some (.mp (l.map CE.me) c):=by
    rw[hH,if_neg (by simp[aSv]),if_neg (by simp[hDi])];exact hcm
   have e13:D 13=false:=by
    cases h:D 13 with
    |false=>rfl
    |true=>have:=hcl 13 _ _ rfl h 12 ZM;rw[this] at hDi;cases hDi
   refine(qY Df Zz m (l.map CE.me) c _ _ hm).mono ?_;rintro v h3 nx3 aGm ⟨rfl,rfl,rfl⟩;refine⟨_,nx',b,?_,Kp hnx aGm,fun _=>⟨hnx,or⟩,by simp[aSv]⟩;simp[bN,hH,e13,aSv,hDi,hX]
  ·refine⟨fun p hp=>?_,nx',m2,b,?_,hnx,by simpa [aAX] using k12,by simpa using k14⟩
   ·simp only[Kj,Km,or_false] at hp;rcases hp with rfl|rfl|rfl
    ·exact⟨by simp[V.fits,hwf,sI],ZM⟩
    ·exact⟨hlf,ZM⟩
    exact⟨rfl,ZM⟩
   have hcl:lv.cells=[lv]:=uZ hlf;simp[bN,hH,aAX,hcl,ed,lM,show(V.agg [.int .i64 P,wv]).cells=[.int .i64 P,wv] from rfl,show(V.map m2).cells=[.map m2] from rfl]
  ·refine⟨AL hwf hlf,nx'+1,m2,nx',?_,or,fun _=>?_,fun _=>?_⟩
   ·have e15:D 15=false:=by
     cases h:D 15 with
     |false=>rfl
     |true=>have:=hcl 15 _ _ rfl h 14 ZM;rw[this] at hDi;cases hDi
    simp[bN,hH,aAX,hDi,e15,aO.ev]
   ·have:=k12 aAX.2.2.2.2.2.2.2.2.2.2.2.2.1;omega
   have:=k12 aAX.2.2.2.2.2.2.2.2.2.2.2.2.1;omega
  ·exact⟨nx',m2,b,by simp[bN,hH,aAX],hnx,by simpa [aAX] using k12,by simpa [aAX] using k14⟩
  simp[L.aG5] at hi
 rintro D s' hD ⟨nx',m2,b,rfl,hnx,k12,k14⟩;have dd:=fun i (h:i<16)=>hD i h;have q2:=k12 (dd 12 or);have q1:=k14 (dd 14 or);rw[hF,hH];simp only[dd 14 or,dd 15 or,if_true];refine au ?_;exact aG _ (Ka _) ⟨b,m2,by simp only[go_sem,reduceIte,jA,jB,jC,jD,reduceCtorEq,jE,jF],q2.1,q1.1,q1.2,by rw[hX]⟩
end Go.Proofs.YtecepaehmojpgaaGreat
namespace Go.Proofs.YtecepaehmojpgaaGreat
open Go.RowKit
attribute [local irreducible] IntKind.wrap
def sT(T:Nat→Nat→List Pa)(xs:List Sp)(k:Nat):List V:=(List.range k).map fun b=>lst (.agg 2) ((ofT (frT T b xs)).map Tm.v)
theorem Ay(T:Nat→Nat→List Pa)(xs:List Sp)(k:Nat):sT T xs (k+1)=sT T xs k++[lst (.agg 2) ((ofT (frT T k xs)).map Tm.v)]:=by simp[sT,List.range_succ]
theorem Az(T:Nat→Nat→List Pa){xs ys:List Sp}(h:xs.Perm ys)(k:Nat):sT T xs k=sT T ys k:=by
 unfold sT;exact List.map_congr_left fun b _=>by rw[Bu h]
set_option maxRecDepth 100000 in
set_option maxHeartbeats 4000000 in
theorem sk{h:Hp}{cb m c:Nat}{P:Int}{wv:V}{ot:Own}{rows:List V}{l:List CE}(hc:eV h cb m P wv (.sl .leaf ot rows) l c)(hok:fK l c)(hl:l.length≤900)(T:Nat→Nat→List Pa)(n:Nat)(hP:P=n)(hT:AW T n rows)(hlen:∀a b,(T a b).length≤1000)
 (hin:∀y∈l,0≤y.s.p∧y.s.p<n) (hn:n≤100000):
 aX Tryz.prog 46 [.ptr cb (.agg 4) 0 0] h (lst .leaf (sT T (nY l) n)):=by
 refine dI (fun L=>cP (fun L=>bE (fun b=>cP (fun L=>bE (Tm.aAM L) _) L) _) L) fun h' nx hh=>aD L.aVz fun hd=>?_;simp only[jL,jM,jA,jB,jN,jO,jP,jQ,V.undef];have hc':eV h' cb m P wv (.sl .leaf ot rows) l c:=⟨hh _ _ hc.cell rfl,hh _ _ hc.mp rfl,hc.wf,hc.lf⟩;have hcb:=hc'.cell;have n1:cb<nx:=hd _ _ hcb;have n2:m<nx:=hd _ _ hc'.mp;refine au ?_;refine bX ((uh hc' hok or).dom.mono ?_);rintro v h4 nx4 aIt ⟨⟨o,xs,rfl,aBo,aAl,hsm⟩,hd4,_⟩;unfold eI;refine Zn ?_;have hc4:eV h4 cb m P wv (.sl .leaf ot rows) l c:=⟨by rw[hsm cb n1];exact hcb,by rw[hsm m n2];exact hc'.mp,hc.wf,hc.lf⟩;have aTP:=hc4.cell;have hxl:xs.length≤900:=by rw[aBo.length_eq];have:=ui l;omega
 have hxs:∀s∈xs,0≤s.p∧s.p<n:=fun s hs=>by
  have:=aBo.mem_iff.1 hs;unfold nY at this;obtain⟨y,hy,rfl⟩:=List.mem_map.1 this;exact hin y (List.mem_filter.1 hy).1
 have aFp:h'.le h4:=hsm.le hd (Ka _);have hn4:nx≤nx4:=aIt;clear aIt aAl;rw[←Az T aBo];subst hP;have aTO:=aTP;simp only[lM] at aTO;refine aue aTO ?_
 refine aT (fun q:Nat×Own=>aB 27 0 [(0, .ptr cb (.agg 4) 0 0),(3, .sl .leaf q.2 (sT T xs q.1)),(4, .sl (.agg 3) o (xs.map Sp.v)),(14, .int .i64 n),(15, .int .i64 q.1)])
  (fun q hp nx1=>q.1≤n∧nx4≤nx1∧aK hp nx1∧Kb nx4 h4 hp∧Acc hp nx4 q.2 (sT T xs q.1))
  (fun q=>n-q.1) (0, .nil) ⟨Kh _,Kk _,hd4,Hp.same.aBI,Acc.nil⟩ (wke (show sT T xs 0=[] from rfl)) ?_
 rintro⟨i,oo⟩ hp nx1 ⟨hi,hnx,hdm,aMs,aAl⟩;generalize hQ:bO _ _ _ _ _=Q0;dsimp only at hi aAl;simp only[aB,go_sem,reduceIte,jA,jB,jC,jD,reduceCtorEq,jE,jF];rcases Kg i n with hlt|hge
 ·have hc1:decide ((i:Int)<(n:Int))=true:=dct;have hw:IntKind.i64.wrap ((i:Int)+1)=((i+1:Nat):Int):=wrp;have hci:eV hp cb m n wv (.sl .leaf ot rows) l c:=⟨by rw[aMs cb or];exact aTP,by rw[aMs m or];exact hc4.mp,hc.wf,hc.lf⟩;have hfl:=jr (.agg 2) ((ofT (frT T i xs)).map Tm.v);have hfn:=Ay T xs i;have hfe:(sT T xs i).length=i:=by simp[sT]
  refine aue (e2 hc1 hw) ?_;refine aQ (xb hci T n rfl hT hlen o xs hxl hxs i hlt) rfl (aU _) ?_;refine Zn ?_;refine aue (e3 hw hfl hfe) ?_;rw[←hQ];refine aF (i+1, .tok (nx1+1)) Zw ⟨hlt,ZN,dmo hdm,BD aMs aAl,?_⟩ (wke hfn);dsimp only;rw[hfn];exact Acc.new _ Zm or
 have hc1:decide ((i:Int)<(n:Int))=false:=dcf;have hin:i=n:=or;subst hin;refine aue hc1 ?_;rw[←hQ];refine au ?_;refine aG h' (Hp.le_trans aFp (aMs.le hd4 (Ka _))) ⟨?_,Ka _⟩;refine Zn ?_;rw[aAl.loose];rfl
theorem B7(l:List Cg)(i:Nat)(h:i<l.length):(l.map Cg.v).getD i (.tup [])= .agg [.int .i64 l[i].s.p, .int .i64 l[i].s.t.e, .int .i64 l[i].s.t.r, .int .i64 l[i].d]:=dQ Cg.v _ l i h
theorem bl{l:List Cg}{p:Cg→Bool}{i:Nat}(hi:i<l.length):(l.take (i+1)).any p=((l.take i).any p||p l[i]):=by
 rw[List.take_succ_eq_append_getElem hi,List.any_append];simp
theorem xN{l:List Cg}{p:Cg→Bool}{i:Nat}(hi:i<l.length)(h:p l[i]=true):l.any p=true:=Kc.2 ⟨l[i],List.getElem_mem _,h⟩
theorem yb{n:Int}(h:eB n=false):decide (n>1000000)=false∧decide (n< -1000000)=false:=by
 have:=(xL n).1 h;exact⟨dcf,dcf⟩
theorem aq{n:Int}(h:eB n=true):decide (n>1000000)=true∨(decide (n>1000000)=false∧decide (n< -1000000)=true):=by
 by_cases h1:n>1000000
 ·exact .inl (decide_eq_true h1)
 by_cases h2:n< -1000000
 ·exact .inr ⟨decide_eq_false h1,decide_eq_true h2⟩
 have:=(xL n).2 ⟨or,or⟩;rw[this] at h;cases h
set_option maxRecDepth 100000 in
set_option maxHeartbeats 4000000 in
theorem qh(om o o':Own)(P:Int)(ws:List Wy)(C r:List Cg)(hC:C.length≤10000)(hr:r.length≤10000)(ho:lst (.agg 4) (C.map Cg.v)= .sl (.agg 4) o (C.map Cg.v))(h:Hp):
 aX Tryz.prog 50 [mps om P ws,cgs o C,cgs o' r] h (.tup [lst (.agg 4) ((dD P C r).1.map Cg.v), .int .i64 (dD P C r).2]):=by
 have hmf:(mps om P ws).fits (.agg 2)=true:=by simp[mps,V.fits,V.aAD,wys]
 have aAJ:(mps om P ws).cell 0= .int .i64 P:=rfl;refine aP (fun L=>?_) fun h' nx hh=>aD L.aVw fun hd=>?_
 ·simp only[V.names,bP,and_true];exact cP (fun L=>bE (Cg.aAM L) _) L
 simp only[jL,jM,jA,jB,jN,jO,jP,jQ,V.undef];have out:∀{x:List Cg×Int} {sl:List V} {hp:Hp} {nx2:Nat} {v:V},dD P C r=x→h'.le hp→sl.getD 6 V.undef=v→v=lst (.agg 4) (x.1.map Cg.v)→sl.getD 7 V.undef= .int .i64 x.2→iU [rS.slot 6,rS.slot 7] (fun v' h'' _=>v'= .tup [lst (.agg 4) ((dD P C r).1.map Cg.v), .int .i64 (dD P C r).2]∧h''=h') .ret ⟨sl,hp,nx2⟩:=fun e hle e1 e2 e3=>fS h' hle ⟨by rw[e,e1,e2,e3],rfl⟩;refine aue (e2 hmf aAJ) ?_
 --is each stamp right?
 refine aT (fun i:Nat=>aB 96 0 [(1,cgs o C),(2,cgs o' r),(3, .ptr nx (.agg 2) 0 0),(8, .int .i64 i)])
  (fun i hp nx1=>i≤r.length∧nx+1≤nx1∧aK hp nx1∧Kb nx h' hp∧hp nx=some (.arr (.agg 2) [mps om P ws])∧(r.take i).any (fM P)=false)
  (fun i=>r.length-i) 0 ⟨Kh _,ZN,dmo hd,kep Hp.same.aBI,by simp[Hp.set],Zm⟩ (by simp only[WkL,aB,jH,jI,jJ,cgs,go_sem,reduceIte,jA,jB,jC,jD,reduceCtorEq,jE,jF]) ?_
 rintro i hp nx1 ⟨hi,hnx,hdm,hsm,hb,hno⟩;generalize hQ:bO _ _ _ _ _=Q0;simp only[aB,cgs,go_sem,reduceIte,jA,jB,jC,jD,reduceCtorEq,jE,jF];rcases Kg i r.length with hlt|hge
 ·have hc1:decide ((i:Int)<(r.length:Int))=true:=dct;have hw1:IntKind.i64.wrap ((i:Int)+1)=((i+1:Nat):Int):=wrp;have hg:=B7 r i hlt;have D1:∀h,aX Tryz.prog 53 [.agg [.int .i64 r[i].s.t.e, .int .i64 r[i].s.t.r]] h (.bool r[i].s.t.ok):=fun h=>lF r[i].s.t h;have hbx:nx<nx1:=or;cases hs:fM P r[i] with
  |true=>
   have aBW:dD P C r=(C,2):=by unfold dD;rw[if_pos (xN hlt hs)]
   cases h1:decide (r[i].s.p<0) with
   |true=>
    refine aue (e10 hc1 hw1 hg hlt h1 hb hbx (@jK Cg V) jG aAJ) ?_;rw[←hQ];refine au ?_;exact out aBW (hsm.le hd (Ka _)) rfl ho.symm rfl
   |false=>
    cases h2:decide (r[i].s.p≥P) with
    |true=>
     refine aue (e11 hc1 hw1 hg hlt h1 h2 hb hbx (@jK Cg V) jG aAJ) ?_;rw[←hQ];refine au ?_;exact out aBW (hsm.le hd (Ka _)) rfl ho.symm rfl
    |false=>
     have hok:r[i].s.t.ok=false:=by
      unfold fM at hs;rw[h1,h2] at hs;simpa using hs
     rw[hok] at D1;refine aue (e11 hc1 hw1 hg hlt h1 h2 hb hbx (@jK Cg V) jG aAJ) ?_;rw[←hQ];refine au ?_;exact out aBW (hsm.le hd (Ka _)) rfl ho.symm rfl
  |false=>
   have hs2:=hs;unfold fM at hs2;simp only[Ki,Ke] at hs2;obtain⟨⟨h1,h2⟩,hok⟩:=hs2;rw[hok] at D1;refine aue (e11 hc1 hw1 hg hlt h1 h2 hb hbx (@jK Cg V) jG aAJ) ?_;rw[←hQ];exact aF (i+1) or ⟨hlt,ZN,dmo hdm,hsm,hb,by rw[bl hlt,hno,hs];rfl⟩ (by simp only[WkL,aB,jH,jI,jJ,cgs,go_sem,reduceIte,jA,jB,jC,jD,reduceCtorEq,jE,jF])
 have aS9:r.any (fM P)=false:=by rw[Kd hge] at hno;exact hno
 have hc1:decide ((i:Int)<(r.length:Int))=false:=dcf;refine aue (e2 hc1 (@jK Cg V)) ?_;rw[←hQ];clear hQ Q0 hno hb;refine au ?_
 --is each one a number that may stand?
 refine aT (fun i:Nat=>aB 96 0 [(1,cgs o C),(2,cgs o' r),(9, .int .i64 i)])
  (fun i hp nx1=>i≤r.length∧nx≤nx1∧aK hp nx1∧Kb nx h' hp∧(r.take i).any (fun x=>eB x.d)=false)
  (fun i=>r.length-i) 0 ⟨Kh _,ZN,hdm,hsm,Zm⟩ (by simp only[WkL,aB,jH,jI,jJ,cgs,go_sem,reduceIte,jA,jB,jC,jD,reduceCtorEq,jE,jF]) ?_
 clear hi hnx hdm hsm hge hc1;rintro i hp nx1 ⟨hi,hnx,hdm,hsm,hno⟩;generalize hQ:bO _ _ _ _ _=Q0;simp only[aB,cgs,go_sem,reduceIte,jA,jB,jC,jD,reduceCtorEq,jE,jF];rcases Kg i r.length with hlt|hge
 ·have hc1:decide ((i:Int)<(r.length:Int))=true:=dct;have hw1:IntKind.i64.wrap ((i:Int)+1)=((i+1:Nat):Int):=wrp;have hg:=B7 r i hlt;cases hs:eB r[i].d with
  |true=>
   have aBW:dD P C r=(C,1):=by unfold dD;rw[if_neg (by simp[aS9]),if_pos (xN (p:=fun x=>eB x.d) hlt hs)]
   rcases aq hs with h1|⟨h1,h2⟩
   ·refine aue (e7 hc1 hw1 hg hlt h1 (@jK Cg V) jG) ?_;rw[←hQ];refine au ?_;exact out aBW (hsm.le hd (Ka _)) rfl ho.symm rfl
   refine aue (e8 hc1 hw1 hg hlt h1 h2 (@jK Cg V) jG) ?_;rw[←hQ];refine au ?_;exact out aBW (hsm.le hd (Ka _)) rfl ho.symm rfl
  |false=>
   obtain⟨h1,h2⟩:=yb hs;refine aue (e8 hc1 hw1 hg hlt h1 h2 (@jK Cg V) jG) ?_;rw[←hQ];exact aF (i+1) or ⟨hlt,ZN,dmo hdm,hsm,by rw[bl hlt,hno,hs];rfl⟩ (by simp only[WkL,aB,jH,jI,jJ,cgs,go_sem,reduceIte,jA,jB,jC,jD,reduceCtorEq,jE,jF])
 have aTz:r.any (fun x=>eB x.d)=false:=by rw[Kd hge] at hno;exact hno
 have hc1:decide ((i:Int)<(r.length:Int))=false:=dcf;obtain⟨os,hos⟩:=mQ (.agg 4) ((xQ (C++r)).map Cg.v);have C1:∀(h:Hp) {ow:Own},aX Tryz.prog 81 [.sl (.agg 4) ow (C.map Cg.v++r.map Cg.v)] h (.sl (.agg 4) os ((xQ (C++r)).map Cg.v)):=fun h ow=>by
  have:=zw ow (C++r) (by simp;omega) h;rw[hos] at this;rw[←List.map_append];exact this
 have hSl:(xQ (C++r)).length≤20000:=by have:=Bh (C++r);simp at this;omega
 have aGi:dD P C r=if (xQ (C++r)).any (fun x=>eB x.d)=true then (C,1) else (xQ (C++r),0):=by unfold dD;rw[if_neg (by simp[aS9]),if_neg (by simp[aTz])]
 refine aue (e2 hc1 (@jK Cg V)) ?_;rw[←hQ];clear hQ Q0 hno;generalize xQ (C++r)=S at*;refine aue (@jK Cg V) ?_;have aA9:h'.le hp:=hsm.le hd (Ka _)
 refine aT (fun i:Nat=>aB 96 0 [(1,cgs o C),(10, .sl (.agg 4) os (S.map Cg.v)),(11, .int .i64 i)])
  (fun i hp nx1=>i≤S.length∧h'.le hp∧aK hp nx1∧(S.take i).any (fun x=>eB x.d)=false)
  (fun i=>S.length-i) 0 ⟨Kh _,?_,dmo hdm,Zm⟩ (by simp only[WkL,aB,jH,jI,jJ,cgs,go_sem,reduceIte,jA,jB,jC,jD,reduceCtorEq,jE,jF]) ?_
 ·exact lef hd aA9
 clear hi hnx hdm hsm hge hc1 aA9;rintro i hp nx1 ⟨hi,hle,hdm,hno⟩;generalize hQ:bO _ _ _ _ _=Q0;simp only[aB,cgs,go_sem,reduceIte,jA,jB,jC,jD,reduceCtorEq,jE,jF];rcases Kg i S.length with hlt|hge
 ·have hc1:decide ((i:Int)<(S.length:Int))=true:=dct;have hw1:IntKind.i64.wrap ((i:Int)+1)=((i+1:Nat):Int):=wrp;have hg:=B7 S i hlt;cases hs:eB S[i].d with
  |true=>
   have aBW:dD P C r=(C,1):=by rw[aGi,if_pos (xN (p:=fun x=>eB x.d) hlt hs)]
   rcases aq hs with h1|⟨h1,h2⟩
   ·refine aue (e7 hc1 hw1 hg hlt h1 (@jK Cg V) jG) ?_;rw[←hQ];refine au ?_;exact out aBW hle rfl ho.symm rfl
   refine aue (e8 hc1 hw1 hg hlt h1 h2 (@jK Cg V) jG) ?_;rw[←hQ];refine au ?_;exact out aBW hle rfl ho.symm rfl
  |false=>
   obtain⟨h1,h2⟩:=yb hs;refine aue (e8 hc1 hw1 hg hlt h1 h2 (@jK Cg V) jG) ?_;rw[←hQ];exact aF (i+1) or ⟨hlt,hle,dmo hdm,by rw[bl hlt,hno,hs];rfl⟩ (by simp only[WkL,aB,jH,jI,jJ,cgs,go_sem,reduceIte,jA,jB,jC,jD,reduceCtorEq,jE,jF])
 have aTy:S.any (fun x=>eB x.d)=false:=by rw[Kd hge] at hno;exact hno
 have hc1:decide ((i:Int)<(S.length:Int))=false:=dcf;refine aue (e2 hc1 (@jK Cg V)) ?_;rw[←hQ];refine au ?_;exact out (x:=(S,0)) (by rw[aGi,if_neg (by simp[aTy])]) hle rfl hos.symm rfl
theorem eV.aBP{h h2:Hp}{cb m c:Nat}{P:Int}{wv lv:V}{l:List CE}{nx:Nat}(hc:eV h cb m P wv lv l c)(hd:aK h nx)(hk:∀x,x<nx→h2 x=h x):eV h2 cb m P wv lv l c:=
 ⟨(hk _ (hd _ _ hc.cell)).trans hc.cell,(hk _ (hd _ _ hc.mp)).trans hc.mp,hc.wf,hc.lf⟩
theorem eV.has{h h2:Hp}{cb m c:Nat}{P:Int}{wv lv:V}{l:List CE}(hc:eV h cb m P wv lv l c)(hk:h.has h2):eV h2 cb m P wv lv l c:=⟨hk _ _ hc.cell rfl,hk _ _ hc.mp rfl,hc.wf,hc.lf⟩
end Go.Proofs.YtecepaehmojpgaaGreat
