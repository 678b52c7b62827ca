/-
Texts of this proof,one behind the other. No conditions.
-/
import Derived.Test.YtecepaehmojpgaaGreatKn
import Derived.Test.YtecepaehmojpgaaGreatKd
import Derived.Test.YtecepaehmojpgaaGreatKg
open Go.Proofs.YtecepaehmojpgaaGreat.Hp renaming set→Ka,le_refl→Kb,same→Kc,del→Kd
open List renaming take_succ_eq_append_getElem→Ke,any_eq_true→Kf,take_of_length_le→Kg,filter_append→Kk,length_eq_zero_iff→Ko,length_filter_le→Ks,map_congr_left→Ku,mem_cons→Kv,not_mem_nil→Kw,foldl_cons→Kx,map_append→Kz,mem_map→KB
open Nat renaming lt_or_ge→Kh,zero_le→Ki,le_add_right→Km,le_trans→Kp,le_refl→Kq
open Bool renaming not_eq_false'→Kj,or_eq_false_iff→Kt,eq_iff_iff→Ky
set_option linter.unusedSimpArgs false
set_option linter.unusedVariables false
set_option linter.unusedSectionVars false
set_option maxHeartbeats 8000000
open Nat renaming reduceAdd→jA,reduceSub→jB,reduceLT→jC,reduceLeDiff→jD,reduceEqDiff→jE
open Int renaming reduceToNat→jF,toNat_natCast→jG,natCast_add→jH,natCast_one→jI,natCast_zero→jJ
open List renaming length_map→jK,length_cons→jL,length_nil→jM,replicate_succ→jN,replicate_zero→jO,cons_append→jP,nil_append→jQ
namespace Go.Proofs.YtecepaehmojpgaaGreat
open Go.RowKit Go.Sort
def lI(l:List Cg)(s:Sp):Int:=(l.map fun x=>if x.s=s then x.d else 0).sum
theorem tx(a b:List Cg)(s:Sp):lI (a++b) s=lI a s+lI b s:=by simp[lI,List.sum_append]
theorem BC{a b:List Cg}(h:a.Perm b)(s:Sp):lI a s=lI b s:=by
 induction h with
 |nil=>rfl
 |cons x _ ih=>exact congrArg (_+ ·) ih
 |swap x y l=>
  show(if y.s=s then y.d else 0)+((if x.s=s then x.d else 0)+lI l s)=(if x.s=s then x.d else 0)+((if y.s=s then y.d else 0)+lI l s);omega
 |trans _ _ h1 h2=>exact h1.trans h2
theorem BD{l:List Cg}{s:Sp}(h:∀x∈l,x.s≠s):lI l s=0:=by
 induction l with
 |nil=>rfl
 |cons x l ih=>
  have h1:lI (x::l) s=(if x.s=s then x.d else 0)+lI l s:=rfl;rw[h1,if_neg (h x Zm),ih fun y hy=>h y (by simp[hy])];rfl
theorem pD(n:Int):cV n=false↔-1000000≤n∧n≤1000000:=by
 unfold cV;rw[Kj,Bool.and_eq_true,decide_eq_true_eq,decide_eq_true_eq]
theorem tQ(s:Sp):∀(l:List Cg) (n A:Int),(∀x∈l,cV x.d=false)→-A≤n→n≤A→A+1000000*l.length≤4000000000000000000→
 l.foldl (fun n x=>if x.s=s then IntKind.i64.wrap (n+x.d) else n) n=n+lI l s
 | [],n,A,_,_,_,_=>by simp[lI]
 |x::l,n,A,hw,h1,h2,h3=>by
  have hx:=(pD x.d).1 (hw x Zm);simp only[List.length_cons] at h3;have hs:lI (x::l) s=(if x.s=s then x.d else 0)+lI l s:=rfl;rw[Kx,hs];split
  ·rw[bB or or,tQ s l (n+x.d) (A+1000000) (fun y hy=>hw y (by simp[hy])) or or or];omega
  rw[tQ s l n A (fun y hy=>hw y (by simp[hy])) h1 h2 or];omega
theorem qp{l:List Cg}(hw:∀x∈l,cV x.d=false)(hl:l.length≤100000)(s:Sp):tot l s=lI l s:=by
 have:=tQ s l 0 0 hw or or or;rw[Int.zero_add] at this;exact this
theorem ao{f:Sp→Int}{l:List Cg}(hw:∀x∈l,cV x.d=false)(hl:l.length≤100000){s:Sp}(hf:cV (f s)=false):qC f l s=f s+lI l s:=by
 have:=(pD _).1 hf;exact tQ s l (f s) 1000000 hw or or or
def ag(l:List CE):Prop:=∀y∈l,cV y.n=false
theorem Bw:cV 0=false:=ZM
theorem ir{l:List CE}(h:ag l)(s:Sp):cV (cZ l s)=false:=by
 unfold cZ;cases hf:l.find? fun x=>decide (x.s=s) with
 |none=>exact Bw
 |some y=>exact h y (List.mem_of_find?_eq_some hf)
theorem yH{l:List CE}{c:Nat}(h:eO l c):AV (cZ l) (dT l):=zi h
theorem jX(l:List CE):(dT l).length=l.length:=by unfold dT;rw[List.length_map,sC]
theorem rq{l:List CE}{s:Sp}(h:cZ l s≠0):∃y∈l,y.s=s:=by
 apply Classical.byContradiction;intro hn;exact h (iP fun x hx e=>hn ⟨x,hx,e⟩)
theorem yG{l:List CE}{c:Nat}(h:eO l c)(x:Cg):x∈dT l↔∃y∈l,y.s=x.s∧y.n=x.d:=by
 rw[(yH h).2];constructor
 ·rintro⟨h1,h2⟩;obtain⟨y,hy,e⟩:=rq (l:=l) (s:=x.s) (by rw[←h1];exact h2);refine⟨y,hy,e,?_⟩;rw[h1,←e,gT h.key hy]
 rintro⟨y,hy,e1,e2⟩;have:=gT h.key hy;rw[e1] at this;exact⟨by rw[this,e2],by rw[←e2];exact h.nz y hy⟩
theorem D7{l:List CE}{c:Nat}(h:eO l c)(p:Int→Bool):(dT l).any (fun x=>p x.d)=l.any (fun y=>p y.n):=by
 rw[Ky,Kf,Kf];constructor
 ·rintro⟨x,hx,hp⟩;obtain⟨y,hy,_,e⟩:=(yG h x).1 hx;exact⟨y,hy,by rw[e];exact hp⟩
 rintro⟨y,hy,hp⟩;exact⟨⟨y.s,y.n⟩,(yG h _).2 ⟨y,hy,rfl,rfl⟩,hp⟩
theorem io{l:List CE}{c:Nat}(h:eO l c)(s:Sp):xV (dT l) s=cZ l s:=(yH h).get s
theorem yg(l:List CE):decide (dT l=[])=decide (l=[]):=by
 rw[decide_eq_decide,←Ko,←Ko,jX]
theorem CZ{l:List Cg}(hn:l.Pairwise fun a b=>a.s≠b.s)(hs:∀x∈l,cV x.d=false)(hl:l.length≤100000)(s:Sp):tot l s=xV l s:=by
 rw[qp hs hl];clear hs hl;induction l with
 |nil=>rfl
 |cons x l ih=>
  have hn':=List.pairwise_cons.1 hn;have h1:lI (x::l) s=(if x.s=s then x.d else 0)+lI l s:=rfl;rw[h1];unfold xV;rw[List.find?_cons];by_cases e:x.s=s
  ·rw[if_pos e,BD fun y hy e2=>hn'.1 y hy (e.trans e2.symm)];simp[e]
  rw[if_neg e,ih hn'.2];simp[e,xV]
theorem Es{l:List CE}{c:Nat}(h:eO l c)(hs:ag l)(hl:l.length≤100000)(s:Sp):tot (dT l) s=cZ l s:=by
 rw[CZ ((yH h).1.imp fun{a b} hab e=>by rw[e,Sp.aAd] at hab;cases hab) (fun x hx=>?_) (by rw[jX];exact hl),io h];obtain⟨y,hy,_,e⟩:=(yG h x).1 hx;rw[←e];exact hs y hy
theorem zb(a b:List Cg)(s:Sp):tot (a++b) s=qC (tot a) b s:=by
 unfold tot qC;rw[List.foldl_append]
theorem AQ{l:List CE}{c:Nat}(h:eO l c)(hs:ag l)(hl:l.length≤100000)(r:List Cg):dT (eN l c r).1=vJ (dT l++r):=by
 obtain⟨h1,h2,_⟩:=lQ r h;have h3:=yH h1;refine bz h3 ?_;have e:cZ (eN l c r).1=tot (dT l++r):=funext fun t=>by
  rw[h2,zb];unfold qC;rw[Es h hs hl]
 rw[e];exact fg _
def bP(P:Int)(C r:List Cg):List Cg×Int:=
 if r.any (dY P)=true then (C,2) else if r.any (fun x=>cV x.d)=true then (C,1) else
 if (vJ (C++r)).any (fun x=>cV x.d)=true then (C,1) else (vJ (C++r),0)
theorem nm(P:Int){l:List CE}{c:Nat}(h:eO l c)(hs:ag l)(hl:l.length≤100000)(r:List Cg):bP P (dT l) r=(dT (aV P l c r).2.1,(aV P l c r).1):=by
 have e1:=AQ h hs hl r;have e2:=D7 (lQ r h).1 cV;unfold bP aV;rw[←e1,e2]
 (repeat' split)<;>rfl
structure StC(P:Int)(l:List CE)(c K:Nat):Prop where
 ok:eO l c
 small:ag l
 right:∀y∈l,0≤y.s.p∧y.s.p<P∧y.s.t.ok=true
 len:l.length≤K
theorem qu(P:Int)(c:Nat):StC P [] c 0:=⟨pa c,(fun y hy=>by cases hy),(fun y hy=>by cases hy),Kq _⟩
theorem StC.up{P:Int}{l:List CE}{c K K':Nat}(h:StC P l c K)(hk:K≤K'):StC P l c K':=⟨h.ok,h.small,h.right,Kp h.len hk⟩
theorem tz{P:Int}{x:Cg}(h:dY P x=false):0≤x.s.p∧x.s.p<P∧x.s.t.ok=true:=by
 unfold dY at h;simp only[Kt,decide_eq_false_iff_not,Kj] at h;exact⟨or,or,h.2⟩
theorem StC.add{P:Int}{l:List CE}{c K:Nat}(h:StC P l c K)(r:List Cg):StC P (aV P l c r).2.1 (aV P l c r).2.2 (K+r.length):=by
 unfold aV;split
 ·exact h.up (Km _ _)
 split
 ·exact h.up (Km _ _)
 split
 ·exact h.up (Km _ _)
 rename_i h1 h2 h3;obtain⟨q1,q2,q3⟩:=lQ r h.ok;refine⟨q1,fun y hy=>?_,fun y hy=>?_,by have:=h.len;dsimp only;omega⟩
 ·cases hw:cV y.n with
  |false=>rfl
  |true=>exact absurd (Kf.2 ⟨y,hy,hw⟩) h3
 have hg:cZ (eN l c r).1 y.s≠0:=by rw[gT q1.key hy];exact q1.nz y hy
 by_cases hr:∃x∈r,x.s=y.s
 ·obtain⟨x,hx,e⟩:=hr;rw[←e];refine tz ?_;cases hq:dY P x with
  |false=>rfl
  |true=>exact absurd (Kf.2 ⟨x,hx,hq⟩) h1
 rw[q2 y.s] at hg;have:qC (cZ l) r y.s=cZ l y.s:=by
  have:∀(r:List Cg) (n:Int),(∀x∈r,x.s≠y.s)→r.foldl (fun n x=>if x.s=y.s then IntKind.i64.wrap (n+x.d) else n) n=n:=by
   intro r;induction r with
   |nil=>intro n _;rfl
   |cons x r ih=>
    intro n h;rw[Kx,if_neg (h x Zm)];exact ih n fun z hz=>h z (by simp[hz])
  exact this r _ fun x hx e=>hr ⟨x,hx,e⟩
 rw[this] at hg;obtain⟨z,hz,e⟩:=rq hg;rw[←e];exact h.right z hz
theorem AM{P:Int}{l:List CE}{c:Nat}{r:List Cg}(h:(aV P l c r).1=0):r.any (dY P)=false∧(∀x∈r,cV x.d=false)∧(aV P l c r).2=eN l c r:=by
 unfold aV at h⊢;split at h
 ·cases h
 split at h
 ·cases h
 split at h
 ·cases h
 rename_i h1 h2 h3;rw[if_neg h1,if_neg h2,if_neg h3];refine⟨by simpa using h1,fun x hx=>?_,rfl⟩;cases hw:cV x.d with
 |false=>rfl
 |true=>exact absurd (Kf.2 ⟨x,hx,hw⟩) h2
theorem qj{P:Int}{l:List CE}{c K:Nat}{r:List Cg}(hc:StC P l c K)(h:(aV P l c r).1=0)(hr:r.length≤100000)(s:Sp):cZ (aV P l c r).2.1 s=cZ l s+lI r s:=by
 obtain⟨_,h2,h3⟩:=AM h;rw[h3,(lQ r hc.ok).2.1 s];exact ao h2 hr (ir hc.small s)
theorem CB{P:Int}{l:List CE}{c:Nat}{r:List Cg}(h:(aV P l c r).1≠0):(aV P l c r).2=(l,c):=by
 unfold aV at h⊢;split
 ·rfl
 split
 ·rfl
 split
 ·rfl
 rename_i h1 h2 h3;rw[if_neg h1,if_neg h2,if_neg h3] at h;exact absurd rfl h
def iR(C:List Cg):List Cg:=C.filter fun x=>decide (x.d>0)
theorem jf(t:Tm)(l:List Pa):fO t l=jU t l:=by
 induction l with
 |nil=>rfl
 |cons p l ih=>rw[bw,ih];rfl
theorem B1{P:Int}{ws:List Wy}{n:Nat}{l:List We}(R:lC P ws n l){a b:Int}(ha:0≤a∧a<P)(hb:0≤b∧b<P):eA P ws a b=cQ l a.toNat b.toNat:=by
 have hr:gI P ws=true:=(lK P ws).2 ⟨n,l,R⟩;unfold eA;rw[if_pos ⟨hr,ha.1,ha.2,hb.1,hb.2⟩];congr 1;have h:=R.eq;rw[h,List.map_map];conv=>rhs;rw[←List.map_id l]
 refine Ku fun w _=>?_;simp[We.wy,Wy.we]
theorem gh(t:Tm)(x:Tm):∀l:List Pa,x∈jU t l↔∃p∈l,(p.of t).2=0∧(p.of t).1=x
 | []=>by simp[jU]
 |p::l=>by
  rw[jU,List.mem_append,gh t x l];constructor
  ·rintro(h|⟨q,hq,h⟩)
   ·split at h
    ·rename_i h0;exact⟨p,Zm,h0,(List.mem_singleton.1 h).symm⟩
    cases h
   exact⟨q,by simp[hq],h⟩
  rintro⟨q,hq,h1,h2⟩;rcases Kv.1 hq with rfl|hq
  ·left;rw[if_pos h1,h2];simp
  exact .inr ⟨q,hq,h1,h2⟩
theorem FO{p:Pa}{t:Tm}(h:(p.of t).2=0):(p.of t).1.ok=true:=by
 unfold Pa.of at h⊢;by_cases h1:(!p.ok|| !t.ok)=true
 ·rw[if_pos h1] at h;exact absurd h (by show¬((2:Int)=0);omega)
 rw[if_neg h1] at h⊢;by_cases h2:Tm.ok ⟨t.e,if p.n=true then p.a else p.a+t.r⟩=false
 ·rw[if_pos h2] at h;exact absurd h (by show¬((1:Int)=0);omega)
 rw[if_neg h2];simpa using h2
end Go.Proofs.YtecepaehmojpgaaGreat
namespace Go.Proofs.YtecepaehmojpgaaGreat
open Go.RowKit Go.Shelf
attribute [local irreducible] IntKind.wrap
set_option maxRecDepth 100000 in
set_option maxHeartbeats 4000000 in
theorem Ct{h':Hp}{nx cb m c:Nat}{P:Int}{wv lv:V}{l:List CE}(hc:dQ h' cb m P wv lv l c):
 bD Tryz.prog 39 [.ptr cb (.agg 4) 0 0] h' nx fun v h'' _=>∃cb2 m2,v= .ptr cb2 (.agg 4) 0 0∧nx≤m2∧nx≤cb2∧cb2≠m2∧h''=(h'.set m2 (.mp (l.map CE.me) c)).set cb2 (.arr (.agg 4) [kJ P wv lv m2]):=by
 refine aF L.aYp fun hd=>?_;simp only[jL,jM,jA,jB,jN,jO,jP,jQ,V.undef];have hcb:=hc.cell;have hcm:=hc.mp;have n1:cb<nx:=hd _ _ hcb;have n2:m<nx:=hd _ _ hcm;have hwf:=hc.wf;have hlf:=hc.lf;refine aus ?_;refine pJ ?_;obtain⟨X,hX⟩:∃X,X=Blk.mp (l.map CE.me) c:=⟨_,rfl⟩;obtain⟨F,hF⟩:∃F:(Nat→Bool)→Nat→Nat→List V,∀D m2 b,F D m2 b=[.ptr cb (.agg 4) 0 0, .tup [],if D 15=true then .ptr b (.agg 4) 0 0 else .aAJ, .ptr cb (.agg 4) 0 0, .bool false,
  if D 0=true then .ptr cb (.agg 4) 0 0 else .tup [],if D 1=true then .ptr cb (.agg 4) 0 0 else .tup [],if D 2=true then .ptr cb (.agg 4) 0 0 else .tup [],if D 3=true then .agg [.int .i64 P,wv] else .tup [],
  if D 4=true then .ptr cb (.agg 4) 0 0 else .tup [],if D 5=true then .ptr cb (.agg 4) 0 0 else .tup [],if D 6=true then .ptr cb (.agg 4) 0 2 else .tup [],if D 7=true then lv else .tup [],
  if D 8=true then .ptr cb (.agg 4) 0 0 else .tup [],if D 9=true then .ptr cb (.agg 4) 0 0 else .tup [],if D 10=true then .ptr cb (.agg 4) 0 3 else .tup [],if D 11=true then .map m else .tup [],
  if D 12=true then .map m2 else .tup [],if D 13=true then kJ P wv lv m2 else .tup [],if D 14=true then .ptr b (.agg 4) 0 0 else .tup []]:=⟨_,fun _ _ _=>rfl⟩
 obtain⟨H,hH⟩:∃H:(Nat→Bool)→Nat→Nat→Hp,∀D m2 b,H D m2 b=if D 14=true then (h'.set m2 X).set b (.arr (.agg 4) [kJ P wv lv m2]) else if D 12=true then h'.set m2 X else h':=⟨_,fun _ _ _=>rfl⟩
 refine⟨fun D s'=>∃nx' m2 b,s'=⟨F D m2 b,H D m2 b,nx'⟩∧nx≤nx'∧(D 12=true→nx≤m2∧m2<nx')∧(D 14=true→nx≤b∧b≠m2),⟨nx,0,0,by simp[hF,hH,V.undef],Kq _,Zm,Zm⟩,?_,?_⟩
 ·rintro D i o aAR s' hi hDi aAZ hcl ⟨nx',m2,b,rfl,hnx,k12,k14⟩;have e14:D 14=true→∀d,d<14→D d=true:=fun h d hd=>hcl 14 _ _ rfl h d (by simp;omega);have aWo:H D m2 b cb=some (.arr (.agg 4) [kJ P wv lv m]):=by
   rw[hH];split
   ·rename_i h;have q1:=k14 h;have q2:=k12 (e14 h 12 or);simp only[Ka];rw[if_neg or,if_neg or];exact hcb
   split
   ·rename_i h;have q2:=k12 h;simp only[Ka];rw[if_neg or];exact hcb
   exact hcb
  have aAM:kJ P wv lv m= .agg [.int .i64 P,wv,lv, .map m]:=rfl;have hlp:cK (.agg 2) 0 (kJ P wv lv m)= .agg [.int .i64 P,wv]:=rfl;rcases i with _|_|_|_|_|_|_|_|_|_|_|_|_|_|_|_|i;all_goals first|(injection hi with hi;injection hi with q1 q2;subst q1;subst q2)|skip
  all_goals try simp only[Kv,Kw,or_false,forall_eq_or_imp,forall_eq,false_implies,implies_true] at aAZ
  all_goals simp only[bF,LOp.run,bR.sem,aP.ev,hF,aWo,aAM,List.getD_cons_succ,List.getD_cons_zero,if_true,aAZ]
  all_goals try exact⟨nx',m2,b,by simp[bQ,hH],hnx,by simpa using k12,by simpa using k14⟩
  all_goals try exact⟨trivial,Zm,by simp[dA],nx',m2,b,by simp[bQ,hH,cK,V.cell,V.cells],hnx,by simpa using k12,by simpa using k14⟩
  ·have aVI:D 14=false:=by
    cases h:D 14 with
    |false=>rfl
    |true=>have:=e14 h 12 or;rw[this] at hDi;cases hDi
   have hm:H D m2 b m=some (.mp (l.map CE.me) c):=by
    rw[hH,if_neg (by simp[aVI]),if_neg (by simp[hDi])];exact hcm
   have e13:D 13=false:=by
    cases h:D 13 with
    |false=>rfl
    |true=>have:=hcl 13 _ _ rfl h 12 ZM;rw[this] at hDi;cases hDi
   refine(sE E9 Zz m (l.map CE.me) c _ _ hm).mono ?_;rintro v h3 nx3 aDl ⟨rfl,rfl,rfl⟩;refine⟨_,nx',b,?_,Kp hnx aDl,fun _=>⟨hnx,or⟩,by simp[aVI]⟩;simp[bQ,hH,e13,aVI,hDi,hX]
  ·refine⟨fun p hp=>?_,nx',m2,b,?_,hnx,by simpa [aAZ] using k12,by simpa using k14⟩
   ·simp only[Kv,Kw,or_false] at hp;rcases hp with rfl|rfl|rfl
    ·exact⟨by simp[V.fits,hwf,tM],ZM⟩
    ·exact⟨hlf,ZM⟩
    exact⟨rfl,ZM⟩
   have hcl:lv.cells=[lv]:=wB hlf;simp[bQ,hH,aAZ,hcl,iz,kJ,show(V.agg [.int .i64 P,wv]).cells=[.int .i64 P,wv] from rfl,show(V.map m2).cells=[.map m2] from rfl]
  ·refine⟨Cv hwf hlf,nx'+1,m2,nx',?_,or,fun _=>?_,fun _=>?_⟩
   ·have e15:D 15=false:=by
     cases h:D 15 with
     |false=>rfl
     |true=>have:=hcl 15 _ _ rfl h 14 ZM;rw[this] at hDi;cases hDi
    simp[bQ,hH,aAZ,hDi,e15,aP.ev]
   ·have:=k12 aAZ.2.2.2.2.2.2.2.2.2.2.2.2.1;omega
   have:=k12 aAZ.2.2.2.2.2.2.2.2.2.2.2.2.1;omega
  ·exact⟨nx',m2,b,by simp[bQ,hH,aAZ],hnx,by simpa [aAZ] using k12,by simpa [aAZ] using k14⟩
  simp[L.aHW] at hi
 rintro D s' hD ⟨nx',m2,b,rfl,hnx,k12,k14⟩;have dd:=fun i (h:i<16)=>hD i h;have q2:=k12 (dd 12 or);have q1:=k14 (dd 14 or);rw[hF,hH];simp only[dd 14 or,dd 15 or,if_true];refine au ?_;exact aG _ (Kb _) ⟨b,m2,by simp only[go_sem,reduceIte,jA,jB,jC,jD,reduceCtorEq,jE,jF],q2.1,q1.1,q1.2,by rw[hX]⟩
end Go.Proofs.YtecepaehmojpgaaGreat
namespace Go.Proofs.YtecepaehmojpgaaGreat
open Go.RowKit
attribute [local irreducible] IntKind.wrap
def tX(T:Nat→Nat→List Pa)(xs:List Sp)(k:Nat):List V:=(List.range k).map fun b=>lst (.agg 2) ((ofT (frT T b xs)).map Tm.v)
theorem Cd(T:Nat→Nat→List Pa)(xs:List Sp)(k:Nat):tX T xs (k+1)=tX T xs k++[lst (.agg 2) ((ofT (frT T k xs)).map Tm.v)]:=by simp[tX,List.range_succ]
theorem Ce(T:Nat→Nat→List Pa){xs ys:List Sp}(h:xs.Perm ys)(k:Nat):tX T xs k=tX T ys k:=by
 unfold tX;exact Ku fun b _=>by rw[Dm h]
set_option maxRecDepth 100000 in
set_option maxHeartbeats 4000000 in
theorem xb{h:Hp}{cb m c:Nat}{P:Int}{wv:V}{ot:Own}{rows:List V}{l:List CE}(hc:dQ h cb m P wv (.sl .leaf ot rows) l c)(hok:eO l c)(hl:l.length≤900)(T:Nat→Nat→List Pa)(n:Nat)(hP:P=n)(hT:CJ T n rows)(hlen:∀a b,(T a b).length≤1000)
 (hin:∀y∈l,0≤y.s.p∧y.s.p<n) (hn:n≤100000):
 aY Tryz.prog 46 [.ptr cb (.agg 4) 0 0] h (lst .leaf (tX T (oZ l) n)):=by
 refine dB (fun L=>cP (fun L=>bG (fun b=>cP (fun L=>bG (Tm.aAN L) _) L) _) L) fun h' nx hh=>aF L.aYc fun hd=>?_;simp only[jL,jM,jA,jB,jN,jO,jP,jQ,V.undef];have hc':dQ h' cb m P wv (.sl .leaf ot rows) l c:=⟨hh _ _ hc.cell rfl,hh _ _ hc.mp rfl,hc.wf,hc.lf⟩;have hcb:=hc'.cell;have n1:cb<nx:=hd _ _ hcb;have n2:m<nx:=hd _ _ hc'.mp;refine au ?_;refine bN ((yv hc' hok or).dom.mono ?_);rintro v h4 nx4 aGD ⟨⟨o,xs,rfl,aBr,aAU,hsm⟩,hd4,_⟩;unfold dM;refine Zn ?_;have hc4:dQ h4 cb m P wv (.sl .leaf ot rows) l c:=⟨by rw[hsm cb n1];exact hcb,by rw[hsm m n2];exact hc'.mp,hc.wf,hc.lf⟩;have aVp:=hc4.cell;have hxl:xs.length≤900:=by rw[aBr.length_eq];have:=yx l;omega
 have hxs:∀s∈xs,0≤s.p∧s.p<n:=fun s hs=>by
  have:=aBr.mem_iff.1 hs;unfold oZ at this;obtain⟨y,hy,rfl⟩:=KB.1 this;exact hin y (List.mem_filter.1 hy).1
 have aGE:h'.le h4:=hsm.le hd (Kb _);have hn4:nx≤nx4:=aGD;clear aGD aAU;rw[←Ce T aBr];subst hP;have aVo:=aVp;simp only[kJ] at aVo;refine aue aVo ?_
 refine aO (fun q:Nat×Own=>aB 27 0 [(0, .ptr cb (.agg 4) 0 0),(3, .sl .leaf q.2 (tX T xs q.1)),(4, .sl (.agg 3) o (xs.map Sp.v)),(14, .int .i64 n),(15, .int .i64 q.1)])
  (fun q hp nx1=>q.1≤n∧nx4≤nx1∧aI hp nx1∧Kc nx4 h4 hp∧Acc hp nx4 q.2 (tX T xs q.1))
  (fun q=>n-q.1) (0, .nil) ⟨Ki _,Kq _,hd4,Hp.same.aBG,Acc.nil⟩ (wke (show tX T xs 0=[] from rfl)) ?_
 rintro⟨i,oo⟩ hp nx1 ⟨hi,hnx,hdm,aNs,aAU⟩;generalize hQ:bH _ _ _ _ _=Q0;dsimp only at hi aAU;simp only[aB,go_sem,reduceIte,jA,jB,jC,jD,reduceCtorEq,jE,jF];rcases Kh i n with hlt|hge
 ·have hc1:decide ((i:Int)<(n:Int))=true:=dct;have hw:IntKind.i64.wrap ((i:Int)+1)=((i+1:Nat):Int):=wrp;have hci:dQ hp cb m n wv (.sl .leaf ot rows) l c:=⟨by rw[aNs cb or];exact aVp,by rw[aNs m or];exact hc4.mp,hc.wf,hc.lf⟩;have hfl:=pK (.agg 2) ((ofT (frT T i xs)).map Tm.v);have hfn:=Cd T xs i;have hfe:(tX T xs i).length=i:=by simp[tX]
  refine aue (e2 hc1 hw) ?_;refine aQ (AA hci T n rfl hT hlen o xs hxl hxs i hlt) rfl (aT _) ?_;refine Zn ?_;refine aue (e3 hw hfl hfe) ?_;rw[←hQ];refine aD (i+1, .tok (nx1+1)) Zw ⟨hlt,ZN,dmo hdm,kv aNs aAU,?_⟩ (wke hfn);dsimp only;rw[hfn];exact Acc.new _ Zm or
 have hc1:decide ((i:Int)<(n:Int))=false:=dcf;have hin:i=n:=or;subst hin;refine aue hc1 ?_;rw[←hQ];refine au ?_;refine aG h' (Hp.le_trans aGE (aNs.le hd4 (Kb _))) ⟨?_,Kb _⟩;refine Zn ?_;rw[aAU.loose];rfl
theorem sr(x:V)(hx:x.aAD=true)(h':Hp)(nx:Nat):
 bD Tryz.prog 60 [x] h' nx fun v h'' nx2=>v= .fn (.func 90) [] [.ptr nx .leaf 0 0]∧h''=h'.set nx (.arr .leaf [x])∧nx+1≤nx2:=by
 refine aF L.aYM fun hd=>?_;simp only[jL,jM,jA,jB,jN,jO,jP,jQ,V.undef];refine aue hx ?_;refine aG _ (Kb _) ⟨rfl,rfl,ZN⟩
theorem EI{α:Type}{ws:List α}{p:α→Bool}{i:Nat}(hi:i<ws.length)(hp:p ws[i]=true):(ws.filter p)[((ws.take i).filter p).length]?=some ws[i]:=by
 have e:ws=ws.take i++ws[i]::ws.drop (i+1):=by
  rw[List.getElem_cons_drop,List.take_append_drop]
 have h2:ws.filter p=(ws.take i).filter p++ws[i]::(ws.drop (i+1)).filter p:=by
  conv=>lhs;rw[e]
  rw[Kk,List.filter_cons,if_pos hp]
 rw[h2,List.getElem?_append_right (Kq _)];simp
def jx(C:List Cg):List (List V):=(iR C).map fun x=>[x.s.v, .int .i64 x.d]
theorem E0{l:List CE}{j:Nat}(hj:j<(pH l).length)(hp:cZ l (pH l)[j]>0):
 ∃h:(iR ((dT l).take j)).length<(jx (dT l)).length,(jx (dT l))[(iR ((dT l).take j)).length]=[(pH l)[j].v, .int .i64 (cZ l (pH l)[j])]:=by
 have hl:j<(dT l).length:=by rw[jX,←sC];exact hj
 have he:(dT l)[j]=⟨(pH l)[j],cZ l (pH l)[j]⟩:=by simp[dT]
 have h1:=EI (p:=fun x:Cg=>decide (x.d>0)) hl (by rw[he];simpa using hp);refine List.getElem?_eq_some_iff.1 ?_;have h2:(iR (dT l))[(iR ((dT l).take j)).length]?=some (dT l)[j]:=h1;unfold jx;rw[List.getElem?_map,h2,he];rfl
theorem CD(l:List CE){j:Nat}(hj:j<(pH l).length):(iR ((dT l).take (j+1))).length=(iR ((dT l).take j)).length+if cZ l (pH l)[j]>0 then 1 else 0:=by
 have hl:j<(dT l).length:=by rw[jX,←sC];exact hj
 have he:(dT l)[j]=⟨(pH l)[j],cZ l (pH l)[j]⟩:=by simp[dT]
 rw[Ke hl,he];unfold iR;rw[Kk,List.length_append];by_cases h:cZ l (pH l)[j]>0<;>simp[h]
set_option maxRecDepth 100000 in
set_option maxHeartbeats 4000000 in
theorem yw{cb m c:Nat}{P:Int}{wv lv:V}{l:List CE}(bx:Nat)(hb:Hp)(h1:hb bx=some (.arr .leaf [.ptr cb (.agg 4) 0 0]))(hc:dQ hb cb m P wv lv l c)(hok:eO l c)(hl:l.length≤100000):
 AR Tryz.prog 90 [.ptr bx .leaf 0 0] hb (jx (dT l)):=by
 intro yn J D hbJ hnJ hnD hJ h0 nx0 h0J hd0;refine aF L.aXh fun hd=>?_;simp only[jL,jM,jA,jB,jN,jO,jP,jQ,V.undef];have hbj:∀i h nx,J i h nx→h bx=some (.arr .leaf [.ptr cb (.agg 4) 0 0])∧h cb=some (.arr (.agg 4) [kJ P wv lv m])∧h m=some (.mp (l.map CE.me) c):=fun i h nx hj=>⟨hbJ _ _ _ hj _ _ h1 rfl,hbJ _ _ _ hj _ _ hc.cell rfl,hbJ _ _ _ hj _ _ hc.mp rfl⟩;obtain⟨c1,c2,c3⟩:=hbj _ _ _ h0J;have n3:m<nx0:=hd _ _ c3;have aAM:kJ P wv lv m= .agg [.int .i64 P,wv,lv, .map m]:=rfl;rw[aAM] at c2;refine aue (e2 c1 c2) ?_;refine bN ((B3 v8 m _ _).mono ?_);rintro v h3 nx3 aDl ⟨rfl,rfl,hn3⟩;unfold dM;refine Zn ?_;dsimp only at hn3;have hk:=BO l c hok or m nx0 or;obtain⟨o2,ho2⟩:=nG (.agg 3) ((pH l).map Sp.v);rw[ho2] at hk;refine aQ hk rfl (B4 ?_ ?_) ?_
 ·simp only[Hp.aAH];rw[if_neg or];exact c3
 ·simp only[Hp.aAH,reduceIte]
 have hkl:(pH l).length≤100000:=by rw[sC];omega
 have hat:=fun j hj hp=>E0 (l:=l) (j:=j) hj hp;have htk:=fun j hj=>CD l (j:=j) hj;have aCo:(jx (dT l)).length=(iR ((dT l).take (pH l).length)).length:=by
  have:(dT l).length=(pH l).length:=by rw[jX,sC]
  rw[←this,List.take_length];simp[jx]
 obtain⟨N,hN⟩:∃N:Nat→Nat,∀j,N j=(iR ((dT l).take j)).length:=⟨_,fun _=>rfl⟩;simp only[←hN] at hat htk aCo;have hN0:N 0=0:=by rw[hN];rfl
 generalize hks:pH l=ks at hkl hat htk aCo⊢;generalize jx (dT l)=xs at*;refine aue (@jK Sp V) ?_
 refine aO (fun j:Nat=>aB 35 0 [(0, .yld yn),(1, .ptr bx .leaf 0 0),(13, .sl (.agg 3) o2 (ks.map Sp.v)),(14, .int .i64 ks.length),(15, .int .i64 j)])
  (fun j hp nx1=>j≤ks.length∧aI hp nx1∧∃hj,J (N j) hj nx1∧aI hj nx1∧hj.le hp)
  (fun j=>ks.length-j) 0 ⟨Ki _,dmo hd0,h0,by rw[hN0];exact hnJ _ _ _ _ h0J ZN,dmo hd0,leo hd0⟩ (wkl trivial) ?_
 rintro j hp nx1 ⟨hj,hdm,hj0,hJi,hdj,hle⟩;generalize hQ:bH _ _ _ _ _=Q0;simp only[aB,go_sem,reduceIte,jA,jB,jC,jD,reduceCtorEq,jE,jF];obtain⟨f1,f2,f3⟩:=hbj _ _ _ hJi;have d1:=hle _ _ f1;have d2:=hle _ _ f2;have d3:=hle _ _ f3;rw[aAM] at d2;rcases Kh j ks.length with hlt|hge
 ·have hc1:decide ((j:Int)<(ks.length:Int))=true:=dct;have hg:(ks.map Sp.v).getD j (.tup [])= .agg [.int .i64 ks[j].p, .int .i64 ks[j].t.e, .int .i64 ks[j].t.r]:=bY Sp.v _ ks j hlt;have hw:IntKind.i64.wrap ((j:Int)+1)=((j+1:Nat):Int):=wrp;have hmf:fA (.plain (.agg 3) [.int, .int, .int]) (.agg [.int .i64 ks[j].p, .int .i64 ks[j].t.e, .int .i64 ks[j].t.r]) (l.map CE.me)=some (l.findIdx? fun x=>decide (x.s=ks[j])):=kT ks[j] l;have hmg:=tI l ks[j];have q1:bx<nx1:=hdm _ _ d1;have q2:cb<nx1:=hdm _ _ d2;have q3:m<nx1:=hdm _ _ d3;have hll:∀k,j<k→True:=fun _ _=>trivial;have ht:=htk j hlt;cases aA0:decide (cZ l ks[j]>0) with
  |true=>
   have hpp:cZ l ks[j]>0:=of_decide_eq_true aA0;rw[if_pos hpp] at ht;obtain⟨r1,r2⟩:=hat j hlt hpp;refine aue (e12 hc1 hg hlt d1 d2 d3 q1 q2 q3 hmf hmg (e3 aA0 (@jK Sp V) jG)) ?_;refine vV rfl ?_;have hy:=(hJ _ r1 hj0 (nx1+9) (hnJ _ _ _ _ hJi or) (hdj.up or)).dom;rw[r2] at hy;refine(hy.weaken ?_).mono ?_
   ·exact lef hdj hle
   rintro v h3 nx3 aDl ⟨hq,aIR,_⟩;unfold dM;rcases hq with⟨rfl,hj'⟩|⟨rfl,hD⟩
   ·refine Zn ?_;refine aue hw ?_;rw[←hQ];refine aD (j+1) or ⟨hlt,aIR,h3,by rw[ht];exact hj',aIR,Kb _⟩ (wkl trivial)
   refine Zn ?_;refine aue hw ?_;rw[←hQ];refine au ?_;exact uq h3 (Kb _) (.inr hD)
  |false=>
   have hpp:¬cZ l ks[j]>0:=of_decide_eq_false aA0;rw[if_neg hpp] at ht;refine aue (e12 hc1 hg hlt d1 d2 d3 q1 q2 q3 hmf hmg (e4 aA0 hw (@jK Sp V) jG)) ?_;rw[←hQ];refine aD (j+1) or ⟨hlt,dmo hdm,hj0,by rw[ht];exact hnJ _ _ _ _ hJi ZN,hdj.up ZN,lef hdj hle⟩ (wkl trivial)
 have hc1:decide ((j:Int)<(ks.length:Int))=false:=dcf;have hjl:j=ks.length:=or;refine aue hc1 ?_;rw[←hQ];refine au ?_;refine⟨hj0,hle, .inl ?_⟩;rw[aCo,←hjl];exact hJi
theorem qd(l:List Cg)(i:Nat)(h:i<l.length):(l.map Cg.v).getD i (.tup [])= .agg [.int .i64 l[i].s.p, .int .i64 l[i].s.t.e, .int .i64 l[i].s.t.r, .int .i64 l[i].d]:=bY Cg.v _ l i h
theorem fe{l:List Cg}{p:Cg→Bool}{i:Nat}(hi:i<l.length):(l.take (i+1)).any p=((l.take i).any p||p l[i]):=by
 rw[Ke hi,List.any_append];simp
theorem yW{l:List Cg}{p:Cg→Bool}{i:Nat}(hi:i<l.length)(h:p l[i]=true):l.any p=true:=Kf.2 ⟨l[i],List.getElem_mem _,h⟩
theorem CF(C:List Cg){i:Nat}(h:i<C.length):iR (C.take (i+1))=iR (C.take i)++if C[i].d>0 then [C[i]] else []:=by
 rw[Ke h];unfold iR;rw[Kk];congr 1;by_cases h0:C[i].d>0<;>simp[h0]
theorem AX{n:Int}(h:cV n=false):decide (n>1000000)=false∧decide (n< -1000000)=false:=by
 have:=(pD n).1 h;exact⟨dcf,dcf⟩
theorem dv{n:Int}(h:cV n=true):decide (n>1000000)=true∨(decide (n>1000000)=false∧decide (n< -1000000)=true):=by
 by_cases h1:n>1000000
 ·exact .inl (decide_eq_true h1)
 by_cases h2:n< -1000000
 ·exact .inr ⟨decide_eq_false h1,decide_eq_true h2⟩
 have:=(pD n).2 ⟨or,or⟩;rw[this] at h;cases h
set_option maxRecDepth 100000 in
set_option maxHeartbeats 4000000 in
theorem oA(om o o':Own)(P:Int)(ws:List Wy)(C r:List Cg)(hC:C.length≤10000)(hr:r.length≤10000)(ho:lst (.agg 4) (C.map Cg.v)= .sl (.agg 4) o (C.map Cg.v))(h:Hp):
 aY Tryz.prog 50 [mps om P ws,cgs o C,cgs o' r] h (.tup [lst (.agg 4) ((bP P C r).1.map Cg.v), .int .i64 (bP P C r).2]):=by
 have hmf:(mps om P ws).fits (.agg 2)=true:=by simp[mps,V.fits,V.aAD,wys]
 have aAM:(mps om P ws).cell 0= .int .i64 P:=rfl;refine aR (fun L=>?_) fun h' nx hh=>aF L.aYZ fun hd=>?_
 ·simp only[V.names,bU,and_true];exact cP (fun L=>bG (Cg.aAN L) _) L
 simp only[jL,jM,jA,jB,jN,jO,jP,jQ,V.undef];have out:∀{x:List Cg×Int} {sl:List V} {hp:Hp} {nx2:Nat} {v:V},bP P C r=x→h'.le hp→sl.getD 6 V.undef=v→v=lst (.agg 4) (x.1.map Cg.v)→sl.getD 7 V.undef= .int .i64 x.2→iB [pX.slot 6,pX.slot 7] (fun v' h'' _=>v'= .tup [lst (.agg 4) ((bP P C r).1.map Cg.v), .int .i64 (bP P C r).2]∧h''=h') .ret ⟨sl,hp,nx2⟩:=fun e hle e1 e2 e3=>iO h' hle ⟨by rw[e,e1,e2,e3],rfl⟩;refine aue (e2 hmf aAM) ?_
 --is each stamp right?
 refine aO (fun i:Nat=>aB 96 0 [(1,cgs o C),(2,cgs o' r),(3, .ptr nx (.agg 2) 0 0),(8, .int .i64 i)])
  (fun i hp nx1=>i≤r.length∧nx+1≤nx1∧aI hp nx1∧Kc nx h' hp∧hp nx=some (.arr (.agg 2) [mps om P ws])∧(r.take i).any (dY P)=false)
  (fun i=>r.length-i) 0 ⟨Ki _,ZN,dmo hd,kep Hp.same.aBG,by simp[Ka],Zm⟩ (by simp only[WkL,aB,jH,jI,jJ,cgs,go_sem,reduceIte,jA,jB,jC,jD,reduceCtorEq,jE,jF]) ?_
 rintro i hp nx1 ⟨hi,hnx,hdm,hsm,hb,hno⟩;generalize hQ:bH _ _ _ _ _=Q0;simp only[aB,cgs,go_sem,reduceIte,jA,jB,jC,jD,reduceCtorEq,jE,jF];rcases Kh i r.length with hlt|hge
 ·have hc1:decide ((i:Int)<(r.length:Int))=true:=dct;have hw1:IntKind.i64.wrap ((i:Int)+1)=((i+1:Nat):Int):=wrp;have hg:=qd r i hlt;have D1:∀h,aY Tryz.prog 53 [.agg [.int .i64 r[i].s.t.e, .int .i64 r[i].s.t.r]] h (.bool r[i].s.t.ok):=fun h=>lU r[i].s.t h;have hbx:nx<nx1:=or;cases hs:dY P r[i] with
  |true=>
   have aBW:bP P C r=(C,2):=by unfold bP;rw[if_pos (yW hlt hs)]
   cases h1:decide (r[i].s.p<0) with
   |true=>
    refine aue (e10 hc1 hw1 hg hlt h1 hb hbx (@jK Cg V) jG aAM) ?_;rw[←hQ];refine au ?_;exact out aBW (hsm.le hd (Kb _)) rfl ho.symm rfl
   |false=>
    cases h2:decide (r[i].s.p≥P) with
    |true=>
     refine aue (e11 hc1 hw1 hg hlt h1 h2 hb hbx (@jK Cg V) jG aAM) ?_;rw[←hQ];refine au ?_;exact out aBW (hsm.le hd (Kb _)) rfl ho.symm rfl
    |false=>
     have hok:r[i].s.t.ok=false:=by
      unfold dY at hs;rw[h1,h2] at hs;simpa using hs
     rw[hok] at D1;refine aue (e11 hc1 hw1 hg hlt h1 h2 hb hbx (@jK Cg V) jG aAM) ?_;rw[←hQ];refine au ?_;exact out aBW (hsm.le hd (Kb _)) rfl ho.symm rfl
  |false=>
   have hs2:=hs;unfold dY at hs2;simp only[Kt,Kj] at hs2;obtain⟨⟨h1,h2⟩,hok⟩:=hs2;rw[hok] at D1;refine aue (e11 hc1 hw1 hg hlt h1 h2 hb hbx (@jK Cg V) jG aAM) ?_;rw[←hQ];exact aD (i+1) or ⟨hlt,ZN,dmo hdm,hsm,hb,by rw[fe hlt,hno,hs];rfl⟩ (by simp only[WkL,aB,jH,jI,jJ,cgs,go_sem,reduceIte,jA,jB,jC,jD,reduceCtorEq,jE,jF])
 have aVY:r.any (dY P)=false:=by rw[Kg hge] at hno;exact hno
 have hc1:decide ((i:Int)<(r.length:Int))=false:=dcf;refine aue (e2 hc1 (@jK Cg V)) ?_;rw[←hQ];clear hQ Q0 hno hb;refine au ?_
 --is each one a number that may stand?
 refine aO (fun i:Nat=>aB 96 0 [(1,cgs o C),(2,cgs o' r),(9, .int .i64 i)])
  (fun i hp nx1=>i≤r.length∧nx≤nx1∧aI hp nx1∧Kc nx h' hp∧(r.take i).any (fun x=>cV x.d)=false)
  (fun i=>r.length-i) 0 ⟨Ki _,ZN,hdm,hsm,Zm⟩ (by simp only[WkL,aB,jH,jI,jJ,cgs,go_sem,reduceIte,jA,jB,jC,jD,reduceCtorEq,jE,jF]) ?_
 clear hi hnx hdm hsm hge hc1;rintro i hp nx1 ⟨hi,hnx,hdm,hsm,hno⟩;generalize hQ:bH _ _ _ _ _=Q0;simp only[aB,cgs,go_sem,reduceIte,jA,jB,jC,jD,reduceCtorEq,jE,jF];rcases Kh i r.length with hlt|hge
 ·have hc1:decide ((i:Int)<(r.length:Int))=true:=dct;have hw1:IntKind.i64.wrap ((i:Int)+1)=((i+1:Nat):Int):=wrp;have hg:=qd r i hlt;cases hs:cV r[i].d with
  |true=>
   have aBW:bP P C r=(C,1):=by unfold bP;rw[if_neg (by simp[aVY]),if_pos (yW (p:=fun x=>cV x.d) hlt hs)]
   rcases dv hs with h1|⟨h1,h2⟩
   ·refine aue (e7 hc1 hw1 hg hlt h1 (@jK Cg V) jG) ?_;rw[←hQ];refine au ?_;exact out aBW (hsm.le hd (Kb _)) rfl ho.symm rfl
   refine aue (e8 hc1 hw1 hg hlt h1 h2 (@jK Cg V) jG) ?_;rw[←hQ];refine au ?_;exact out aBW (hsm.le hd (Kb _)) rfl ho.symm rfl
  |false=>
   obtain⟨h1,h2⟩:=AX hs;refine aue (e8 hc1 hw1 hg hlt h1 h2 (@jK Cg V) jG) ?_;rw[←hQ];exact aD (i+1) or ⟨hlt,ZN,dmo hdm,hsm,by rw[fe hlt,hno,hs];rfl⟩ (by simp only[WkL,aB,jH,jI,jJ,cgs,go_sem,reduceIte,jA,jB,jC,jD,reduceCtorEq,jE,jF])
 have aWP:r.any (fun x=>cV x.d)=false:=by rw[Kg hge] at hno;exact hno
 have hc1:decide ((i:Int)<(r.length:Int))=false:=dcf;obtain⟨os,hos⟩:=nG (.agg 4) ((vJ (C++r)).map Cg.v);have C1:∀(h:Hp) {ow:Own},aY Tryz.prog 81 [.sl (.agg 4) ow (C.map Cg.v++r.map Cg.v)] h (.sl (.agg 4) os ((vJ (C++r)).map Cg.v)):=fun h ow=>by
  have:=BH ow (C++r) (by simp;omega) h;rw[hos] at this;rw[←Kz];exact this
 have hSl:(vJ (C++r)).length≤20000:=by have:=C9 (C++r);simp at this;omega
 have aEV:bP P C r=if (vJ (C++r)).any (fun x=>cV x.d)=true then (C,1) else (vJ (C++r),0):=by unfold bP;rw[if_neg (by simp[aVY]),if_neg (by simp[aWP])]
 refine aue (e2 hc1 (@jK Cg V)) ?_;rw[←hQ];clear hQ Q0 hno;generalize vJ (C++r)=S at*;refine aue (@jK Cg V) ?_;have aBD:h'.le hp:=hsm.le hd (Kb _)
 refine aO (fun i:Nat=>aB 96 0 [(1,cgs o C),(10, .sl (.agg 4) os (S.map Cg.v)),(11, .int .i64 i)])
  (fun i hp nx1=>i≤S.length∧h'.le hp∧aI hp nx1∧(S.take i).any (fun x=>cV x.d)=false)
  (fun i=>S.length-i) 0 ⟨Ki _,?_,dmo hdm,Zm⟩ (by simp only[WkL,aB,jH,jI,jJ,cgs,go_sem,reduceIte,jA,jB,jC,jD,reduceCtorEq,jE,jF]) ?_
 ·exact lef hd aBD
 clear hi hnx hdm hsm hge hc1 aBD;rintro i hp nx1 ⟨hi,hle,hdm,hno⟩;generalize hQ:bH _ _ _ _ _=Q0;simp only[aB,cgs,go_sem,reduceIte,jA,jB,jC,jD,reduceCtorEq,jE,jF];rcases Kh i S.length with hlt|hge
 ·have hc1:decide ((i:Int)<(S.length:Int))=true:=dct;have hw1:IntKind.i64.wrap ((i:Int)+1)=((i+1:Nat):Int):=wrp;have hg:=qd S i hlt;cases hs:cV S[i].d with
  |true=>
   have aBW:bP P C r=(C,1):=by rw[aEV,if_pos (yW (p:=fun x=>cV x.d) hlt hs)]
   rcases dv hs with h1|⟨h1,h2⟩
   ·refine aue (e7 hc1 hw1 hg hlt h1 (@jK Cg V) jG) ?_;rw[←hQ];refine au ?_;exact out aBW hle rfl ho.symm rfl
   refine aue (e8 hc1 hw1 hg hlt h1 h2 (@jK Cg V) jG) ?_;rw[←hQ];refine au ?_;exact out aBW hle rfl ho.symm rfl
  |false=>
   obtain⟨h1,h2⟩:=AX hs;refine aue (e8 hc1 hw1 hg hlt h1 h2 (@jK Cg V) jG) ?_;rw[←hQ];exact aD (i+1) or ⟨hlt,hle,dmo hdm,by rw[fe hlt,hno,hs];rfl⟩ (by simp only[WkL,aB,jH,jI,jJ,cgs,go_sem,reduceIte,jA,jB,jC,jD,reduceCtorEq,jE,jF])
 have aWO:S.any (fun x=>cV x.d)=false:=by rw[Kg hge] at hno;exact hno
 have hc1:decide ((i:Int)<(S.length:Int))=false:=dcf;refine aue (e2 hc1 (@jK Cg V)) ?_;rw[←hQ];refine au ?_;exact out (x:=(S,0)) (by rw[aEV,if_neg (by simp[aWO])]) hle rfl hos.symm rfl
theorem dQ.aBB{h h2:Hp}{cb m c:Nat}{P:Int}{wv lv:V}{l:List CE}{nx:Nat}(hc:dQ h cb m P wv lv l c)(hd:aI h nx)(hk:∀x,x<nx→h2 x=h x):dQ h2 cb m P wv lv l c:=
 ⟨(hk _ (hd _ _ hc.cell)).trans hc.cell,(hk _ (hd _ _ hc.mp)).trans hc.mp,hc.wf,hc.lf⟩
theorem dQ.has{h h2:Hp}{cb m c:Nat}{P:Int}{wv lv:V}{l:List CE}(hc:dQ h cb m P wv lv l c)(hk:h.has h2):dQ h2 cb m P wv lv l c:=⟨hk _ _ hc.cell rfl,hk _ _ hc.mp rfl,hc.wf,hc.lf⟩
theorem m7(o o':Own)(es es':List V)(k:Sh):bW .leaf 0 (V.sl k o es) (V.sl k o' es')=V.sl k o' es':=rfl
set_option maxRecDepth 100000 in
set_option maxHeartbeats 8000000 in
theorem po{h:Hp}{cb m c:Nat}{P:Int}{wv lv:V}{l:List CE}(hc:dQ h cb m P wv lv l c)(hok:eO l c)(hl:l.length≤10000)(o oa:Own)(asked:List Cg)(ha:asked.length≤10000):
 aY Tryz.prog 33 [.ptr cb (.agg 4) 0 0,cgs o (dT l),cgs oa asked] h (.bool true):=by
 refine aR (fun L=>trivial) fun h' nx hh=>aF L.aYu fun hd=>?_;simp only[jL,jM,jA,jB,jN,jO,jP,jQ,V.undef,cgs];have hc0:=hc.has hh;have hCl:(dT l).length≤10000:=by rw[jX];exact hl
 refine aue (@jK Cg V) ?_
 --each that is asked for
 refine aO (fun i:Nat=>aB 87 0 [(0, .ptr cb (.agg 4) 0 0),(1,cgs o (dT l)),(6, .ptr nx .leaf 0 0),(15,cgs oa asked),(16, .int .i64 asked.length),(17, .int .i64 i)])
  (fun i hp nx1=>i≤asked.length∧nx+1≤nx1∧aI hp nx1∧Kc nx h' hp∧hp nx=some (.arr .leaf [.bool false]))
  (fun i=>asked.length-i) 0 ⟨Ki _,ZN,dmo hd,kep Hp.same.aBG,by simp[Ka]⟩ (by simp only[WkL,aB,jH,jI,jJ,cgs,go_sem,reduceIte,jA,jB,jC,jD,reduceCtorEq,jE,jF]) ?_
 rintro i hp nx1 ⟨hi,hnx,hdm,hsm,hb⟩;generalize hQ:bH _ _ _ _ _=Q0;simp only[aB,cgs,go_sem,reduceIte,jA,jB,jC,jD,reduceCtorEq,jE,jF];rcases Kh i asked.length with hlt|hge
 ·have hc1:decide ((i:Int)<(asked.length:Int))=true:=dct;have hw1:IntKind.i64.wrap ((i:Int)+1)=((i+1:Nat):Int):=wrp;have hg:=qd asked i hlt;have n0:(nx=nx1)=False:=fls;have hci:∀H:Hp,(∀x,x<nx→H x=hp x)→dQ H cb m P wv lv l c:=fun H hH=>hc0.aBB hd fun x hx=>(hH x hx).trans (hsm x hx);generalize asked[i]=x at*;have D1:∀h,aY Tryz.prog 24 [.agg [.int .i64 x.s.p, .int .i64 x.s.t.e, .int .i64 x.s.t.r]] h x.s.v:=fun h=>oD x.s h;have D2:∀h,aY Tryz.prog 59 [.sl (.agg 4) o ((dT l).map Cg.v),x.s.v] h (.int .i64 (cZ l x.s)):=fun h=>by
   have:=nh o (dT l) x.s or h;rw[io hok] at this;exact this
  have hne:(cZ l x.s != cZ l x.s)=false:=bnf;refine aue (e6 hc1 hg hlt (@jK Cg V) jG hne) ?_;refine bK (w7 x.s (hci _ ?_)) rfl (aT _) ?_
  ·intro y hy;refine Zn ?_;rw[if_neg or,if_neg or]
  refine Zn ?_;refine aue (e4 hne hw1 (@jK Cg V) jG) ?_;rw[←hQ];refine aD (i+1) or ⟨hlt,ZN,dmo hdm,kep hsm,?_⟩ (by simp only[WkL,aB,jH,jI,jJ,cgs,go_sem,reduceIte,jA,jB,jC,jD,reduceCtorEq,jE,jF]);simp only[Ka,n0,if_false];exact hb
 have hc1:decide ((i:Int)<(asked.length:Int))=false:=dcf;refine aue hc1 ?_;rw[←hQ];clear hQ Q0 hge hc1 hi;refine aue (@jK Cg V) ?_;obtain⟨B,hB⟩:∃B,B=nx1:=⟨_,rfl⟩;rw[←hB];have hB1:nx+1≤B:=or
 --the active ones
 refine aO (fun q:Nat×Own=>aB 87 0 [(0, .ptr cb (.agg 4) 0 0),(1,cgs o (dT l)),(6, .ptr nx .leaf 0 0),(9, .ptr B .leaf 0 0),(32,cgs o (dT l)),(33, .int .i64 (dT l).length),(34, .int .i64 q.1)])
  (fun q hp nx1=>q.1≤(dT l).length∧B+1≤nx1∧aI hp nx1∧Kc nx h' hp∧hp nx=some (.arr .leaf [.bool false])∧hp B=some (.arr .leaf [.sl (.agg 4) q.2 ((iR ((dT l).take q.1)).map Cg.v)])∧Acc hp (B+1) q.2 ((iR ((dT l).take q.1)).map Cg.v))
  (fun q=>(dT l).length-q.1) (0, .nil) ⟨Ki _,ZN,dmo hdm,kep hsm,?_,?_,Acc.nil⟩ (by simp only[WkL,aB,jH,jI,jJ,cgs,go_sem,reduceIte,jA,jB,jC,jD,reduceCtorEq,jE,jF]) ?_
 ·simp only[Ka];rw[if_neg or];exact hb
 ·simp only[Ka,if_true,List.take_zero,show iR []=[] from rfl,List.map_nil]
 clear hdm hsm hb hnx hB nx1 hp;rintro⟨i,oo⟩ hp nx1 ⟨hi,hnx,hdm,hsm,hb,hbx,aAU⟩;generalize hQ:bH _ _ _ _ _=Q0;dsimp only at hi hbx aAU;simp only[aB,cgs,go_sem,reduceIte,jA,jB,jC,jD,reduceCtorEq,jE,jF];have n0:(nx=nx1)=False:=fls;have n1:(B=nx1)=False:=fls;have n2:B<nx1:=or;generalize hCC:dT l=C at*;rcases Kh i C.length with hlt|hge
 ·have hc1:decide ((i:Int)<(C.length:Int))=true:=dct;have hw1:IntKind.i64.wrap ((i:Int)+1)=((i+1:Nat):Int):=wrp;have hg:=qd C i hlt;have hst:=CF C hlt;have hal:(iR (C.take i)).length≤10000:=Kp (Ks _ _) (by simp;omega);cases aA0:decide (C[i].d>0) with
  |false=>
   rw[if_neg (of_decide_eq_false aA0),List.append_nil] at hst;refine aue (e7 hc1 hg hlt (@jK Cg V) jG aA0 hw1) ?_;rw[←hQ];refine aD (i+1,oo) Zw ⟨hlt,ZN,dmo hdm,kep hsm,?_,?_,?_⟩ (by simp only[WkL,aB,jH,jI,jJ,cgs,go_sem,reduceIte,jA,jB,jC,jD,reduceCtorEq,jE,jF])
   ·simp only[Ka,n0,if_false];exact hb
   ·simp only[Ka,n1,if_false,hst];exact hbx
   dsimp only;rw[hst];exact acc aAU hdm
  |true=>
   rw[if_pos (of_decide_eq_true aA0)] at hst;have aCd:(iR (C.take (i+1))).map Cg.v=(iR (C.take i)).map Cg.v++[.agg [.int .i64 C[i].s.p, .int .i64 C[i].s.t.e, .int .i64 C[i].s.t.r, .int .i64 C[i].d]]:=by rw[hst,Kz];rfl
   have hbd:((iR (C.take i)).length+1)*32≤140737488355328:=or;have hll:((iR (C.take i)).map Cg.v).length=(iR (C.take i)).length:=Zm;generalize (iR (C.take i)).map Cg.v=F at*;have n5:(B=nx1+2)=False:=fls;have n6:(B=nx1+3)=False:=fls;rcases aAU with⟨rfl,rfl⟩|⟨hne,id,hid,rfl,aBH⟩
   ·refine aue (e12 hc1 hg hlt (@jK Cg V) jG aA0 hbx n1 n2 n5 n6 (e2 (@m7) hw1)) ?_;rw[←hQ];refine aD (i+1, .tok (nx1+3)) Zw ⟨hlt,ZN,dmo hdm,kep hsm,?_,?_,?_⟩ (by simp only[WkL,aB,jH,jI,jJ,cgs,go_sem,reduceIte,jA,jB,jC,jD,reduceCtorEq,jE,jF])
    ·have e1:∀k,(nx=nx1+k)=False:=fun k=>fls;have e2:(nx=B)=False:=fls;simp only[Ka,Kd,n0,e1,e2,if_false];exact hb
    ·dsimp only;rw[aCd];simp only[Ka,if_true,jQ]
    dsimp only;rw[aCd];refine .inr ⟨Zm,nx1+3,or,rfl,?_⟩;have e4:(nx1+3=B)=False:=fls;simp only[Ka,Kd,e4,if_true,if_false]
   have aB1:id<nx1:=hdm _ _ aBH;have n7:(id=nx1)=False:=fls;have n8:(B=id)=False:=fls;refine aue (e14 hc1 hg hlt (@jK Cg V) jG aA0 hbx n1 n2 aBH aB1 hll hbd (e5 n7 n8 (@m7) n5 hw1)) ?_;rw[←hQ];refine aD (i+1, .tok (nx1+3)) Zw ⟨hlt,ZN,dmo hdm,kep hsm,?_,?_,?_⟩ (by simp only[WkL,aB,jH,jI,jJ,cgs,go_sem,reduceIte,jA,jB,jC,jD,reduceCtorEq,jE,jF])
   ·have e1:∀k,(nx=nx1+k)=False:=fun k=>fls;have e2:(nx=B)=False:=fls;have e3:(nx=id)=False:=fls;simp only[Ka,Kd,n0,e1,e2,e3,if_false];exact hb
   ·dsimp only;rw[aCd];simp only[Ka,if_true]
   dsimp only;rw[aCd];refine .inr ⟨Zm,nx1+3,or,rfl,?_⟩;have e4:(nx1+3=B)=False:=fls;simp only[Ka,Kd,e4,if_true,if_false]
 have hc1:decide ((i:Int)<(C.length:Int))=false:=dcf;have hil:C.take i=C:=Kg or;rw[hil] at hbx aAU;refine aue hc1 ?_;rw[←hQ];clear hQ Q0 hge hc1 hi hil;refine aue (@jK Cg V) ?_;refine bN ((sr (.ptr cb (.agg 4) 0 0) rfl _ _).mono ?_);rintro v2 h3 nx3 aDl ⟨rfl,rfl,aHG⟩;dsimp only at aHG;unfold dM;refine Zn ?_;refine au ?_;have hit:=fun hb h1 hc=>yw (cb:=cb) (m:=m) (c:=c) (P:=P) (wv:=wv) (lv:=lv) (l:=l) (nx1+2) hb h1 hc hok or;rw[hCC] at hit;obtain⟨H2,hH2⟩:∃H2:Hp,H2=((hp.set nx1 (.arr .leaf [.int .i64 0])).set nx1 (.arr .leaf [.int .i64 0])).set (nx1+2) (.arr .leaf [.ptr cb (.agg 4) 0 0]):=⟨_,rfl⟩;have k1:H2 nx=some (.arr .leaf [.bool false]):=by
  have e1:(nx=nx1+2)=False:=fls;rw[hH2];simp only[Ka,e1,n0,if_false];exact hb
 have k2:H2 B=some (.arr .leaf [.sl (.agg 4) oo ((iR C).map Cg.v)]):=by
  have e1:(B=nx1+2)=False:=fls;rw[hH2];simp only[Ka,e1,n1,if_false];exact hbx
 have k3:H2 nx1=some (.arr .leaf [.int .i64 ((0:Nat):Int)]):=by
  have e1:(nx1=nx1+2)=False:=fls;rw[hH2];simp only[Ka,e1,if_true,if_false];rfl
 have k4:H2 (nx1+2)=some (.arr .leaf [.ptr cb (.agg 4) 0 0]):=by rw[hH2];simp only[Ka,if_true]
 have hsH:Kc nx h' H2:=by rw[hH2];exact kep hsm
 have hdH:aI H2 nx3:=by rw[hH2];exact dmo hdm
 rw[←hH2];clear hH2
 --what holds where i have been handed over
 obtain⟨J,hJ⟩:∃J:Nat→Hp→Prop,∀i h,J i h↔((∀x,x<nx3→x≠nx1→h x=H2 x)∧h nx1=some (.arr .leaf [.int .i64 i])):=⟨_,fun _ _=>Iff.rfl⟩;have aAT:∀i h b,J i h→J i (h.set nx3 b):=fun i h b hj=>by
  obtain⟨q1,q2⟩:=(hJ i h).1 hj;refine(hJ _ _).2 ⟨fun x hx hne=>?_,?_⟩
  ·unfold Ka;rw[if_neg or];exact q1 x hx hne
  unfold Ka;rw[if_neg or];exact q2
 have aA9:∀i h,J i h→h nx=some (.arr .leaf [.bool false])∧h B=some (.arr .leaf [.sl (.agg 4) oo ((iR C).map Cg.v)])∧h nx1=some (.arr .leaf [.int .i64 i])∧Kc nx h' h:=fun i h hj=>by
  obtain⟨q1,q2⟩:=(hJ i h).1 hj;exact⟨by rw[q1 _ or or];exact k1,by rw[q1 _ or or];exact k2,q2,fun x hx=>(q1 x or or).trans (hsH x hx)⟩
 have hcH:dQ H2 cb m P wv lv l c:=hc0.aBB hd hsH;have aGW:dQ (((Hp.none.set (nx1+2) (.arr .leaf [.ptr cb (.agg 4) 0 0])).set cb (.arr (.agg 4) [kJ P wv lv m])).set m (.mp (l.map CE.me) c)) cb m P wv lv l c:=by
  have:=hd _ _ hc0.cell;have:=hd _ _ hc0.mp;have hne:cb≠m:=fun e=>by have h1:=hc0.cell;have h2:=hc0.mp;rw[e,h2] at h1;cases h1
  exact⟨by simp[Ka,hne],by simp[Ka],hc.wf,hc.lf⟩
 have hcn:cb<nx∧m<nx:=⟨hd _ _ hc0.cell,hd _ _ hc0.mp⟩;have aWh:∀i h,J i h→Hp.has (((Hp.none.set (nx1+2) (.arr .leaf [.ptr cb (.agg 4) 0 0])).set cb (.arr (.agg 4) [kJ P wv lv m])).set m (.mp (l.map CE.me) c)) h:=fun i h hj q k e _=>by
  obtain⟨q1,_⟩:=(hJ i h).1 hj;simp only[Ka] at e;by_cases e1:q=m
  ·rw[if_pos e1] at e;rw[←e,e1,q1 _ or or];exact hcH.mp
  rw[if_neg e1] at e;by_cases e2:q=cb
  ·rw[if_pos e2] at e;rw[←e,e2,q1 _ or or];exact hcH.cell
  rw[if_neg e2] at e;by_cases e3:q=nx1+2
  ·rw[if_pos e3] at e;rw[←e,e3,q1 _ or or];exact k4
  rw[if_neg e3] at e;cases e
 have hAl:(jx C).length=(iR C).length:=by simp[jx]
 have hA1:(iR C).length≤10000:=Kp (Ks _ _) hCl
 refine sF (hit _ (by simp only[Ka];rw[if_neg or,if_neg or,if_pos trivial]) aGW) rfl (fun x hx=>by obtain⟨w,_,rfl⟩:=KB.1 hx;rfl) hdH (fun i h _=>J i h) (fun _ _ _=>False)
  (fun i h _ hI=>aWh i h hI) (fun i h n1 n2 hI _=>hI) (fun i h n1 b hI=>aAT i h b hI) (fun e h n1 n2 hE _=>hE) (fun e h n1 b hE=>hE)
  ((hJ 0 H2).2 ⟨fun _ _ _=>rfl,k3⟩) ?_ ?_ (fun e h n hE=>hE.elim)
 ·intro i hi h nx4 X hj aGD hX aWk;dsimp only at aGD hX;obtain⟨d1,d2,d3,_⟩:=aA9 i h hj;rw[hAl] at hi;have hx:(jx C)[i]'(by rw[hAl];exact hi)=[((iR C)[i]).s.v, .int .i64 ((iR C)[i]).d]:=by simp[jx]
  have hg:=qd (iR C) i hi;generalize (iR C)[i]=w at*;have a1:(nx3=nx4)=False:=fls;have a2:(nx3=nx4+1)=False:=fls;have hfw:=Sp.aAC w.s;simp only[aAr,hx,List.set_cons_succ,List.set_cons_zero];refine aue (e3 hfw a1 a2) ?_;refine sU (by simp only[a1,go_sem,reduceIte,jA,jB,jC,jD,reduceCtorEq,jE,jF];exact hX) fun X'=>?_;refine Zn ?_;have hc1:decide ((i:Int)≥((iR C).length:Int))=false:=dcf;have D1:∀h,aY Tryz.prog 24 [w.s.v] h w.s.v:=fun h=>oD w.s h;have hv:veq (.plain (.agg 3) [.int, .int, .int]) w.s.v (.agg [.int .i64 w.s.p, .int .i64 w.s.t.e, .int .i64 w.s.t.r])=some true:=by
   have:=yV w.s w.s;rw[decide_eq_true rfl] at this;exact this
  have hdd:(w.d != w.d)=false:=bnf;have hwi:IntKind.i64.wrap ((i:Int)+1)=((i+1:Nat):Int):=wrp;have b1:(B=nx3)=False:=fls;have b2:(nx1=nx3)=False:=fls;have b3:(nx4=nx3)=False:=fls;have b4:B<nx4:=or;have b5:nx1<nx4:=or;have b6:(B=nx4)=False:=fls;have b7:(nx1=nx4)=False:=fls;have b8:cK (.agg 3) 0 w.s.v=w.s.v:=rfl;refine aue (e14 d2 d3 hc1 hg hi hfw hv hdd hwi (@jK Cg V) jG b1 b2 (e7 b3 b4 b5 b6 b7 b8 a1)) ?_;have a3:(nx3=nx1)=False:=fls;refine oO (by simp only[Ka,a3,if_true,if_false]) ((hJ _ _).2 ⟨fun x hx hne=>?_,by simp only[Ka,if_true]⟩);have e1:(x=nx1)=False:=eq_false hne;have e2:(x=nx3)=False:=fls;have e3:(x=nx4)=False:=fls;simp only[Ka,e1,e2,e3,if_false];exact((hJ i h).1 hj).1 x hx hne
 intro h nx4 hj aGD aWk;dsimp only at aGD;rw[hAl] at hj;obtain⟨d1,d2,d3,d5⟩:=aA9 _ h hj;have b4:B<nx4:=or;have b5:nx1<nx4:=or;have b6:nx<nx4:=or;have hee:(((iR C).length:Int)==((iR C).length:Int))=true:=bqt;have b1:(B=nx3)=False:=fls;have b2:(nx1=nx3)=False:=fls;have b3:(nx=nx3)=False:=fls;refine aue (e8 d2 d3 b1 b2 b4 b5 hee (@jK Cg V)) ?_;refine aQ (zf (hc0.aBB (h2:=h.del nx3) hd fun x hx=>by unfold Kd;rw[if_neg or];exact d5 x hx)) rfl (aT _) ?_;refine Zn ?_;have hz:((C.length:Int)==0)=decide (l=[]):=by
  rw[←yg,hCC,Ky];cases C<;>simp<;>omega
 have hzz:(decide (l=[])==decide (l=[]))=true:=Zm;refine aue (e8 d1 hz hzz b3 b6 b4 b5 (@jK Cg V)) ?_;refine rZ (by simp only[go_sem,reduceIte,jA,jB,jC,jD,reduceCtorEq,jE,jF]) h' ((show Kc nx h' _ from kep d5).le hd (Kb _)) ⟨?_,rfl⟩;simp only[go_sem,reduceIte,jA,jB,jC,jD,reduceCtorEq,jE,jF]
end Go.Proofs.YtecepaehmojpgaaGreat
