/-
Texts of this proof,one behind the other. No conditions.
-/
import Derived.Test.YtecepaehmojpgaaGreatKo
import Derived.Test.YtecepaehmojpgaaGreatKh
import Derived.Test.YtecepaehmojpgaaGreatKd
import Derived.Test.YtecepaehmojpgaaGreatKn
import Derived.Test.YtecepaehmojpgaaGreatKr
open Go.Proofs.YtecepaehmojpgaaGreat.Hp renaming le_refl→Ka
open List renaming mem_cons_of_mem→Kb,replicate_succ→Kc,replicate_zero→Kd,length_cons→Kg,pairwise_cons→Kh,cons_append→Ki,length_nil→Kj,nil_append→Kk,findIdx?_cons→Km,getD_eq_getElem?_getD→Ko,getElem?_eq_getElem→Kp,length_map→Kq,mem_cons→Ks,mem_singleton→Kx,any_eq_false→KB,mem_append→KD,map_cons→KE,flatMap_cons→KF,getElem?_map→KG,pairwise_map→KI,map_append→KK,mem_map→KO,map_set→KQ,range→KU
open Nat renaming reduceAdd→Ke,reduceSub→Kf,reduceLeDiff→Ku,reduceEqDiff→Kv,reduceLT→Ky,lt_or_ge→KP,zero_le→KS,le_refl→KT
open Bool renaming and_eq_true→Kt,false_and→Kz,true_and→KC,not_false→KN
open Int renaming reduceToNat→Kw,toNat_natCast→KH,natCast_zero→KJ,natCast_add→KL,natCast_one→KM,le_refl→KR
set_option linter.unusedSimpArgs false
set_option linter.unusedVariables false
set_option linter.unusedSectionVars false
set_option maxHeartbeats 8000000
open Nat renaming reduceAdd→jA,reduceSub→jB,reduceLT→jC,reduceLeDiff→jD,reduceEqDiff→jE
open Int renaming reduceToNat→jF,toNat_natCast→jG,natCast_add→jH,natCast_one→jI,natCast_zero→jJ
open List renaming length_map→jK,length_cons→jL,length_nil→jM,replicate_succ→jN,replicate_zero→jO,cons_append→jP,nil_append→jQ
namespace Go.Proofs.YtecepaehmojpgaaGreat
open Go.RowKit Go.Sort
def Pa.act(p:Pa)(t:Tm):Tm:=⟨t.e,if p.n=true then p.a else p.a+t.r⟩
theorem Fl{p:Pa}{t:Tm}(h:(p.of t).2=0):(p.of t).1=p.act t:=by
 unfold Pa.of at h⊢;by_cases h1:(!p.ok|| !t.ok)=true
 ·rw[if_pos h1] at h;exact absurd h (by show¬((2:Int)=0);omega)
 rw[if_neg h1] at h⊢;by_cases h2:Tm.ok ⟨t.e,if p.n=true then p.a else p.a+t.r⟩=false
 ·rw[if_pos h2] at h;exact absurd h (by show¬((1:Int)=0);omega)
 rw[if_neg h2];rfl
def Rch(l:List We)(s u:Sp):Prop:=∃w,iS l s.p.toNat w u.p.toNat∧((En Pa.aAQ w).act s.t).le u.t=true
structure Nt where
 aAS:Sp
 made:List Sp
def Nt.at'(n:Nt)(s:Sp):Int:=(n.made.count s:Int)-(if n.aAS=s then 1 else 0)
def xC(l:List Nt)(s:Sp):Int:=(l.map fun n=>n.at' s).sum
structure mc(l:List We)(T V:Sp→Int)(aVO:List Nt):Prop where
 sum:∀s,T s=V s+xC aVO s
 pos:∀s,0≤T s
 lead:∀n∈aVO,0≤n.aAS.p∧∀m∈n.made,n.aAS≠m∧0≤m.p∧Rch l n.aAS m
def Nt.cs(n:Nt):List Cg:=(n.made.map fun s=>(⟨s,1⟩:Cg))++[⟨n.aAS,-1⟩]
theorem Nt.aCt(n:Nt):n.cs.length=n.made.length+1:=by simp[Nt.cs]
theorem m6(l:List Sp)(s:Sp):lI (l.map fun s=>(⟨s,1⟩:Cg)) s=(l.count s:Int):=by
 induction l with
 |nil=>rfl
 |cons x l ih=>
  have h1:lI ((x::l).map fun s=>(⟨s,1⟩:Cg)) s=(if x=s then 1 else 0)+lI (l.map fun s=>(⟨s,1⟩:Cg)) s:=rfl;rw[h1,ih,List.count_cons];by_cases e:x=s
  ·subst e;simp;omega
  have:(x==s)=false:=by simpa using e
  rw[if_neg e,this];simp
theorem AY(n:Nt)(s:Sp):lI n.cs s=n.at' s:=by
 have h1:lI [(⟨n.aAS,-1⟩:Cg)] s=if n.aAS=s then-1 else 0:=by
  show(if n.aAS=s then (-1:Int) else 0)+0=_;omega
 unfold Nt.cs Nt.at';rw[tx,m6,h1];split<;>omega
theorem sk(n:Nt)(s:Sp):-1≤n.at' s∧(n.aAS≠s→0≤n.at' s)∧n.at' s≤n.made.length:=by
 have:n.made.count s≤n.made.length:=List.count_le_length;unfold Nt.at';refine⟨?_,?_,?_⟩
 ·split<;>omega
 ·intro h;rw[if_neg h];omega
 split<;>omega
theorem fz{a b:List Nt}(h:a.Perm b)(s:Sp):xC a s=xC b s:=by
 induction h with
 |nil=>rfl
 |cons x _ ih=>exact congrArg (_+ ·) ih
 |swap x y l=>show y.at' s+(x.at' s+xC l s)=x.at' s+(y.at' s+xC l s);omega
 |trans _ _ h1 h2=>exact h1.trans h2
theorem vQ(n:Nt)(l:List Nt)(s:Sp):xC (n::l) s=n.at' s+xC l s:=rfl
def Gb(l:List We)(n:Nt):Prop:=0≤n.aAS.p∧∀m∈n.made,n.aAS≠m∧0≤m.p∧Rch l n.aAS m
theorem Bt{T T':Sp→Int}{n:Nt}(hT:∀s,0≤T s)(h1:1≤T n.aAS)(h:∀s,T' s=T s+n.at' s)(s:Sp):0≤T' s:=by
 rw[h];have:=hT s;obtain⟨q1,q2,_⟩:=sk n s;by_cases e:n.aAS=s
 ·subst e;omega
 have:=q2 e;omega
theorem mc.aV0{l:List We}{T T' V:Sp→Int}{p p':List Nt}(H:mc l T V p){n:Nt}(hf:Gb l n)(h1:1≤T n.aAS)(h:∀s,T' s=T s+n.at' s)(hp:p'.Perm (n::p)):mc l T' V p':=
 ⟨fun s=>by rw[h,fz hp,vQ,H.sum];omega,Bt H.pos h1 h,fun m hm=>by
   rcases Ks.1 (hp.mem_iff.1 hm) with rfl|hm
   ·exact hf
   exact H.lead m hm⟩
theorem mc.own{l:List We}{T T' V V':Sp→Int}{p:List Nt}(H:mc l T V p){n:Nt}(h1:1≤T n.aAS)(h:∀s,T' s=T s+n.at' s)(hv:∀s,V' s=V s+n.at' s):mc l T' V' p:=
 ⟨fun s=>by rw[h,hv,H.sum];omega,Bt H.pos h1 h,H.lead⟩
theorem mc.got{l:List We}{T V V':Sp→Int}{p p':List Nt}(H:mc l T V p){n:Nt}(hp:p.Perm (n::p'))(hv:∀s,V' s=V s+n.at' s):mc l T V' p':=
 ⟨fun s=>by rw[hv,H.sum,fz hp,vQ];omega,H.pos,fun m hm=>H.lead m (hp.mem_iff.2 (Kb n hm))⟩
def lG(N:Nat)(Q:Nat→Nat→List Nt)(j:Nat):List Nt:=(KU N).flatMap fun i=>Q i j
theorem xg{α:Type}{f g:Nat→List α}{a:α}:∀(l:List Nat) (i:Nat),l.Nodup→i∈l→(∀k,k≠i→f k=g k)→(f i).Perm (a::g i)→(l.flatMap f).Perm (a::l.flatMap g)
 | [],_,_,h,_,_=>by cases h
 |x::l,i,hn,hm,hk,hi=>by
  have hn':=List.nodup_cons.1 hn;rw[KF,KF];by_cases e:x=i
  ·subst e;have:l.flatMap f=l.flatMap g:=by
    simp only[List.flatMap];congr 1;exact List.map_congr_left fun y hy=>hk y fun e=>hn'.1 (e▸hy)
   rw[this];exact(hi.append_right _)
  rcases Ks.1 hm with rfl|hm
  ·exact absurd rfl e
  rw[hk x e];exact((xg l i hn'.2 hm hk hi).append_left _).trans List.perm_middle
theorem oe{N:Nat}{Q Q':Nat→Nat→List Nt}{i j:Nat}{n:Nt}(hi:i<N)(hk:∀k,k≠i→Q' k j=Q k j)(h:(Q' i j).Perm (n::Q i j)):(lG N Q' j).Perm (n::lG N Q j):=
 xg (KU N) i List.nodup_range (List.mem_range.2 hi) hk h
theorem fy{N:Nat}{Q Q':Nat→Nat→List Nt}{j:Nat}(h:∀k,Q' k j=Q k j):lG N Q' j=lG N Q j:=by
 unfold lG;congr 1;exact funext h
def sj(l:List Nt):Nat:=(l.map fun n=>n.made.length+1).sum
theorem qg{a b:List Nt}(h:a.Perm b):sj a=sj b:=by
 induction h with
 |nil=>rfl
 |cons x _ ih=>exact congrArg (_+ ·) ih
 |swap x y l=>show(y.made.length+1)+((x.made.length+1)+sj l)=(x.made.length+1)+((y.made.length+1)+sj l);omega
 |trans _ _ h1 h2=>exact h1.trans h2
theorem aa(n:Nt)(l:List Nt):sj (n::l)=(n.made.length+1)+sj l:=rfl
theorem Ab(l:List Nt)(s:Sp):-(sj l:Int)≤xC l s∧xC l s≤sj l:=by
 induction l with
 |nil=>exact⟨KR _,KR _⟩
 |cons n l ih=>
  obtain⟨q1,_,q3⟩:=sk n s;rw[vQ,aa];omega
theorem AO{P:Int}{l:List CE}{c K:Nat}{r:List Cg}(h:StC P l c K)(h1:r.any (dY P)=false)(h2:∀x∈r,cV x.d=false)(hr:r.length≤100000)(h3:∀s,cV (cZ l s+lI r s)=false):(aV P l c r).1=0:=by
 unfold aV;have h2':r.any (fun x=>cV x.d)=false:=by
  rw[KB];intro x hx;rw[h2 x hx];simp
 obtain⟨q1,q2,_⟩:=lQ r h.ok;have h4:(eN l c r).1.any (fun y=>cV y.n)=false:=by
  rw[KB];intro y hy;have:=gT q1.key hy;rw[q2 y.s,ao h2 hr (ir h.small y.s)] at this;rw[←this,h3];simp
 rw[h1,h2',h4];rfl
abbrev CS:=List CE×Nat
def dS{α:Type}(f:Nat→α)(i:Nat)(x:α):Nat→α:=fun j=>if j=i then x else f j
def qA(Q:Int→Int→List Nt)(i j:Int)(l:List Nt):Int→Int→List Nt:=fun a b=>if a=i∧b=j then l else Q a b
def eS(N:Nat)(Q:Int→Int→List Nt)(m:Int)(n:Nt):Int→Int→List Nt:=fun a b=>if a=m∧b≠m∧0≤b∧b<N then Q a b++[n] else Q a b
def qJ(Q:Int→Int→List Nt):Nat→Nat→List Nt:=fun a b=>Q a b
theorem ya(n:Nt):∀x∈n.cs,cV x.d=false:=by
 intro x hx;unfold Nt.cs at hx;rcases KD.1 hx with hx|hx
 ·obtain⟨s,_,rfl⟩:=KO.1 hx;exact(by decide:cV 1=false)
 rw[Kx.1 hx];exact(by decide:cV (-1)=false)
structure LI(l:List We)(P:Int)(N k:Nat)(S:Nat→CS)(Q:Int→Int→List Nt):Prop where
 st:∀i,StC P (S i).1 (S i).2 (10+7*k)
 rel:∀j,j<N→mc l (cZ (S 0).1) (cZ (S (j+1)).1) (lG N (qJ Q) j)
 up:∀s,cZ (S 0).1 s≤10+7*k
 bk:∀j,j<N→sj (lG N (qJ Q) j)≤7*k
 fit:∀i j,∀n∈Q i j,n.made.length≤6∧n.cs.any (dY P)=false
 len:∀i j,(Q i j).length≤k
section
variable{l:List We}{P:Int}{N k:Nat}{S:Nat→CS}{Q:Int→Int→List Nt}
theorem LI.more(H:LI l P N k S Q):LI l P N (k+1) S Q:=
 ⟨fun i=>(H.st i).up or,H.rel,fun s=>by have:=H.up s;omega,fun j hj=>by have:=H.bk j hj;omega,H.fit,fun i j=>by have:=H.len i j;omega⟩
theorem LI.small(H:LI l P N k S Q){j:Nat}(hj:j<N)(s:Sp):-(7*k:Int)≤cZ (S (j+1)).1 s∧cZ (S (j+1)).1 s≤10+14*k:=by
 have h1:=(H.rel j hj).sum s;have h2:=(H.rel j hj).pos s;have h3:=H.up s;have h4:=Ab (lG N (qJ Q) j) s;have h5:=H.bk j hj;omega
theorem jw{c K:Nat}{m:List CE}(h:StC P m c K){n:Nt}(hm:n.made.length≤6)(hs:n.cs.any (dY P)=false)(h3:∀s,-100000≤cZ m s∧cZ m s≤100000):(aV P m c n.cs).1=0∧(∀s,cZ (aV P m c n.cs).2.1 s=cZ m s+n.at' s)∧StC P (aV P m c n.cs).2.1 (aV P m c n.cs).2.2 (K+7):=by
 have hl:n.cs.length≤7:=by rw[Nt.aCt];omega
 have h0:(aV P m c n.cs).1=0:=AO h hs (ya n) or fun s=>by
  rw[AY,pD];have:=sk n s;have:=h3 s;omega
 exact⟨h0,fun s=>by rw[qj h h0 or,AY],(h.add n.cs).up or⟩
theorem A8{Q:Int→Int→List Nt}{i j:Nat}(hi:i<N){n:Nt}{r:List Nt}(h:Q i j=n::r):(lG N (qJ Q) j).Perm (n::lG N (qJ (qA Q i j r)) j):=
 oe hi (fun k hk=>by unfold qJ qA;rw[if_neg];rintro⟨e,_⟩;exact hk or) (by unfold qJ qA;rw[if_pos ⟨rfl,rfl⟩,h])
theorem ve{Q:Int→Int→List Nt}{i j j':Nat}(hj:j'≠j)(r:List Nt):lG N (qJ (qA Q i j r)) j'=lG N (qJ Q) j':=
 fy fun k=>by unfold qJ qA;rw[if_neg];rintro⟨_,e⟩;exact hj or
theorem LI.aDP(H:LI l P N k S Q)(hk:k≤1000){i j:Nat}(hi:i<N)(hj:j<N){n:Nt}{r:List Nt}(h:Q i j=n::r):
 (aV P (S (j+1)).1 (S (j+1)).2 n.cs).1=0∧LI l P N (k+1) (dS S (j+1) (aV P (S (j+1)).1 (S (j+1)).2 n.cs).2) (qA Q i j r):=by
 obtain⟨f1,f2⟩:=H.fit i j n (by rw[h];simp);obtain⟨a1,a2,a3⟩:=jw (H.st (j+1)) f1 f2 fun s=>by have:=H.small hj s;omega
 refine⟨a1,⟨fun i'=>?_,fun j' hj'=>?_,fun s=>?_,fun j' hj'=>?_,fun a b m hm=>?_,fun a b=>?_⟩⟩
 ·unfold dS;split
  ·exact a3.up or
  exact(H.st i').up or
 ·have e0:dS S (j+1) (aV P (S (j+1)).1 (S (j+1)).2 n.cs).2 0=S 0:=if_neg or;rw[e0];by_cases e:j'=j
  ·subst e;have e1:dS S (j'+1) (aV P (S (j'+1)).1 (S (j'+1)).2 n.cs).2 (j'+1)=(aV P (S (j'+1)).1 (S (j'+1)).2 n.cs).2:=if_pos rfl;rw[e1];exact(H.rel j' hj').got (A8 hi h) a2
  have e1:dS S (j+1) (aV P (S (j+1)).1 (S (j+1)).2 n.cs).2 (j'+1)=S (j'+1):=if_neg or;rw[e1,ve e];exact H.rel j' hj'
 ·have e0:dS S (j+1) (aV P (S (j+1)).1 (S (j+1)).2 n.cs).2 0=S 0:=if_neg or;rw[e0];have:=H.up s;omega
 ·have h1:=H.bk j' hj';by_cases e:j'=j
  ·subst e;have:=qg (A8 hi h);rw[aa] at this;omega
  rw[ve e];omega
 ·unfold qA at hm;split at hm
  ·exact H.fit i j m (by rw[h];exact Kb n hm)
  exact H.fit a b m hm
 unfold qA;split
 ·have:=H.len i j;rw[h,Kg] at this;omega
 have:=H.len a b;omega
theorem AZ{Q:Int→Int→List Nt}{m j:Nat}(hm:m<N)(hj:j<N)(he:j≠m)(n:Nt):(lG N (qJ (eS N Q m n)) j).Perm (n::lG N (qJ Q) j):=
 oe hm (fun k hk=>by unfold qJ eS;rw[if_neg];rintro⟨e,_⟩;exact hk or) (by
  unfold qJ eS;rw[if_pos ⟨rfl,or,or,or⟩];exact List.perm_append_comm)
theorem ud{Q:Int→Int→List Nt}{m:Nat}(n:Nt):lG N (qJ (eS N Q m n)) m=lG N (qJ Q) m:=
 fy fun k=>by unfold qJ eS;rw[if_neg];rintro⟨_,e,_⟩;exact e rfl
theorem LI.aVJ(H:LI l P N k S Q)(hk:k≤1000){m:Nat}(hm:m<N){n:Nt}(hl:n.made.length≤6)(h1:1≤cZ (S 0).1 n.aAS)(hf:∀u∈n.made,n.aAS≠u∧0≤u.p∧u.p<P∧u.t.ok=true∧Rch l n.aAS u):
 (aV P (S 0).1 (S 0).2 n.cs).1=0∧(aV P (S (m+1)).1 (S (m+1)).2 n.cs).1=0∧
   LI l P N (k+1) (dS (dS S 0 (aV P (S 0).1 (S 0).2 n.cs).2) (m+1) (aV P (S (m+1)).1 (S (m+1)).2 n.cs).2) (eS N Q m n):=by
 obtain⟨y,hy,hys⟩:=rq (l:=(S 0).1) (s:=n.aAS) or;have hyr:=(H.st 0).right y hy;rw[hys] at hyr;have aNr:∀s:Sp,∀d:Int,0≤s.p→s.p<P→s.t.ok=true→dY P ⟨s,d⟩=false:=fun s d a1 a2 a3=>by
  unfold dY;dsimp only;rw[a3,decide_eq_false (show¬s.p<0 by omega),decide_eq_false (show¬s.p≥P by omega)];rfl
 have hs:n.cs.any (dY P)=false:=by
  rw[KB];intro x hx;unfold Nt.cs at hx;rcases KD.1 hx with hx|hx
  ·obtain⟨u,hu,rfl⟩:=KO.1 hx;obtain⟨_,q1,q2,q3,_⟩:=hf u hu;rw[aNr u 1 q1 q2 q3];simp
  rw[Kx.1 hx,aNr n.aAS _ hyr.1 hyr.2.1 hyr.2.2];simp
 have aA0:∀s,0≤cZ (S 0).1 s:=fun s=>(H.rel m hm).pos s;obtain⟨a1,a2,a3⟩:=jw (H.st 0) hl hs fun s=>by have:=aA0 s;have:=H.up s;omega
 obtain⟨b1,b2,b3⟩:=jw (H.st (m+1)) hl hs fun s=>by have:=H.small hm s;omega
 have aAG:Gb l n:=⟨hyr.1,fun u hu=>⟨(hf u hu).1,(hf u hu).2.1,(hf u hu).2.2.2.2⟩⟩;generalize hT:(aV P (S 0).1 (S 0).2 n.cs).2=T2 at*;generalize hV:(aV P (S (m+1)).1 (S (m+1)).2 n.cs).2=V2 at*;have e0:dS (dS S 0 T2) (m+1) V2 0=T2:=(if_neg or).trans (if_pos rfl);have em:dS (dS S 0 T2) (m+1) V2 (m+1)=V2:=if_pos rfl;have eo:∀j,j≠0→j≠m+1→dS (dS S 0 T2) (m+1) V2 j=S j:=fun j h1 h2=>(if_neg h2).trans (if_neg h1);refine⟨a1,b1,⟨fun i'=>?_,fun j' hj'=>?_,fun s=>?_,fun j' hj'=>?_,fun a b x hx=>?_,fun a b=>?_⟩⟩
 ·by_cases h0:i'=0
  ·subst h0;rw[e0];exact a3.up or
  by_cases h2:i'=m+1
  ·subst h2;rw[em];exact b3.up or
  rw[eo i' h0 h2];exact(H.st i').up or
 ·rw[e0];by_cases e:j'=m
  ·subst e;rw[em,ud];exact(H.rel j' hj').own h1 a2 b2
  rw[eo (j'+1) or or];exact(H.rel j' hj').aV0 aAG h1 a2 (AZ hm hj' e n)
 ·rw[e0,a2];have:=H.up s;have:=sk n s;omega
 ·have h2:=H.bk j' hj';by_cases e:j'=m
  ·subst e;rw[ud];omega
  rw[qg (AZ hm hj' e n),aa];omega
 ·unfold eS at hx;split at hx
  ·rcases KD.1 hx with hx|hx
   ·exact H.fit a b x hx
   rw[Kx.1 hx];exact⟨hl,hs⟩
  exact H.fit a b x hx
 have:=H.len a b;unfold eS;split
 ·rw[List.length_append,List.length_singleton];omega
 omega
end
end Go.Proofs.YtecepaehmojpgaaGreat
namespace Go.Proofs.YtecepaehmojpgaaGreat
open Go.RowKit
attribute [local irreducible] IntKind.wrap
def byB(s u:Sp)(p:Pa):Bool:=decide ((p.of s.t).2=0)&&(p.of s.t).1.le u.t
def sS(l:List Pa)(s u:Sp):Bool:= !decide (s=u)&&u.t.ok&&l.any (byB s u)
theorem ET(p:Pa)(s u:Sp){h:Hp}{a b:Nat}(ha:h a=some (.arr (.agg 3) [s.v]))(hb:h b=some (.arr (.agg 3) [u.v])):
 aY Tryz.prog 82 [p.v, .ptr a (.agg 3) 0 0, .ptr b (.agg 3) 0 0] h (.bool (byB s u p)):=by
 refine aR (fun L=>trivial) fun h' nx hh=>aF L.aXo fun hd=>?_;simp only[Kg,Kj,Ke,Kf,Kc,Kd,Ki,Kk,V.undef];have c1:h' a=some (.arr (.agg 3) [.agg [.int .i64 s.p, .int .i64 s.t.e, .int .i64 s.t.r]]):=hh _ _ ha rfl;have c2:h' b=some (.arr (.agg 3) [.agg [.int .i64 u.p, .int .i64 u.t.e, .int .i64 u.t.r]]):=hh _ _ hb rfl;have n1:a<nx:=hd _ _ c1;have n2:b<nx:=hd _ _ c2;have C1:∀h,aY Tryz.prog 83 [.agg [.bool p.n, .int .i64 p.a], .agg [.int .i64 s.t.e, .int .i64 s.t.r]] h (.tup [.agg [.int .i64 (p.of s.t).1.e, .int .i64 (p.of s.t).1.r],fC (p.of s.t).2]):=fun h=>aw p s.t h;have C2:∀h,aY Tryz.prog 84 [.agg [.int .i64 (p.of s.t).1.e, .int .i64 (p.of s.t).1.r], .agg [.int .i64 u.t.e, .int .i64 u.t.r]] h (.bool ((p.of s.t).1.le u.t)):=fun h=>b9 _ _ h;have e1:(a=nx)=False:=eq_false or;have e2:(b=nx)=False:=eq_false or;have e3:(a=nx+1)=False:=eq_false or;have e4:(b=nx+1)=False:=eq_false or;have hv:=iL (p.of s.t).2;unfold byB;cases hz:decide ((p.of s.t).2=0) with
 |true=>
  rw[hz] at hv;refine aue (i5 Pa.v.eq_1 c1 c2 n1 n2 hv e1 e2 e3 e4 KC) ?_;exact aG h' (by repeat (first|exact Ka _|refine aJ hd ?_ or _|refine aL hd ?_ or)) ⟨rfl,rfl⟩
 |false=>
  rw[hz] at hv;refine aue (i5 Pa.v.eq_1 c1 c2 n1 n2 hv e1 e2 e3 e4 Kz) ?_;exact aG h' (by repeat (first|exact Ka _|refine aJ hd ?_ or _|refine aL hd ?_ or)) ⟨rfl,rfl⟩
theorem AH(o:Own)(l:List Pa)(hl:l.length≤1000)(s u:Sp)(h:Hp):
 aY Tryz.prog 51 [.sl (.agg 2) o (l.map Pa.v),s.v,u.v] h (.bool (sS l s u)):=by
 refine aR (fun L=>trivial) fun h' nx hh=>aF L.aYY fun hd=>?_;simp only[Kg,Kj,Ke,Kf,Kc,Kd,Ki,Kk,V.undef];have hcf:aY Tryz.prog 85 [.sl (.agg 2) o (l.map Pa.v), .fn (.func 82) [] [.ptr nx (.agg 3) 0 0, .ptr (nx+1) (.agg 3) 0 0]] ((h'.set nx (.arr (.agg 3) [s.v])).set (nx+1) (.arr (.agg 3) [u.v])) (.bool (l.any (byB s u))):=
  eB Pa.v Pa.aAC fU eP (byB s u) o l _ [.ptr nx (.agg 3) 0 0, .ptr (nx+1) (.agg 3) 0 0] _ (fun x _=>ET x s u (by simp[Hp.set]) (by simp[Hp.set])) or
 have C1:∀h,aY Tryz.prog 66 [.agg [.int .i64 u.t.e, .int .i64 u.t.r]] h (.bool u.t.ok):=fun h=>qD u.t h;have hv:veq (.plain (.agg 3) [.int, .int, .int]) (.agg [.int .i64 s.p, .int .i64 s.t.e, .int .i64 s.t.r]) (.agg [.int .i64 u.p, .int .i64 u.t.e, .int .i64 u.t.r])=some (decide (s=u)):=yV s u;unfold sS;cases hz:decide (s=u) with
 |true=>
  rw[hz] at hv;refine aue (ee4 Sp.v.eq_1 hv Bool.not_true Kz) ?_;exact aG h' (by repeat (first|exact Ka _|refine aJ hd ?_ or _|refine aL hd ?_ or)) ⟨rfl,rfl⟩
 |false=>
  rw[hz] at hv;cases hr:u.t.ok with
  |false=>
   rw[hr] at C1;refine aue (ee5 Sp.v.eq_1 hv KN KC Kz) ?_;exact aG h' (by repeat (first|exact Ka _|refine aJ hd ?_ or _|refine aL hd ?_ or)) ⟨rfl,rfl⟩
  |true=>
   rw[hr] at C1;have C5:=hcf;refine aue (ee4 Sp.v.eq_1 hv KN KC) ?_;exact aG h' (by repeat (first|exact Ka _|refine aJ hd ?_ or _|refine aL hd ?_ or)) ⟨rfl,rfl⟩
theorem Cu{l:List We}{s u:Sp}(h:sS (cQ l s.p.toNat u.p.toNat) s u=true):s≠u∧u.t.ok=true∧Rch l s u:=by
 unfold sS at h;rw[Kt,Kt,Bool.not_eq_true',decide_eq_false_iff_not] at h;obtain⟨⟨h1,h2⟩,h3⟩:=h;obtain⟨p,hp,hb⟩:=List.any_eq_true.1 h3;unfold byB at hb;rw[Kt,decide_eq_true_eq] at hb;obtain⟨v,v1,v2⟩:=(bh l _ _).val p hp;refine⟨h1,h2,v,v1,?_⟩;rw[ui _ v2,←Fl hb.1];exact hb.2
end Go.Proofs.YtecepaehmojpgaaGreat
namespace Go.Proofs.YtecepaehmojpgaaGreat
open Go.RowKit
attribute [local irreducible] IntKind.wrap
def bX(l:List Sp)(d:Int):List Cg:=l.map fun s=>⟨s,d⟩
set_option maxRecDepth 100000 in
set_option maxHeartbeats 4000000 in
theorem rC(o:Own)(l:List Sp)(d:Int)(hl:l.length≤100000)(h':Hp)(nx:Nat):
 bD Tryz.prog 37 [.sl (.agg 3) o (l.map Sp.v), .int .i64 d] h' nx fun v h'' _=>aj nx h' (.agg 4) ((bX l d).map Cg.v) v h'':=by
 refine aF L.aYr fun hd=>?_;simp only[jL,jM,jA,jB,jN,jO,jP,jQ,V.undef];refine aue (@jK Sp V) ?_
 refine aO (fun q:Nat×Own=>aB 22 0 [(1, .int .i64 d),(5,cgs q.2 ((bX l d).take q.1)),(8, .sl (.agg 3) o (l.map Sp.v)),(9, .int .i64 l.length),(10, .int .i64 q.1)])
  (fun q hp nx1=>q.1≤l.length∧nx≤nx1∧aI hp nx1∧Hp.same nx h' hp∧Acc hp nx q.2 (((bX l d).take q.1).map Cg.v))
  (fun q=>l.length-q.1) (0, .nil) ⟨KS _,KT _,hd,Hp.same.aBG,Acc.nil⟩ (by simp only[WkL,aB,jH,jI,jJ,cgs,List.take_zero,List.map_nil,go_sem,reduceIte,jA,jB,jC,jD,reduceCtorEq,jE,jF]) ?_
 rintro⟨i,oo⟩ hp nx1 ⟨hi,hnx,hdm,hsm,aAU⟩;generalize hQ:bH _ _ _ _ _=Q0;dsimp only at hi aAU;simp only[aB,cgs,go_sem,reduceIte,jA,jB,jC,jD,reduceCtorEq,jE,jF];have hnl:(bX l d).length=l.length:=by simp[bX]
 rcases KP i l.length with hlt|hge
 ·have hc1:decide ((i:Int)<(l.length:Int))=true:=dct;have hw1:IntKind.i64.wrap ((i:Int)+1)=((i+1:Nat):Int):=wrp;have hg:(l.map Sp.v).getD i (.tup [])= .agg [.int .i64 l[i].p, .int .i64 l[i].t.e, .int .i64 l[i].t.r]:=bY Sp.v _ l i hlt;have htk:((bX l d).take (i+1)).map Cg.v=((bX l d).take i).map Cg.v++[.agg [.int .i64 l[i].p, .int .i64 l[i].t.e, .int .i64 l[i].t.r, .int .i64 d]]:=by
   rw[List.take_succ_eq_append_getElem or,KK];simp[bX,Cg.v]
  have hlen:(((bX l d).take i).map Cg.v).length=i:=by simp[hnl];omega
  refine aue (e8 hc1 hw1 hg hlt hlen (@jK Sp V) jG htk) ?_;rw[←hQ];refine aD (i+1, .tok (nx1+3)) Zw ⟨hlt,ZN,dmo hdm,kv hsm aAU,?_⟩ (by simp only[WkL,aB,jH,jI,jJ,cgs,htk,go_sem,reduceIte,jA,jB,jC,jD,reduceCtorEq,jE,jF]);dsimp only;rw[htk];exact Acc.new _ Zm or
 have hc1:decide ((i:Int)<(l.length:Int))=false:=dcf;refine aue hc1 ?_;rw[←hQ];refine au ?_;have htl:(bX l d).take i=bX l d:=List.take_of_length_le or;rw[htl] at aAU;simp only[htl];rcases aAU with⟨he,rfl⟩|⟨hne,id,hid,rfl,ht⟩
 ·refine aG h' (hsm.le hd (Ka _)) (.inl ⟨he,?_,rfl⟩);refine Zn ?_;rw[he]
 refine aG (h'.set id .tip) ?_ (.inr ⟨hne,id,hid,?_,rfl⟩)
 ·intro m b hb;simp only[Hp.set] at hb;split at hb
  ·rename_i e;rw[e];show hp id=some b;rw[ht];exact hb
  exact(hsm.le hd (Ka _)) m b hb
 simp only[go_sem,reduceIte,jA,jB,jC,jD,reduceCtorEq,jE,jF]
theorem l5(o:Own)(l:List Sp)(d:Int)(hl:l.length≤100000)(hne:l≠ [])(h:Hp):sY Tryz.prog 37 [.sl (.agg 3) o (l.map Sp.v), .int .i64 d] h (.agg 4) ((bX l d).map Cg.v):=by
 refine xe (fun L=>bG (Cg.aAN L) _) fun h' nx hh=>(rC o l d hl h' nx).mono ?_;rintro v h2 n2 _ (⟨he,_⟩|⟨_,id,h1,h2,h3⟩)
 ·simp[bX] at he;exact absurd he hne
 exact⟨id,h1,h2,h3⟩
end Go.Proofs.YtecepaehmojpgaaGreat
namespace Go.Proofs.YtecepaehmojpgaaGreat
open Go.RowKit
attribute [local irreducible] IntKind.wrap
structure QE where
 i:Int
 j:Int
 o:Own
 l:List (Own×Nt)
 b:Nat
 deriving Inhabited
def bc(x:Own×Nt):V:= .sl (.agg 4) x.1 (x.2.cs.map Cg.v)
def qV(o:Own)(l:List (Own×Nt)):V:= .sl .leaf o (l.map bc)
def xD(i j:Int):V:= .agg [.int .i64 i, .int .i64 j]
def QE.me(x:QE):ME:=⟨xD x.i x.j,qV x.o x.l,x.b⟩
def eZ(q:List QE)(i j:Int):Option Nat:=q.findIdx? fun x=>decide (x.i=i)&&decide (x.j=j)
def ux(q:List QE)(i j:Int):V:=match eZ q i j with
 |some k=>qV (q.getD k default).o (q.getD k default).l
 |none=> .sl .leaf .nil []
def dL(q:List QE)(i j:Int):List (Own×Nt):=match eZ q i j with
 |some k=>(q.getD k default).l
 |none=>[]
theorem CO(a b c d:Int):veq (.plain (.agg 2) [.int, .int]) (xD a b) (xD c d)=some (decide (a=c)&&decide (b=d)):=by
 have h:veq (.plain (.agg 2) [.int, .int]) (xD a b) (xD c d)=some ((a==c)&&(b==d)):=rfl;rw[h];congr 1
theorem tJ(i j:Int):∀q:List QE,fA (.plain (.agg 2) [.int, .int]) (xD i j) (q.map QE.me)=some (eZ q i j)
 | []=>rfl
 |x::q=>by
  rw[KE,fA,eZ,Km];simp only[QE.me,CO];have ih:=tJ i j q;unfold eZ at ih;by_cases h1:i=x.i
  ·by_cases h2:j=x.j
   ·subst h1;subst h2;simp
   have h2':¬x.j=j:=fun e=>h2 e.symm;rw[h1] at ih;simp[h1,h2,h2',ih]
  have h1':¬x.i=i:=fun e=>h1 e.symm;simp[h1,h1',ih]
theorem rh(q:List QE)(i j:Int):rK false (.sl .leaf .nil []) (q.map QE.me) (eZ q i j)=ux q i j:=by
 unfold ux rK;cases h:eZ q i j with
 |none=>rfl
 |some k=>
  have hk:k<q.length:=by
   unfold eZ at h;obtain⟨hk,_⟩:=dh h;exact hk
  simp only[Bool.false_eq_true,if_false];have e1:(q.map QE.me).getD k default=QE.me q[k]:=by rw[Ko,KG,Kp hk];rfl
  have e2:q.getD k default=q[k]:=by rw[Ko,Kp hk];rfl
  rw[e1,e2];rfl
theorem A1(q:List QE)(i j:Int):∃o,ux q i j=qV o (dL q i j):=by
 unfold ux dL;cases eZ q i j with
 |none=>exact⟨.nil,rfl⟩
 |some k=>exact⟨_,rfl⟩
structure fZ(h:Hp)(wb tb nb:Nat)(lv:V)(vo:Own)(vs:List Nat)(q:List QE)(c:Nat):Prop where
 cell:h wb=some (.arr (.agg 4) [.agg [lv, .ptr tb (.agg 4) 0 0, .sl .leaf vo (vs.map fun v=> .ptr v (.agg 4) 0 0), .map nb]])
 mp:h nb=some (.mp (q.map QE.me) c)
theorem kN{h:Hp}{wb tb nb:Nat}{lv:V}{vo:Own}{vs:List Nat}{q:List QE}{c:Nat}(w:fZ h wb tb nb lv vo vs q c)(i:Int):
 aY Tryz.prog 40 [.ptr wb (.agg 4) 0 0, .int .i64 i] h (.bool (decide (0≤i)&&decide (i<vs.length))):=by
 refine aR (fun L=>trivial) fun h' nx hh=>aF L.aYh fun hd=>?_;simp only[Kg,Kj,Ke,Kf,Kc,Kd,Ki,Kk,V.undef];have c1:=hh _ _ w.cell rfl;have n1:wb<nx:=hd _ _ c1;by_cases h1:0≤i
 ·have h2:decide (i≥0)=true:=dct;have h3:decide (0≤i)=true:=dct;refine aue (ee6 c1 n1 h2 (@Kq Nat V) h3 KC) ?_;exact aG h' (by repeat (first|exact Ka _|refine aJ hd ?_ or _|refine aL hd ?_ or)) ⟨rfl,rfl⟩
 have h2:decide (i≥0)=false:=dcf;have h3:decide (0≤i)=false:=dcf;refine aue (ee5 c1 n1 h2 h3 Kz) ?_;exact aG h' (by repeat (first|exact Ka _|refine aJ hd ?_ or _|refine aL hd ?_ or)) ⟨rfl,rfl⟩
theorem qo{h:Hp}{wb tb nb:Nat}{lv:V}{vo:Own}{vs:List Nat}{q:List QE}{c:Nat}(w:fZ h wb tb nb lv vo vs q c)(i j:Int):
 aY Tryz.prog 26 [.ptr wb (.agg 4) 0 0, .int .i64 i, .int .i64 j] h (.int .i64 (dL q i j).length):=by
 refine aR (fun L=>trivial) fun h' nx hh=>aF L.aYz fun hd=>?_;simp only[Kg,Kj,Ke,Kf,Kc,Kd,Ki,Kk,V.undef];have c1:=hh _ _ w.cell rfl;have c2:=hh _ _ w.mp rfl;have n1:wb<nx:=hd _ _ c1;have n2:nb<nx:=hd _ _ c2;have hf:fA (.plain (.agg 2) [.int, .int]) (.agg [.int .i64 i, .int .i64 j]) (q.map QE.me)=some (eZ q i j):=tJ i j q;have hg:=rh q i j;obtain⟨o,ho⟩:=A1 q i j;rw[ho] at hg;unfold qV at hg;refine aue (ee7 c1 c2 n1 n2 hf hg (@Kq (Own×Nt) V)) ?_;exact aG h' (by repeat (first|exact Ka _|refine aJ hd ?_ or _|refine aL hd ?_ or)) ⟨rfl,rfl⟩
theorem wR{h:Hp}{wb tb nb:Nat}{lv:V}{vo:Own}{vs:List Nat}{q:List QE}{c:Nat}(w:fZ h wb tb nb lv vo vs q c):
 aY Tryz.prog 17 [.ptr wb (.agg 4) 0 0] h (.bool (decide (q=[]))):=by
 refine aR (fun L=>trivial) fun h' nx hh=>aF L.aY6 fun hd=>?_;simp only[Kg,Kj,Ke,Kf,Kc,Kd,Ki,Kk,V.undef];have c1:=hh _ _ w.cell rfl;have c2:=hh _ _ w.mp rfl;have hz:(((q.length:Nat):Int)==0)=decide (q=[]):=by
  rw[Bool.eq_iff_iff];cases q<;>simp;omega
 refine aue (ee4 c1 c2 hz (@Kq QE ME)) ?_;exact aG h' (by repeat (first|exact Ka _|refine aJ hd ?_ or _|refine aL hd ?_ or)) ⟨rfl,rfl⟩
theorem rj{h:Hp}{wb tb nb:Nat}{lv:V}{vo:Own}{vs:List Nat}{q:List QE}{c:Nat}(w:fZ h wb tb nb lv vo vs q c):
 aY Tryz.prog 18 [.ptr wb (.agg 4) 0 0] h (.int .i64 vs.length):=by
 refine aR (fun L=>trivial) fun h' nx hh=>aF L.aY5 fun hd=>?_;simp only[Kg,Kj,Ke,Kf,Kc,Kd,Ki,Kk,V.undef];have c1:=hh _ _ w.cell rfl;refine aue (ee2 c1 (@Kq Nat V)) ?_;exact aG h' (by repeat (first|exact Ka _|refine aJ hd ?_ or _|refine aL hd ?_ or)) ⟨rfl,rfl⟩
set_option maxRecDepth 100000 in
set_option maxHeartbeats 4000000 in
theorem Cb{h:Hp}{wb tb nb:Nat}{lv:V}{vo:Own}{vs:List Nat}{q:List QE}{c:Nat}(w:fZ h wb tb nb lv vo vs q c)(i:Int)(hv:vs.length≤100)(hq:∀j,(dL q i j).length<1000):
 aY Tryz.prog 45 [.ptr wb (.agg 4) 0 0, .int .i64 i] h (.bool false):=by
 refine aR (fun L=>trivial) fun h' nx hh=>aF L.aYd fun hd=>?_;simp only[Kg,Kj,Ke,Kf,Kc,Kd,Ki,Kk,V.undef];have c1:=hh _ _ w.cell rfl;have c2:=hh _ _ w.mp rfl;have n1:wb<nx:=hd _ _ c1;have n2:nb<nx:=hd _ _ c2;refine aue (ee2 c1 (@Kq Nat V)) ?_
 refine aO (fun k:Nat=>aB 25 0 [(0, .ptr wb (.agg 4) 0 0),(1, .int .i64 i),(10, .int .i64 vs.length),(11, .int .i64 k)])
  (fun k hp nx1=>k≤vs.length∧nx≤nx1∧aI hp nx1∧Hp.same nx h' hp)
  (fun k=>vs.length-k) 0 ⟨KS _,KT _,hd,Hp.same.aBG⟩ (by simp only[WkL,aB,KL,KM,KJ,KH,go_sem,reduceIte,Ke,Kf,Ky,Ku,reduceCtorEq,Kv,Kw]) ?_
 rintro k hp nx1 ⟨hk,hnx,hdm,hsm⟩;generalize hQ:bH _ _ _ _ _=Q0;simp only[aB,go_sem,reduceIte,Ke,Kf,Ky,Ku,reduceCtorEq,Kv,Kw];have m1:hp wb=some (.arr (.agg 4) [.agg [lv, .ptr tb (.agg 4) 0 0, .sl .leaf vo (vs.map fun v=> .ptr v (.agg 4) 0 0), .map nb]]):=(hsm wb n1).trans c1;have m2:hp nb=some (.mp (q.map QE.me) c):=(hsm nb n2).trans c2;have k1:wb<nx1:=or;have k2:nb<nx1:=or;rcases KP k vs.length with hlt|hge
 ·have hc1:decide ((k:Int)<(vs.length:Int))=true:=dct;have hw1:IntKind.i64.wrap ((k:Int)+1)=((k+1:Nat):Int):=wrp;have hf:fA (.plain (.agg 2) [.int, .int]) (.agg [.int .i64 i, .int .i64 (k:Int)]) (q.map QE.me)=some (eZ q i k):=tJ i k q;have hg:=rh q i k;obtain⟨o,ho⟩:=A1 q i k;rw[ho] at hg;unfold qV at hg;have hl:=hq k;have hc2:decide (((dL q i k).length:Int)≥1000)=false:=dcf;refine aue (xp hc1 hw1 m1 m2 k1 k2 hf hg hc2 (@Kq (Own×Nt) V)) ?_;rw[←hQ];exact aD (k+1) or ⟨hlt,ZN,dmo hdm,kep hsm⟩ (by simp only[WkL,aB,KL,KM,KJ,KH,go_sem,reduceIte,Ke,Kf,Ky,Ku,reduceCtorEq,Kv,Kw])
 have hc1:decide ((k:Int)<(vs.length:Int))=false:=dcf;refine aue hc1 ?_;rw[←hQ];refine au ?_;exact aG h' (hsm.le hd (Ka _)) ⟨rfl,rfl⟩
set_option maxRecDepth 100000 in
set_option maxHeartbeats 4000000 in
theorem Ag{h:Hp}{wb tb nb:Nat}{ot:Own}{rows:List V}{vo:Own}{vs:List Nat}{q:List QE}{c:Nat}(w:fZ h wb tb nb (.sl .leaf ot rows) vo vs q c)(T:Nat→Nat→List Pa)(n:Nat)(hT:CJ T n rows)(hlen:∀a b,(T a b).length≤1000)(s u:Sp):
 aY Tryz.prog 42 [.ptr wb (.agg 4) 0 0,s.v,u.v] h (.bool (decide (0≤u.p∧u.p<n∧0≤s.p∧s.p<n)&&sS (T s.p.toNat u.p.toNat) s u)):=by
 refine aR (fun L=>trivial) fun h' nx hh=>aF L.aYf fun hd=>?_;simp only[Kg,Kj,Ke,Kf,Kc,Kd,Ki,Kk,V.undef];have c1:=hh _ _ w.cell rfl;have n1:wb<nx:=hd _ _ c1;have e1:(wb=nx)=False:=eq_false or;have e2:(wb=nx+1)=False:=eq_false or;obtain⟨hrl,aH8⟩:=hT;by_cases h1:u.p<0
 ·have g1:decide (u.p<0)=true:=dct;have g2:decide (0≤u.p∧u.p<n∧0≤s.p∧s.p<n)=false:=decide_eq_false or;refine aue (ee7 Sp.v.eq_1 c1 n1 e1 e2 g1 g2) ?_;exact aG h' (by repeat (first|exact Ka _|refine aJ hd ?_ or _|refine aL hd ?_ or)) ⟨rfl,rfl⟩
 have g1:decide (u.p<0)=false:=dcf;by_cases h2:u.p≥n
 ·have g2:decide (u.p≥(rows.length:Int))=true:=by rw[hrl];exact dct
  have g3:decide (0≤u.p∧u.p<n∧0≤s.p∧s.p<n)=false:=decide_eq_false or;refine aue (ee8 Sp.v.eq_1 c1 n1 e1 e2 g1 g2 g3) ?_;exact aG h' (by repeat (first|exact Ka _|refine aJ hd ?_ or _|refine aL hd ?_ or)) ⟨rfl,rfl⟩
 have g2:decide (u.p≥(rows.length:Int))=false:=by rw[hrl];exact dcf
 by_cases h3:s.p<0
 ·have g3:decide (s.p<0)=true:=dct;have g4:decide (0≤u.p∧u.p<n∧0≤s.p∧s.p<n)=false:=decide_eq_false or;refine aue (ee9 Sp.v.eq_1 c1 n1 e1 e2 g1 g2 g3 g4) ?_;exact aG h' (by repeat (first|exact Ka _|refine aJ hd ?_ or _|refine aL hd ?_ or)) ⟨rfl,rfl⟩
 have g3:decide (s.p<0)=false:=dcf;by_cases h4:s.p≥n
 ·have g4:decide (s.p≥(rows.length:Int))=true:=by rw[hrl];exact dct
  have g5:decide (0≤u.p∧u.p<n∧0≤s.p∧s.p<n)=false:=decide_eq_false or;refine aue (xp Sp.v.eq_1 c1 n1 e1 e2 g1 g2 g3 g4 g5) ?_;exact aG h' (by repeat (first|exact Ka _|refine aJ hd ?_ or _|refine aL hd ?_ or)) ⟨rfl,rfl⟩
 have g4:decide (s.p≥(rows.length:Int))=false:=by rw[hrl];exact dcf
 have g5:decide (0≤u.p∧u.p<n∧0≤s.p∧s.p<n)=true:=decide_eq_true or;obtain⟨p,t⟩:=s;obtain⟨r,t2⟩:=u;dsimp only at h1 h2 h3 h4 g1 g2 g3 g4 g5⊢;obtain⟨a,rfl⟩:∃a:Nat,p=a:=⟨p.toNat,or⟩;obtain⟨b,rfl⟩:∃b:Nat,r=b:=⟨r.toNat,or⟩;obtain⟨aV3,cells,aBQ,hcl,oc,aAM⟩:=aH8 a b or or;have k3:a<rows.length:=or;have k4:b<cells.length:=or;have D1:=fun h=>AH oc (T a b) (hlen a b) ⟨(a:Int),t⟩ ⟨(b:Int),t2⟩ h;refine aue (DK Sp.v.eq_1 c1 n1 e1 e2 g1 g2 g3 g4 g5 aBQ aAM k3 k4) ?_;exact aG h' (by repeat (first|exact Ka _|refine aJ hd ?_ or _|refine aL hd ?_ or)) ⟨rfl,rfl⟩
theorem qn{h:Hp}{wb tb nb:Nat}{lv:V}{vo:Own}{vs:List Nat}{q:List QE}{c:Nat}(w:fZ h wb tb nb lv vo vs q c)(i:Nat)(hi:i<vs.length){es:List V}
 (hf:∀h',h.has h'→aY Tryz.prog 46 [.ptr vs[i] (.agg 4) 0 0] h' (lst .leaf es)) (hes:∀L,bU L es):
 aY Tryz.prog 20 [.ptr wb (.agg 4) 0 0, .int .i64 i] h (lst .leaf es):=by
 refine aR (fun L=>cP hes L) fun h' nx hh=>aF L.aY3 fun hd=>?_;simp only[Kg,Kj,Ke,Kf,Kc,Kd,Ki,Kk,V.undef];have c1:=hh _ _ w.cell rfl;have hw:fZ h' wb tb nb lv vo vs q c:=⟨c1,hh _ _ w.mp rfl⟩;have n1:wb<nx:=hd _ _ c1;have C5:=kN hw i;have g1:(decide (0≤(i:Int))&&decide ((i:Int)<vs.length))=true:=by rw[dct,dct];rfl
 rw[g1] at C5;have hg:(vs.map fun v=>V.ptr v (.agg 4) 0 0).getD i (.tup [])= .ptr vs[i] (.agg 4) 0 0:=bY (fun v=>V.ptr v (.agg 4) 0 0) _ vs i hi;have C6:=hf h' hh;refine aue (ee5 c1 n1 hg hi (@Kq Nat V)) ?_;exact aG h' (by repeat (first|exact Ka _|refine aJ hd ?_ or _|refine aL hd ?_ or)) ⟨rfl,rfl⟩
theorem CV{h':Hp}{nx wb tb nb:Nat}{lv:V}{vo:Own}{vs:List Nat}{q:List QE}{c:Nat}(w:fZ h' wb tb nb lv vo vs q c){m c2:Nat}{P:Int}{wv lv2:V}{l:List CE}(hc:dQ h' tb m P wv lv2 l c2):
 bD Tryz.prog 19 [.ptr wb (.agg 4) 0 0] h' nx fun v h'' nx2=>∃cb2 m2,v= .ptr cb2 (.agg 4) 0 0∧nx≤cb2∧nx≤m2∧dQ h'' cb2 m2 P wv lv2 l c2∧(∀x,x<nx→h'' x=h' x)∧aI h'' nx2∧nx≤nx2:=by
 refine aF L.aY4 fun hd=>?_;simp only[Kg,Kj,Ke,Kf,Kc,Kd,Ki,Kk,V.undef];have c1:=w.cell;refine aue c1 ?_;refine bN ((sd hc).mono ?_);rintro v h3 nx3 aDl ⟨cb2,m2,rfl,q1,q2,q3,q4,q5,q6⟩;unfold dM;simp only[go_sem,reduceIte,Ke,Kf,Ky,Ku,reduceCtorEq,Kv,Kw];refine au ?_;exact aG h3 (Ka _) ⟨cb2,m2,rfl,q1,q2,q3,q4,q5,q6⟩
theorem Ek{h':Hp}{nx wb tb nb:Nat}{lv:V}{vo:Own}{vs:List Nat}{q:List QE}{c:Nat}(w:fZ h' wb tb nb lv vo vs q c)(i:Nat)(hi:i<vs.length){m c2:Nat}{P:Int}{wv lv2:V}{l:List CE}(hc:dQ h' vs[i] m P wv lv2 l c2):
 bD Tryz.prog 28 [.ptr wb (.agg 4) 0 0, .int .i64 i] h' nx fun v h'' nx2=>∃cb2 m2,v= .ptr cb2 (.agg 4) 0 0∧nx≤cb2∧nx≤m2∧dQ h'' cb2 m2 P wv lv2 l c2∧(∀x,x<nx→h'' x=h' x)∧aI h'' nx2∧nx≤nx2:=by
 refine aF L.aVv fun hd=>?_;simp only[Kg,Kj,Ke,Kf,Kc,Kd,Ki,Kk,V.undef];have c1:=w.cell;have C5:=kN w i;have g1:(decide (0≤(i:Int))&&decide ((i:Int)<vs.length))=true:=by rw[dct,dct];rfl
 rw[g1] at C5;have hg:(vs.map fun v=>V.ptr v (.agg 4) 0 0).getD i (.tup [])= .ptr vs[i] (.agg 4) 0 0:=bY (fun v=>V.ptr v (.agg 4) 0 0) _ vs i hi;refine aue (ee4 c1 hg hi (@Kq Nat V)) ?_;refine bN ((sd hc).mono ?_);rintro v h3 nx3 aDl ⟨cb2,m2,rfl,q1,q2,q3,q4,q5,q6⟩;unfold dM;simp only[go_sem,reduceIte,Ke,Kf,Ky,Ku,reduceCtorEq,Kv,Kw];refine au ?_;exact aG h3 (Ka _) ⟨cb2,m2,rfl,q1,q2,q3,q4,q5,q6⟩
end Go.Proofs.YtecepaehmojpgaaGreat
namespace Go.Proofs.YtecepaehmojpgaaGreat
open Go.RowKit
def QE.at'(x:QE)(i j:Int):Bool:=decide (x.i=i)&&decide (x.j=j)
theorem jR(q:List QE)(i j:Int):eZ q i j=q.findIdx? fun x=>x.at' i j:=rfl
theorem cH(x:QE)(q:List QE)(i j:Int):dL (x::q) i j=if x.at' i j=true then x.l else dL q i j:=by
 unfold dL;rw[jR,jR,Km];by_cases h:x.at' i j=true
 ·rw[if_pos h,if_pos h];rfl
 rw[if_neg h,if_neg h];cases q.findIdx? (fun x=>x.at' i j) with
 |none=>rfl
 |some k=>rfl
def mE(q:List QE)(c:Nat)(i j:Int)(o:Own)(x:Own×Nt):List QE:=match eZ q i j with
 |some k=>q.set k ⟨i,j,o,dL q i j++[x],(q.getD k default).b⟩
 |none=>q++[⟨i,j,o,[x],c⟩]
theorem tD(c:Nat)(i j:Int)(o:Own)(x:Own×Nt):mE [] c i j o x=[⟨i,j,o,[x],c⟩]:=rfl
theorem qG(y:QE)(q:List QE)(c:Nat)(i j:Int)(o:Own)(x:Own×Nt):mE (y::q) c i j o x=if y.at' i j=true then ⟨i,j,o,y.l++[x],y.b⟩::q else y::mE q c i j o x:=by
 unfold mE;rw[cH,jR,jR,Km];by_cases h:y.at' i j=true
 ·rw[if_pos h,if_pos h,if_pos h];rfl
 rw[if_neg h,if_neg h,if_neg h];cases q.findIdx? (fun x=>x.at' i j) with
 |none=>rfl
 |some k=>rfl
theorem oH(i j:Int)(o:Own)(l:List (Own×Nt))(b:Nat):QE.at' ⟨i,j,o,l,b⟩ i j=true:=by simp[QE.at']
theorem pV{x:QE}{i j i' j':Int}(h:x.at' i j=true)(hn:¬(i'=i∧j'=j)):x.at' i' j'=false:=by
 unfold QE.at' at h⊢;simp only[Kt,decide_eq_true_eq] at h;obtain⟨rfl,rfl⟩:=h;rw[Bool.and_eq_false_iff,decide_eq_false_iff_not,decide_eq_false_iff_not];by_cases e:x.i=i'
 ·exact .inr fun e2=>hn ⟨e.symm,e2.symm⟩
 exact .inl e
theorem uw(i j:Int)(o:Own)(x:Own×Nt)(c:Nat):∀q:List QE,dL (mE q c i j o x) i j=dL q i j++[x]
 | []=>by rw[tD,cH,if_pos (oH i j o _ c)];rfl
 |y::q=>by
  rw[qG,cH y];by_cases h:y.at' i j=true
  ·rw[if_pos h,if_pos h,cH,if_pos (oH i j o _ _)]
  rw[if_neg h,if_neg h,cH,if_neg h,uw i j o x c q]
theorem av{i j i' j':Int}(hn:¬(i'=i∧j'=j))(o:Own)(x:Own×Nt)(c:Nat):∀q:List QE,dL (mE q c i j o x) i' j'=dL q i' j'
 | []=>by
  rw[tD,cH,if_neg (by rw[pV (oH i j o _ c) hn];simp)]
 |y::q=>by
  rw[qG,cH y];by_cases h:y.at' i j=true
  ·rw[if_pos h,cH,if_neg (by rw[pV (oH i j o _ _) hn];simp),if_neg (by rw[pV h hn];simp)]
  rw[if_neg h,cH,av hn o x c q]
def iU(q:List QE)(i j:Int):List QE:=match eZ q i j with
 |some k=>q.set k ⟨i,j,(q.getD k default).o,(dL q i j).tail,(q.getD k default).b⟩
 |none=>q
theorem mZ(y:QE)(q:List QE)(i j:Int):iU (y::q) i j=if y.at' i j=true then ⟨i,j,y.o,y.l.tail,y.b⟩::q else y::iU q i j:=by
 unfold iU;rw[cH,jR,jR,Km];by_cases h:y.at' i j=true
 ·rw[if_pos h,if_pos h,if_pos h];rfl
 rw[if_neg h,if_neg h,if_neg h];cases q.findIdx? (fun x=>x.at' i j) with
 |none=>rfl
 |some k=>rfl
theorem uv(i j:Int):∀q:List QE,dL (iU q i j) i j=(dL q i j).tail
 | []=>rfl
 |y::q=>by
  rw[mZ,cH y];by_cases h:y.at' i j=true
  ·rw[if_pos h,if_pos h,cH,if_pos (oH i j _ _ _)]
  rw[if_neg h,if_neg h,cH,if_neg h,uv i j q]
theorem sB{i j i' j':Int}(hn:¬(i'=i∧j'=j)):∀q:List QE,dL (iU q i j) i' j'=dL q i' j'
 | []=>rfl
 |y::q=>by
  rw[mZ,cH y];by_cases h:y.at' i j=true
  ·rw[if_pos h,cH,if_neg (by rw[pV (oH i j _ _ _) hn];simp),if_neg (by rw[pV h hn];simp)]
  rw[if_neg h,cH,sB hn q]
def cq(q:List QE)(i j:Int):List QE:=match eZ q i j with
 |some k=>q.eraseIdx k
 |none=>q
theorem zB(y:QE)(q:List QE)(i j:Int):cq (y::q) i j=if y.at' i j=true then q else y::cq q i j:=by
 unfold cq;rw[jR,jR,Km];by_cases h:y.at' i j=true
 ·rw[if_pos h,if_pos h];rfl
 rw[if_neg h,if_neg h];cases q.findIdx? (fun x=>x.at' i j) with
 |none=>rfl
 |some k=>rfl
theorem ft{i j i' j':Int}(hn:¬(i'=i∧j'=j)):∀q:List QE,dL (cq q i j) i' j'=dL q i' j'
 | []=>rfl
 |y::q=>by
  rw[zB,cH y];by_cases h:y.at' i j=true
  ·rw[if_pos h,if_neg (by rw[pV h hn];simp)]
  rw[if_neg h,cH,ft hn q]
def nV(q:List QE):Prop:=q.Pairwise fun x y=>¬(x.i=y.i∧x.j=y.j)
theorem fq{i j:Int}:∀{q:List QE},(∀x∈q,x.at' i j=false)→dL q i j=[]
 | [],_=>rfl
 |y::q,h=>by
  rw[cH,if_neg (by rw[h y Zm];simp)];exact fq fun x hx=>h x (Kb y hx)
theorem A4{i j:Int}:∀{q:List QE},nV q→dL (cq q i j) i j=[]
 | [],_=>rfl
 |y::q,h=>by
  obtain⟨h1,h2⟩:=Kh.1 h;rw[zB];by_cases hy:y.at' i j=true
  ·rw[if_pos hy];refine fq fun x hx=>?_;have h3:=h1 x hx;cases e:x.at' i j with
   |false=>rfl
   |true=>
    unfold QE.at' at hy e;simp only[Kt,decide_eq_true_eq] at hy e;exact absurd ⟨hy.1.trans e.1.symm,hy.2.trans e.2.symm⟩ h3
  rw[if_neg hy,cH,if_neg hy];exact A4 h2
theorem xA{q:List QE}{i j:Int}{k:Nat}(h:eZ q i j=some k):k<q.length∧(q.getD k default).at' i j=true:=by
 obtain⟨hk,h1,_⟩:=dh h;refine⟨hk,?_⟩;rw[Ko,Kp hk];exact h1
theorem FS{q:List QE}{k:Nat}(hk:k<q.length):((q.map QE.me).getD k default).b=(q.getD k default).b:=by
 rw[Ko,KG,Kp hk,Ko,Kp hk];rfl
theorem z6{q:List QE}{i j:Int}{k:Nat}(h:eZ q i j=some k)(c:Nat)(o:Own)(x:Own×Nt):(q.map QE.me).set k ⟨xD i j,qV o (dL q i j++[x]),((q.map QE.me).getD k default).b⟩=(mE q c i j o x).map QE.me:=by
 rw[FS (xA h).1];unfold mE;rw[h,KQ];rfl
theorem z7{q:List QE}{i j:Int}(h:eZ q i j=none)(c:Nat)(o:Own)(x:Own×Nt):q.map QE.me++[⟨xD i j,qV o [x],c⟩]=(mE q c i j o x).map QE.me:=by
 unfold mE;rw[h,KK];rfl
theorem ka{q:List QE}{i j:Int}(h:eZ q i j=none):dL q i j=[]:=by unfold dL;rw[h]
theorem j9{q:List QE}{i j:Int}{k:Nat}(h:eZ q i j=some k):dL q i j=(q.getD k default).l:=by unfold dL;rw[h]
theorem wY{q:List QE}{i j:Int}{k:Nat}(h:eZ q i j=some k):ux q i j=qV (q.getD k default).o (dL q i j):=by unfold ux dL;rw[h]
theorem wZ{q:List QE}{i j:Int}(h:eZ q i j=none):ux q i j= .sl .leaf .nil []:=by unfold ux;rw[h]
theorem zz{q:List QE}{i j:Int}{k:Nat}(h:eZ q i j=some k):(q.map QE.me).set k ⟨xD i j,qV (q.getD k default).o (dL q i j).tail,((q.map QE.me).getD k default).b⟩=(iU q i j).map QE.me:=by
 rw[FS (xA h).1];unfold iU;rw[h,KQ];rfl
theorem BL{q:List QE}{i j:Int}{k:Nat}(h:eZ q i j=some k):(q.map QE.me).eraseIdx k=(cq q i j).map QE.me:=by
 unfold cq;rw[h];generalize q=l;clear h;induction l generalizing k with
 |nil=>rfl
 |cons x l ih=>cases k with
  |zero=>rfl
  |succ k=>exact congrArg (_:: ·) ih
theorem fp(q:List QE)(i j:Int):eZ (iU q i j) i j=eZ q i j:=by
 induction q with
 |nil=>rfl
 |cons y q ih=>
  rw[mZ];rw[jR,jR] at ih⊢;by_cases h:y.at' i j=true
  ·rw[if_pos h,Km,Km,oH,h]
  rw[if_neg h,Km,Km,ih]
structure QOK(n0:Nat)(h:Hp)(q:List QE):Prop where
 tk:∀x∈q,∃b,x.o= .tok b∧n0≤b∧h b=some .tip
 td:q.Pairwise fun x y=>x.o≠y.o
 key:nV q
 ne:∀x∈q,x.l≠ []
theorem QOK.nil(n0:Nat)(h:Hp):QOK n0 h []:=⟨Zm, .nil, .nil,Zm⟩
theorem jt{x:QE}{i j:Int}:x.at' i j=true↔x.i=i∧x.j=j:=by
 unfold QE.at';rw[Kt,decide_eq_true_eq,decide_eq_true_eq]
theorem xS{y:QE}{q:List QE}{i j:Int}(h:nV (y::q))(hy:y.at' i j=true):∀x∈q,¬x.at' i j=true:=fun x hx hc=>by
 rw[jt] at hy hc;exact(Kh.1 h).1 x hx ⟨hy.1.trans hc.1.symm,hy.2.trans hc.2.symm⟩
theorem tE{i j:Int}{o:Own}{x:Own×Nt}{c:Nat}:∀{q:List QE},nV q→∀y∈mE q c i j o x,(y∈q∧¬y.at' i j=true)∨∃l b,y=⟨i,j,o,l++[x],b⟩
 | [],_,y,hy=>by
  rw[tD] at hy;exact .inr ⟨[],c,Kx.1 hy⟩
 |z::q,hk,y,hy=>by
  rw[qG] at hy;by_cases h:z.at' i j=true
  ·rw[if_pos h] at hy;rcases Ks.1 hy with rfl|hy
   ·exact .inr ⟨z.l,z.b,rfl⟩
   exact .inl ⟨Kb z hy,xS hk h y hy⟩
  rw[if_neg h] at hy;rcases Ks.1 hy with rfl|hy
  ·exact .inl ⟨Zm,h⟩
  rcases tE (Kh.1 hk).2 y hy with h1|h1
  ·exact .inl ⟨Kb z h1.1,h1.2⟩
  exact .inr h1
theorem vN{R:QE→QE→Prop}{i j:Int}{o:Own}{x:Own×Nt}{c:Nat}:∀{q:List QE},nV q→q.Pairwise R→(∀y∈q,¬y.at' i j=true→∀l b,R y ⟨i,j,o,l,b⟩∧R ⟨i,j,o,l,b⟩ y)→(mE q c i j o x).Pairwise R
 | [],_,_,_=>by rw[tD];exact List.pairwise_singleton ..
 |z::q,hk,hq,hn=>by
  obtain⟨q1,q2⟩:=Kh.1 hq;have hk':=(Kh.1 hk).2;rw[qG];by_cases h:z.at' i j=true
  ·rw[if_pos h];exact Kh.2 ⟨fun y hy=>(hn y (Kb z hy) (xS hk h y hy) _ _).2,q2⟩
  rw[if_neg h];refine Kh.2 ⟨fun y hy=>?_,vN hk' q2 fun y hy=>hn y (Kb z hy)⟩;rcases tE hk' y hy with h1|⟨l,b,rfl⟩
  ·exact q1 y h1.1
  exact(hn z Zm h _ _).1
theorem nV.push{q:List QE}(h:nV q)(c:Nat)(i j:Int)(o:Own)(x:Own×Nt):nV (mE q c i j o x):=
 vN h h fun y _ hy l b=>⟨fun e=>hy (jt.2 e),fun e=>hy (jt.2 ⟨e.1.symm,e.2.symm⟩)⟩
theorem QOK.push{n0:Nat}{h h2:Hp}{q:List QE}(H:QOK n0 h q){c a:Nat}{i j:Int}{x:Own×Nt}(h0:n0≤a)(ha:h2 a=some .tip)(hf:∀y∈q,¬y.at' i j=true→y.o≠ .tok a∧∀b,y.o= .tok b→h2 b=h b):QOK n0 h2 (mE q c i j (.tok a) x):=by
 refine⟨fun y hy=>?_,vN H.key H.td fun y hy h l b=>⟨(hf y hy h).1,fun e=>(hf y hy h).1 e.symm⟩,H.key.push ..,fun y hy=>?_⟩
 ·rcases tE H.key y hy with h1|⟨l,b,rfl⟩
  ·obtain⟨b,h3,h5,h4⟩:=H.tk y h1.1;exact⟨b,h3,h5,by rw[(hf y h1.1 h1.2).2 b h3];exact h4⟩
  exact⟨a,rfl,h0,ha⟩
 rcases tE H.key y hy with h1|⟨l,b,rfl⟩
 ·exact H.ne y h1.1
 simp
theorem tC{i j:Int}:∀{q:List QE},nV q→∀y∈iU q i j,(y∈q∧¬y.at' i j=true)∨∃z∈q,z.at' i j=true∧y=⟨i,j,z.o,z.l.tail,z.b⟩
 | [],_,y,hy=>by cases hy
 |z::q,hk,y,hy=>by
  rw[mZ] at hy;by_cases h:z.at' i j=true
  ·rw[if_pos h] at hy;rcases Ks.1 hy with rfl|hy
   ·exact .inr ⟨z,Zm,h,rfl⟩
   exact .inl ⟨Kb z hy,xS hk h y hy⟩
  rw[if_neg h] at hy;rcases Ks.1 hy with rfl|hy
  ·exact .inl ⟨Zm,h⟩
  rcases tC (Kh.1 hk).2 y hy with h1|⟨w,h1,h2⟩
  ·exact .inl ⟨Kb z h1.1,h1.2⟩
  exact .inr ⟨w,Kb z h1,h2⟩
theorem fm(i j:Int):∀q:List QE,(iU q i j).map (fun x=>(x.i,x.j,x.o))=q.map fun x=>(x.i,x.j,x.o)
 | []=>rfl
 |z::q=>by
  rw[mZ];by_cases h:z.at' i j=true
  ·rw[if_pos h];obtain⟨rfl,rfl⟩:=jt.1 h;rfl
  rw[if_neg h,KE,KE,fm i j q]
theorem fo(R:Int×Int×Own→Int×Int×Own→Prop){q:List QE}{i j:Int}(h:q.Pairwise fun x y=>R (x.i,x.j,x.o) (y.i,y.j,y.o)):(iU q i j).Pairwise fun x y=>R (x.i,x.j,x.o) (y.i,y.j,y.o):=by
 have:=KI.2 h;rw[←fm i j q] at this;exact KI.1 this
theorem BK{q:List QE}(hk:nV q){y:QE}(hy:y∈q){i j:Int}(h:y.at' i j=true):dL q i j=y.l:=by
 induction q with
 |nil=>cases hy
 |cons z q ih=>
  rw[cH];rcases Ks.1 hy with rfl|hy
  ·rw[if_pos h]
  rw[if_neg (fun e=>xS hk e y hy h),ih (Kh.1 hk).2 hy]
def vO(q:List QE)(i j:Int):List QE:=if (dL q i j).tail=[] then cq (iU q i j) i j else iU q i j
theorem Dh(q:List QE)(i j:Int):(cq q i j).Sublist q:=by
 unfold cq;split
 ·exact List.eraseIdx_sublist ..
 exact List.Sublist.refl _
theorem uy{i j:Int}:∀{q:List QE},nV q→∀y∈cq q i j,y∈q∧¬y.at' i j=true
 | [],_,y,hy=>by cases hy
 |z::q,hk,y,hy=>by
  rw[zB] at hy;by_cases h:z.at' i j=true
  ·rw[if_pos h] at hy;exact⟨Kb z hy,xS hk h y hy⟩
  rw[if_neg h] at hy;rcases Ks.1 hy with rfl|hy
  ·exact⟨Zm,h⟩
  have:=uy (Kh.1 hk).2 y hy;exact⟨Kb z this.1,this.2⟩
theorem nV.tail{q:List QE}(h:nV q)(i j:Int):nV (iU q i j):=fo (fun a b=>¬(a.1=b.1∧a.2.1=b.2.1)) h
theorem Dg(q:List QE)(i j:Int):(vO q i j).Sublist (iU q i j):=by
 unfold vO;split
 ·exact Dh ..
 exact List.Sublist.refl _
theorem QOK.pop{n0:Nat}{h:Hp}{q:List QE}(H:QOK n0 h q)(i j:Int):QOK n0 h (vO q i j):=by
 have hs:=Dg q i j;refine⟨fun y hy=>?_,(fo (fun a b=>a.2.2≠b.2.2) H.td).sublist hs,(H.key.tail i j).sublist hs,fun y hy=>?_⟩
 ·rcases tC H.key y (hs.subset hy) with h1|⟨z,h1,_,rfl⟩
  ·exact H.tk y h1.1
  exact H.tk z h1
 unfold vO at hy;split at hy
 ·rename_i e;obtain⟨h1,h2⟩:=uy (H.key.tail i j) y hy;rcases tC H.key y h1 with h3|⟨z,_,_,rfl⟩
  ·exact H.ne y h3.1
  exact absurd (oH i j _ _ _) h2
 rename_i e;rcases tC H.key y hy with h3|⟨z,h3,h4,rfl⟩
 ·exact H.ne y h3.1
 rw[BK H.key h3 h4] at e;exact e
theorem Ev{q:List QE}(hk:nV q)(i j:Int):dL (vO q i j) i j=(dL q i j).tail:=by
 unfold vO;split
 ·rename_i e;rw[A4 (hk.tail i j),e]
 exact uv i j q
theorem z8{i j i' j':Int}(hn:¬(i'=i∧j'=j))(q:List QE):dL (vO q i j) i' j'=dL q i' j':=by
 unfold vO;split
 ·rw[ft hn,sB hn]
 exact sB hn q
theorem FM{q:List QE}{n0:Nat}{h:Hp}(H:QOK n0 h q)(he:∀i j,dL q i j=[]):q=[]:=by
 cases q with
 |nil=>rfl
 |cons y q=>
  have h1:=H.ne y Zm;have h2:=he y.i y.j;rw[cH,if_pos (jt.2 ⟨rfl,rfl⟩)] at h2;exact absurd h2 h1
structure WI(n0:Nat)(h:Hp)(nx wb nb tb:Nat)(vo:Own)(vs:List Nat)(P:Int)(wv lc:V)(ot:Own)(rows:List V)(S:Nat→CS)(Q:Int→Int→List Nt):Prop where
 q:∃q c,fZ h wb tb nb (.sl .leaf ot rows) vo vs q c∧QOK n0 h q∧∀i j,(dL q i j).map Prod.snd=Q i j
 dom:aI h nx
 c:∀i (hi:i<(tb::vs).length),∃m,m≠nb∧dQ h (tb::vs)[i] m P wv lc (S i).1 (S i).2
 d:(tb::vs).Nodup
 lo:n0≤nb∧∀x∈tb::vs,n0≤x
def Fr(n0:Nat)(cs:List Nat)(h h2:Hp):Prop:=(∀x,x<n0→h2 x=h x)∧∀x k es,x∉cs→h x=some (.arr k es)→h2 x=h x
theorem Fr.refl(n0:Nat)(cs:List Nat)(h:Hp):Fr n0 cs h h:=⟨fun _ _=>rfl,fun _ _ _ _ _=>rfl⟩
theorem Fr.trans{n0:Nat}{cs:List Nat}{h h2 h3:Hp}(a:Fr n0 cs h h2)(b:Fr n0 cs h2 h3):Fr n0 cs h h3:=
 ⟨fun x hx=>(b.1 x hx).trans (a.1 x hx),fun x k es hx he=>(b.2 x k es hx ((a.2 x k es hx he).trans he)).trans (a.2 x k es hx he)⟩
theorem Fr.of{n0 nx:Nat}{cs:List Nat}{h h2:Hp}(hd:aI h nx)(hn:n0≤nx)(hk:∀x,x<nx→h2 x=h x):Fr n0 cs h h2:=⟨fun x hx=>hk x or,fun x _ _ _ he=>hk x (hd _ _ he)⟩
section
variable{h h2:Hp}{n0 nx nx2 wb nb tb:Nat}{vo:Own}{vs:List Nat}{P:Int}{wv lc:V}{ot:Own}{rows:List V}{S:Nat→CS}{Q:Int→Int→List Nt}
theorem WI.t(H:WI n0 h nx wb nb tb vo vs P wv lc ot rows S Q):∃m,m≠nb∧dQ h tb m P wv lc (S 0).1 (S 0).2:=H.c 0 Zm
theorem WI.v(H:WI n0 h nx wb nb tb vo vs P wv lc ot rows S Q)(i:Nat)(hi:i<vs.length):∃m,m≠nb∧dQ h vs[i] m P wv lc (S (i+1)).1 (S (i+1)).2:=H.c (i+1) (by simpa using hi)
theorem Dn{l:List Nat}(h:l.Nodup){i j:Nat}(hi:i<l.length)(hj:j<l.length)(e:i≠j):l[i]≠l[j]:=by
 have h:=List.pairwise_iff_getElem.1 h;rcases Nat.lt_or_gt_of_ne e with k|k
 ·exact h i j hi hj k
 exact fun e2=>h j i hj hi k e2.symm
theorem sV{h:Hp}{a b:Nat}{k:Sh}{es:List V}{e2:List ME}{c:Nat}(h1:h a=some (.arr k es))(h2:h b=some (.mp e2 c)):a≠b:=fun e=>by rw[e,h2] at h1;cases h1
theorem db{h:Hp}{a b:Nat}{k:Sh}{es:List V}(h1:h a=some (.arr k es))(h2:h b=some .tip):a≠b:=fun e=>by rw[e,h2] at h1;cases h1
theorem zc{h:Hp}{a b:Nat}{e2:List ME}{c:Nat}(h1:h a=some (.mp e2 c))(h2:h b=some .tip):a≠b:=fun e=>by rw[e,h2] at h1;cases h1
theorem si{a b c:V}{ot:Own}{rows:List V}{h:Hp}{wb cb:Nat}{P:Int}{wv lv:V}{m:Nat}(h1:h wb=some (.arr (.agg 4) [.agg [.sl .leaf ot rows,a,b,c]]))(h2:h cb=some (.arr (.agg 4) [kJ P wv lv m])):wb≠cb:=fun e=>by
 rw[e,h2] at h1;simp[kJ] at h1
theorem WI.aBB(H:WI n0 h nx wb nb tb vo vs P wv lc ot rows S Q)(hk:∀x,x<nx→h2 x=h x)(hd:aI h2 nx2):WI n0 h2 nx2 wb nb tb vo vs P wv lc ot rows S Q:=by
 obtain⟨q,c,hw,hq,hl⟩:=H.q;refine⟨⟨q,c,⟨?_,?_⟩,⟨fun x hx=>?_,hq.td,hq.key,hq.ne⟩,hl⟩,hd,fun i hi=>?_,H.d,H.lo⟩
 ·rw[hk _ (H.dom _ _ hw.cell)];exact hw.cell
 ·rw[hk _ (H.dom _ _ hw.mp)];exact hw.mp
 ·obtain⟨b,h1,h0,h3⟩:=hq.tk x hx;exact⟨b,h1,h0,by rw[hk _ (H.dom _ _ h3)];exact h3⟩
 obtain⟨m,hm,hc⟩:=H.c i hi;exact⟨m,hm,by rw[hk _ (H.dom _ _ hc.cell)];exact hc.cell,by rw[hk _ (H.dom _ _ hc.mp)];exact hc.mp,hc.wf,hc.lf⟩
theorem WI.apply(H:WI n0 h nx wb nb tb vo vs P wv lc ot rows S Q)(i:Nat)(hi:i<(tb::vs).length)(hk:∀x,x<nx→x≠(tb::vs)[i]→h2 x=h x)(hd:aI h2 nx2){X:CS}
 {m2 m:Nat} (hm:m2=m∨nx≤m2) (hmb:m≠nb) (hc:dQ h2 (tb::vs)[i] m2 P wv lc X.1 X.2):WI n0 h2 nx2 wb nb tb vo vs P wv lc ot rows (dS S i X) Q:=by
 obtain⟨q,c,hw,hq,hl⟩:=H.q;obtain⟨m0,hm0,hc0⟩:=H.c i hi;have hnb:=H.dom _ _ hw.mp;refine⟨⟨q,c,⟨?_,?_⟩,⟨fun x hx=>?_,hq.td,hq.key,hq.ne⟩,hl⟩,hd,fun j hj=>?_,H.d,H.lo⟩
 ·rw[hk _ (H.dom _ _ hw.cell) (si hw.cell hc0.cell)];exact hw.cell
 ·rw[hk _ hnb (sV hc0.cell hw.mp).symm];exact hw.mp
 ·obtain⟨b,h1,h0,h3⟩:=hq.tk x hx;exact⟨b,h1,h0,by rw[hk _ (H.dom _ _ h3) (db hc0.cell h3).symm];exact h3⟩
 unfold dS;by_cases e:j=i
 ·subst e;rw[if_pos rfl];exact⟨m2,by rcases hm with h|h<;>omega,hc⟩
 rw[if_neg e];obtain⟨m1,hm1,hc1⟩:=H.c j hj;have hne:(tb::vs)[j]≠(tb::vs)[i]:=Dn H.d hj hi e;exact⟨m1,hm1,hc1.other H.dom hne (sV hc0.cell hc1.mp).symm hk⟩
theorem WI.queue(H:WI n0 h nx wb nb tb vo vs P wv lc ot rows S Q){q2:List QE}{c2:Nat}{Q2:Int→Int→List Nt}(hk:∀x k es,h x=some (.arr k es)→h2 x=h x)(hkm:∀x es k,x≠nb→h x=some (.mp es k)→h2 x=h x)(hd:aI h2 nx2)(hm:h2 nb=some (.mp (q2.map QE.me) c2))(hq2:QOK n0 h2 q2)(hl:∀i j,(dL q2 i j).map Prod.snd=Q2 i j):WI n0 h2 nx2 wb nb tb vo vs P wv lc ot rows S Q2:=by
 obtain⟨q,c,hw,hq,_⟩:=H.q;refine⟨⟨q2,c2,⟨?_,hm⟩,hq2,hl⟩,hd,fun i hi=>?_,H.d,H.lo⟩
 ·rw[hk _ _ _ hw.cell];exact hw.cell
 obtain⟨m,hm,hc⟩:=H.c i hi;exact⟨m,hm,by rw[hk _ _ _ hc.cell];exact hc.cell,by rw[hkm _ _ _ hm hc.mp];exact hc.mp,hc.wf,hc.lf⟩
end
end Go.Proofs.YtecepaehmojpgaaGreat
