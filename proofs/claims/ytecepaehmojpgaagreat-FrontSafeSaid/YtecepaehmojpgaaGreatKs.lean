/-
Texts of this proof,one behind the other. No conditions.
-/
import Derived.Test.YtecepaehmojpgaaGreatKo
import Derived.Test.YtecepaehmojpgaaGreatKh
import Derived.Test.YtecepaehmojpgaaGreatKd
import Derived.Test.YtecepaehmojpgaaGreatKn
import Derived.Test.YtecepaehmojpgaaGreatKr
set_option linter.unusedSimpArgs false
set_option linter.unusedVariables false
set_option linter.unusedSectionVars false
open Nat renaming reduceAdd→jA,reduceSub→jB,reduceLT→jC,reduceLeDiff→jD,reduceEqDiff→jE
open Int renaming reduceToNat→jF,toNat_natCast→jG,natCast_add→jH,natCast_one→jI,natCast_zero→jJ
open List renaming length_map→jK,length_cons→jL,length_nil→jM,replicate_succ→jN,replicate_zero→jO,cons_append→jP,nil_append→jQ
namespace Go.Proofs.YtecepaehmojpgaaGreat
open Go.RowKit Go.Sort
def Pa.act(p:Pa)(t:Tm):Tm:=⟨t.e,if p.n=true then p.a else p.a+t.r⟩
theorem Pa.act_cat(p q:Pa)(t:Tm):(p.cat q).act t=q.act (p.act t):=by
 obtain⟨n,a⟩:=p;obtain⟨m,b⟩:=q
 cases m<;>cases n<;>simp[Pa.cat,Pa.act]<;>omega
theorem Tm.le_def(t u:Tm):t.le u=true↔t.e≤u.e∧t.r≤u.r:=by simp[Tm.le]
theorem Pa.act_mono(p:Pa){t u:Tm}(h:t.le u=true):(p.act t).le (p.act u)=true:=by
 obtain⟨n,a⟩:=p
 rw[Tm.le_def] at h⊢
 cases n<;>simp[Pa.act]<;>omega
theorem Pa.act_le{p q:Pa}(h:p.le q=true){t:Tm}(ht:t.ok=true):(p.act t).le (q.act t)=true:=by
 obtain⟨n,a⟩:=p;obtain⟨m,b⟩:=q
 simp only[Tm.ok,Bool.and_eq_true,decide_eq_true_eq] at ht
 rw[Tm.le_def]
 cases n<;>cases m<;>simp[Pa.act,Pa.le] at h⊢<;>omega
theorem aHZ{p:Pa}{t:Tm}(h:(p.of t).2=0):(p.of t).1=p.act t:=by
 unfold Pa.of at h⊢
 by_cases h1:(!p.ok|| !t.ok)=true
 ·rw[if_pos h1] at h;exact absurd h (by show¬((2:Int)=0);omega)
 rw[if_neg h1] at h⊢
 by_cases h2:Tm.ok ⟨t.e,if p.n=true then p.a else p.a+t.r⟩=false
 ·rw[if_pos h2] at h;exact absurd h (by show¬((1:Int)=0);omega)
 rw[if_neg h2];rfl
theorem aKy{p:Pa}{t:Tm}(h1:p.ok=true)(h2:t.ok=true)(h3:(p.act t).ok=true):p.of t=(p.act t,0):=by
 unfold Pa.of
 rw[h1,h2]
 have h3:Tm.ok ⟨t.e,if p.n=true then p.a else p.a+t.r⟩=true:=h3
 rw[h3]
 rfl
theorem aAc(t:Tm):Pa.nought.act t=t:=by simp[Pa.act,Pa.nought]
def Rch(l:List We)(s u:Sp):Prop:=∃w,fM l s.p.toNat w u.p.toNat∧((iJ Pa.nought w).act s.t).le u.t=true
theorem Rch.refl(l:List We)(s:Sp):Rch l s s:=⟨[],rfl,by show(Pa.nought.act s.t).le s.t=true;rw[aAc];exact Tm.le_refl _⟩
theorem Rch.trans{l:List We}{a b c:Sp}(h:Rch l a b)(k:Rch l b c):Rch l a c:=by
 obtain⟨w,h1,h2⟩:=h
 obtain⟨v,k1,k2⟩:=k
 refine⟨w++v,h1.append k1,?_⟩
 rw[fV,oF,Pa.act_cat]
 exact Tm.le_trans (Pa.act_mono _ h2) k2
theorem aGo{P:Int}{ws:List Wy}{n:Nat}{l:List We}(R:eX P ws n l){a:Nat}{w:List We}(h:fM l a w a)(hne:w≠ []):(iJ Pa.nought w).n=false∧1≤(iJ Pa.nought w).a:=by
 have hin:=rU h
 have hn:∀v∈w,v.p.n=false:=by
  intro v hv
  cases e:v.p.n with
  |false=>rfl
  |true=>
   obtain⟨x,y,rfl⟩:=List.append_of_mem hv
   obtain⟨b,k1,k2⟩:=fM.split h
   obtain⟨q1,q2,q3⟩:=k2
   refine absurd ?_ (R.turn v (hin v (by simp)) e)
   have:=(q3.append k1).plus
   rw[q2]
   exact this
 have hp:∀v∈w,0≤v.p.a:=by
  intro v hv
  have:=(R.fit v (hin v hv)).2.2
  simp only[Pa.ok,Bool.and_eq_true,decide_eq_true_eq] at this
  exact this.1
 have hu:∀(w:List We) (p:Pa),p.n=false→(∀v∈w,v.p.n=false)→iJ p w=⟨false,p.a+adds w⟩:=by
  intro w
  induction w with
  |nil=>intro p hp _;obtain⟨n,a⟩:=p;simp at hp;subst hp;simp[iJ,adds]
  |cons v w ih=>
   intro p hp hw
   have h1:iJ p (v::w)=iJ (p.cat v.p) w:=rfl
   have h2:p.cat v.p=⟨false,p.a+v.p.a⟩:=by simp[Pa.cat,hw v (by simp),hp]
   rw[h1,h2,ih _ rfl fun x hx=>hw x (by simp[hx]),iH]
   simp;omega
 rw[hu w _ rfl hn]
 refine⟨rfl,?_⟩
 show 1≤0+adds w
 have h0:=pG hp
 apply Classical.byContradiction
 intro hc
 have hz:adds w=0:=by omega
 have hall:∀(w:List We),(∀v∈w,0≤v.p.a)→adds w=0→∀v∈w,v.p.a=0:=by
  intro w
  induction w with
  |nil=>intro _ _ v hv;cases hv
  |cons x w ih=>
   intro hp hz v hv
   rw[iH] at hz
   have h1:=hp x (by simp)
   have h2:=pG fun v hv=>hp v (List.mem_cons_of_mem x hv)
   rcases List.mem_cons.1 hv with rfl|hv
   ·omega
   exact ih (fun v hv=>hp v (List.mem_cons_of_mem x hv)) (by omega) v hv
 have hz2:=hall w hp hz
 have hpl:∀(w:List We) (a b:Nat),fM l a w b→w≠ []→(∀v∈w,v.p.n=false∧v.p.a=0)→fU (fun a b=>(a,b)∈zE l) a b:=by
  intro w
  induction w with
  |nil=>intro a b _ h;exact absurd rfl h
  |cons x w ih=>
   rintro a b ⟨h1,h2,h3⟩ _ hz
   have he:(a,x.t)∈zE l:=(aHv l _).2 ⟨x,h1,(hz x (by simp)).2,by rw[h2]⟩
   cases w with
   |nil=>
    have h3:x.t=b:=h3
    subst h3
    exact .one he
   |cons y w=>exact .cons he (ih _ _ h3 (by simp) fun v hv=>hz v (List.mem_cons_of_mem x hv))
 exact R.idle ⟨a,hpl w a a h hne fun v hv=>⟨hn v hv,hz2 v hv⟩⟩
theorem Rch.antisymm{P:Int}{ws:List Wy}{n:Nat}{l:List We}(R:eX P ws n l){s u:Sp}(hs:0≤s.p)(hu:0≤u.p)(h:Rch l s u)(k:Rch l u s):s=u:=by
 obtain⟨w,h1,h2⟩:=h
 obtain⟨v,k1,k2⟩:=k
 have hr:=h1.append k1
 by_cases he:w++v=[]
 ·obtain⟨rfl,rfl⟩:=List.append_eq_nil_iff.1 he
  have h1:s.p.toNat=u.p.toNat:=h1
  have h2:(Pa.nought.act s.t).le u.t=true:=h2
  have k2:(Pa.nought.act u.t).le s.t=true:=k2
  rw[aAc,Tm.le_def] at h2 k2
  obtain⟨p,t⟩:=s;obtain⟨q,t'⟩:=u
  obtain⟨e,r⟩:=t;obtain⟨e',r'⟩:=t'
  simp only at*
  have:p=q:=by omega
  have:e=e':=by omega
  have:r=r':=by omega
  subst p;subst e;subst r;rfl
 exfalso
 obtain⟨q1,q2⟩:=aGo R hr he
 have h3:((iJ Pa.nought (w++v)).act s.t).le s.t=true:=by
  rw[fV,oF,Pa.act_cat]
  exact Tm.le_trans (Pa.act_mono _ h2) k2
 rw[Tm.le_def] at h3
 have h4:(iJ Pa.nought (w++v)).a+s.t.r≤s.t.r:=by
  have:=h3.2
  simpa [Pa.act,q1] using this
 omega
theorem aEj{P:Int}{ws:List Wy}{n:Nat}{l:List We}(R:eX P ws n l){a c:Nat}{w:List We}(h:fM l a w c):∃x∈bG l a c,x.le (iJ Pa.nought w)=true:=by
 obtain⟨m,k1,k2,k3⟩:=aEL R.fit R.turn w.length w (Nat.le_refl _) h
 have hnd:m.Nodup:=by
  rw[aCI k1] at k2
  have:=(List.nodup_append.1 k2).1
  exact List.Pairwise.of_map (·.f) (fun a b h e=>h (by rw[e])) this
 have hok:∀w∈l,w.p.ok=true:=fun w hw=>(R.fit w hw).2.2
 have hms:=rU k1
 have hb:run Pa.nought m=some (iJ Pa.nought m):=by
  refine aAS m _ rfl (fun w hw=>hok w (hms w hw)) ?_
  have:=aEe hnd hms fun w hw=>by
   have:=hok w hw
   simp only[Pa.ok,Bool.and_eq_true,decide_eq_true_eq] at this
   exact this.1
  have:=R.adds
  show 0+adds m≤1048576
  omega
 obtain⟨x,hx,hxl⟩:=(lT l a c).dom _ ⟨m,k1,hb⟩
 exact⟨x,hx,Pa.le_trans hxl k3⟩
structure Nt where
 took:Sp
 made:List Sp
def Nt.at'(n:Nt)(s:Sp):Int:=(n.made.count s:Int)-(if n.took=s then 1 else 0)
def mM(l:List Nt)(s:Sp):Int:=(l.map fun n=>n.at' s).sum
theorem wU{α:Type}(f:α→Int):∀(l:List α),0<(l.map f).sum→∃x∈l,0<f x
 | [],h=>by simp at h
 |x::l,h=>by
  simp only[List.map_cons,List.sum_cons] at h
  by_cases hx:0<f x
  ·exact⟨x,by simp,hx⟩
  obtain⟨y,hy,h2⟩:=wU f l (by omega)
  exact⟨y,by simp[hy],h2⟩
theorem oH{α:Type}(f:α→Int):∀(l:List α) (x:α),x∈l→f x<0→0≤(l.map f).sum→∃x∈l,0<f x
 |y::l,x,hm,hx,h=>by
  simp only[List.map_cons,List.sum_cons] at h
  rcases List.mem_cons.1 hm with rfl|hm
  ·obtain⟨y,hy,h2⟩:=wU f l (by omega)
   exact⟨y,by simp[hy],h2⟩
  by_cases hy:0<f y
  ·exact⟨y,by simp,hy⟩
  obtain⟨z,hz,h2⟩:=oH f l x hm hx (by omega)
  exact⟨z,by simp[hz],h2⟩
structure tQ(l:List We)(T V:Sp→Int)(pend:List Nt):Prop where
 sum:∀s,T s=V s+mM pend s
 pos:∀s,0≤T s
 lead:∀n∈pend,0≤n.took.p∧∀m∈n.made,n.took≠m∧0≤m.p∧Rch l n.took m
theorem aIR{n:Nt}{s:Sp}(h:0<n.at' s):s∈n.made:=by
 apply Classical.byContradiction
 intro hc
 have:n.made.count s=0:=List.count_eq_zero.2 hc
 unfold Nt.at' at h
 split at h<;>omega
open Classical in
theorem tQ.seen{P:Int}{ws:List Wy}{n:Nat}{l:List We}(R:eX P ws n l){T V:Sp→Int}{pend:List Nt}(H:tQ l T V pend):
 ∀(k:Nat) (x:Sp),0≤x.p→pend.countP (fun n=>decide (Rch l n.took x∧n.took≠x))≤k→(0<T x∨∃n∈pend,n.took=x)→∃y,0<V y∧Rch l y x:=by
 intro k
 induction k with
 |zero=>
  intro x hx hk h
  by_cases hV:0<V x
  ·exact⟨x,hV, .refl l x⟩
  obtain⟨m,hm,h2⟩:∃m∈pend,0<m.at' x:=by
   have hs:=H.sum x
   rcases h with h|⟨m,hm,e⟩
   ·exact wU _ pend (by unfold mM at hs;omega)
   refine oH _ pend m hm ?_ (by have:=H.pos x;unfold mM at hs;omega)
   have:x∉m.made:=fun hc=>((H.lead m hm).2 x hc).1 e
   have:m.made.count x=0:=List.count_eq_zero.2 this
   unfold Nt.at'
   rw[if_pos e];omega
  obtain⟨q1,q2,q3⟩:=(H.lead m hm).2 x (aIR h2)
  have:0<pend.countP (fun n=>decide (Rch l n.took x∧n.took≠x)):=List.countP_pos_iff.2 ⟨m,hm,by simp[q1,q3]⟩
  omega
 |succ k ih=>
  intro x hx hk h
  by_cases hV:0<V x
  ·exact⟨x,hV, .refl l x⟩
  obtain⟨m,hm,h2⟩:∃m∈pend,0<m.at' x:=by
   have hs:=H.sum x
   rcases h with h|⟨m,hm,e⟩
   ·exact wU _ pend (by unfold mM at hs;omega)
   refine oH _ pend m hm ?_ (by have:=H.pos x;unfold mM at hs;omega)
   have:x∉m.made:=fun hc=>((H.lead m hm).2 x hc).1 e
   have:m.made.count x=0:=List.count_eq_zero.2 this
   unfold Nt.at'
   rw[if_pos e];omega
  obtain⟨q1,q2,q3⟩:=(H.lead m hm).2 x (aIR h2)
  have q4:=(H.lead m hm).1
  have hlt:∀(L:List Nt),(∀z∈L,z∈pend)→L.countP (fun n=>decide (Rch l n.took m.took∧n.took≠m.took))+L.countP (fun n=>decide (n.took=m.took))≤L.countP (fun n=>decide (Rch l n.took x∧n.took≠x)):=by
   intro L
   induction L with
   |nil=>intro _;simp
   |cons z L ihL=>
    intro hz
    have i1:=ihL fun y hy=>hz y (List.mem_cons_of_mem z hy)
    simp only[List.countP_cons,decide_eq_true_eq]
    by_cases e:z.took=m.took
    ·rw[if_neg (fun hc=>hc.2 e),if_pos e,if_pos ⟨by rw[e];exact q3,by rw[e];exact q1⟩];omega
    rw[if_neg e]
    by_cases hc:Rch l z.took m.took∧z.took≠m.took
    ·have hne:z.took≠x:=fun hx'=>q1 (Rch.antisymm R q4 q2 q3 (hx'▸hc.1))
     rw[if_pos hc,if_pos ⟨hc.1.trans q3,hne⟩]
     omega
    rw[if_neg hc];split<;>omega
  have h3:=hlt pend fun _ h=>h
  have h4:0<pend.countP (fun n=>decide (n.took=m.took)):=List.countP_pos_iff.2 ⟨m,hm,by simp⟩
  obtain⟨y,y1,y2⟩:=ih m.took q4 (by omega) (.inr ⟨m,hm,rfl⟩)
  exact⟨y,y1,y2.trans q3⟩
theorem aFe{P:Int}{ws:List Wy}{n:Nat}{l:List We}(R:eX P ws n l){mT mV:List CE}{c c' K K':Nat}(hT:StC P mT c K)(hV:StC P mV c' K'){pend:List Nt}
 (H:tQ l (cC mT) (cC mV) pend) (b:Nat):atM (ofT (frT (bG l) b (eC mV))) (ofT (frT (bG l) b (eC mT)))=true:=by
 refine aJI.2 fun t ht=>?_
 obtain⟨k1,k2⟩:=aKh ht
 obtain⟨x,hx,h2⟩:=List.mem_flatMap.1 k2
 obtain⟨p,hp,h3,h4⟩:=(yB _ _ _).1 h2
 obtain⟨ex,hex,e1,e2⟩:=(aEg x).1 hx
 have hxr:=hT.right ex hex
 rw[e2] at hxr
 have hpos:0<cC mT x:=by rw[←e2,eA hT.ok.key hex];exact e1
 obtain⟨y,y1,w,w1,w2⟩:=H.seen R _ x hxr.1 (Nat.le_refl _) (.inl hpos)
 obtain⟨ey,hey,e3⟩:=wY (l:=mV) (s:=y) (by omega)
 have hyr:=hV.right ey hey
 rw[e3] at hyr
 have hya:y∈eC mV:=(aEg y).2 ⟨ey,hey,by have:=eA hV.ok.key hey;rw[e3] at this;omega,e3⟩
 obtain⟨v,v1,v2⟩:=(lT l x.p.toNat b).val p hp
 obtain⟨q,q1,q2⟩:=aEj R (w1.append v1)
 rw[fV,oF,xM _ v2] at q2
 have hle:(q.act y.t).le t=true:=by
  refine Tm.le_trans (Pa.act_le q2 hyr.2.2) ?_
  rw[Pa.act_cat,←h4,aHZ h3]
  exact Pa.act_mono _ w2
 have hqo:=((lT l y.p.toNat b).val q q1).ok
 have hok:(q.act y.t).ok=true:=by
  have h5:=k1
  rw[Tm.le_def] at hle
  have h6:=hyr.2.2
  have h7:=hqo
  simp only[Tm.ok,Pa.ok,Bool.and_eq_true,decide_eq_true_eq] at h5 h6 h7⊢
  have:0≤(q.act y.t).r:=by unfold Pa.act;dsimp only;split<;>omega
  have:(q.act y.t).e=y.t.e:=rfl
  omega
 have hof:=aKy hqo hyr.2.2 hok
 obtain⟨z,hz,hzl⟩:=aGw (l:=frT (bG l) b (eC mV)) (y:=q.act y.t) (List.mem_flatMap.2 ⟨y,hya,(yB _ _ _).2 ⟨q,q1,by rw[hof],by rw[hof]⟩⟩) hok
 exact⟨z,hz,Tm.le_trans hzl hle⟩
def Nt.cs(n:Nt):List Cg:=(n.made.map fun s=>(⟨s,1⟩:Cg))++[⟨n.took,-1⟩]
theorem Nt.cs_len(n:Nt):n.cs.length=n.made.length+1:=by simp[Nt.cs]
theorem aAO(l:List Sp)(s:Sp):oI (l.map fun s=>(⟨s,1⟩:Cg)) s=(l.count s:Int):=by
 induction l with
 |nil=>rfl
 |cons x l ih=>
  have h1:oI ((x::l).map fun s=>(⟨s,1⟩:Cg)) s=(if x=s then 1 else 0)+oI (l.map fun s=>(⟨s,1⟩:Cg)) s:=rfl
  rw[h1,ih,List.count_cons]
  by_cases e:x=s
  ·subst e;simp;omega
  have:(x==s)=false:=by simpa using e
  rw[if_neg e,this];simp
theorem aFA(n:Nt)(s:Sp):oI n.cs s=n.at' s:=by
 have h1:oI [(⟨n.took,-1⟩:Cg)] s=if n.took=s then-1 else 0:=by
  show(if n.took=s then (-1:Int) else 0)+0=_
  omega
 unfold Nt.cs Nt.at'
 rw[aCG,aAO,h1]
 split<;>omega
theorem aCt(n:Nt)(s:Sp):-1≤n.at' s∧(n.took≠s→0≤n.at' s)∧n.at' s≤n.made.length:=by
 have:n.made.count s≤n.made.length:=List.count_le_length
 unfold Nt.at'
 refine⟨?_,?_,?_⟩
 ·split<;>omega
 ·intro h;rw[if_neg h];omega
 split<;>omega
theorem xV{a b:List Nt}(h:a.Perm b)(s:Sp):mM a s=mM b s:=by
 induction h with
 |nil=>rfl
 |cons x _ ih=>exact congrArg (_+ ·) ih
 |swap x y l=>show y.at' s+(x.at' s+mM l s)=x.at' s+(y.at' s+mM l s);omega
 |trans _ _ h1 h2=>exact h1.trans h2
theorem rB(n:Nt)(l:List Nt)(s:Sp):mM (n::l) s=n.at' s+mM l s:=rfl
def aKZ(l:List We)(n:Nt):Prop:=0≤n.took.p∧∀m∈n.made,n.took≠m∧0≤m.p∧Rch l n.took m
theorem aFW{T T':Sp→Int}{n:Nt}(hT:∀s,0≤T s)(h1:1≤T n.took)(h:∀s,T' s=T s+n.at' s)(s:Sp):0≤T' s:=by
 rw[h]
 have:=hT s
 obtain⟨q1,q2,_⟩:=aCt n s
 by_cases e:n.took=s
 ·subst e;omega
 have:=q2 e;omega
theorem tQ.sent{l:List We}{T T' V:Sp→Int}{p p':List Nt}(H:tQ l T V p){n:Nt}(hf:aKZ l n)(h1:1≤T n.took)(h:∀s,T' s=T s+n.at' s)(hp:p'.Perm (n::p)):tQ l T' V p':=
 ⟨fun s=>by rw[h,xV hp,rB,H.sum];omega,aFW H.pos h1 h,fun m hm=>by
   rcases List.mem_cons.1 (hp.mem_iff.1 hm) with rfl|hm
   ·exact hf
   exact H.lead m hm⟩
theorem tQ.own{l:List We}{T T' V V':Sp→Int}{p:List Nt}(H:tQ l T V p){n:Nt}(h1:1≤T n.took)(h:∀s,T' s=T s+n.at' s)(hv:∀s,V' s=V s+n.at' s):tQ l T' V' p:=
 ⟨fun s=>by rw[h,hv,H.sum];omega,aFW H.pos h1 h,H.lead⟩
theorem tQ.got{l:List We}{T V V':Sp→Int}{p p':List Nt}(H:tQ l T V p){n:Nt}(hp:p.Perm (n::p'))(hv:∀s,V' s=V s+n.at' s):tQ l T V' p':=
 ⟨fun s=>by rw[hv,H.sum,xV hp,rB];omega,H.pos,fun m hm=>H.lead m (hp.mem_iff.2 (List.mem_cons_of_mem n hm))⟩
def iG(N:Nat)(Q:Nat→Nat→List Nt)(j:Nat):List Nt:=(List.range N).flatMap fun i=>Q i j
theorem aDy{α:Type}{f g:Nat→List α}{a:α}:∀(l:List Nat) (i:Nat),l.Nodup→i∈l→(∀k,k≠i→f k=g k)→(f i).Perm (a::g i)→(l.flatMap f).Perm (a::l.flatMap g)
 | [],_,_,h,_,_=>by cases h
 |x::l,i,hn,hm,hk,hi=>by
  have hn':=List.nodup_cons.1 hn
  rw[List.flatMap_cons,List.flatMap_cons]
  by_cases e:x=i
  ·subst e
   have:l.flatMap f=l.flatMap g:=by
    simp only[List.flatMap]
    congr 1
    exact List.map_congr_left fun y hy=>hk y fun e=>hn'.1 (e▸hy)
   rw[this]
   exact(hi.append_right _)
  rcases List.mem_cons.1 hm with rfl|hm
  ·exact absurd rfl e
  rw[hk x e]
  exact((aDy l i hn'.2 hm hk hi).append_left _).trans List.perm_middle
theorem aAX{N:Nat}{Q Q':Nat→Nat→List Nt}{i j:Nat}{n:Nt}(hi:i<N)(hk:∀k,k≠i→Q' k j=Q k j)(h:(Q' i j).Perm (n::Q i j)):(iG N Q' j).Perm (n::iG N Q j):=
 aDy (List.range N) i List.nodup_range (List.mem_range.2 hi) hk h
theorem xU{N:Nat}{Q Q':Nat→Nat→List Nt}{j:Nat}(h:∀k,Q' k j=Q k j):iG N Q' j=iG N Q j:=by
 unfold iG
 congr 1
 exact funext h
def aCs(l:List Nt):Nat:=(l.map fun n=>n.made.length+1).sum
theorem aBw{a b:List Nt}(h:a.Perm b):aCs a=aCs b:=by
 induction h with
 |nil=>rfl
 |cons x _ ih=>exact congrArg (_+ ·) ih
 |swap x y l=>show(y.made.length+1)+((x.made.length+1)+aCs l)=(x.made.length+1)+((y.made.length+1)+aCs l);omega
 |trans _ _ h1 h2=>exact h1.trans h2
theorem vN(n:Nt)(l:List Nt):aCs (n::l)=(n.made.length+1)+aCs l:=rfl
theorem aEG(l:List Nt)(s:Sp):-(aCs l:Int)≤mM l s∧mM l s≤aCs l:=by
 induction l with
 |nil=>exact⟨Int.le_refl _,Int.le_refl _⟩
 |cons n l ih=>
  obtain⟨q1,_,q3⟩:=aCt n s
  rw[rB,vN]
  omega
theorem aFu{P:Int}{l:List CE}{c K:Nat}{r:List Cg}(h:StC P l c K)(h1:r.any (eR P)=false)(h2:∀x∈r,dV x.d=false)(hr:r.length≤100000)(h3:∀s,dV (cC l s+oI r s)=false):(aT P l c r).1=0:=by
 unfold aT
 have h2':r.any (fun x=>dV x.d)=false:=by
  rw[List.any_eq_false]
  intro x hx;rw[h2 x hx];simp
 obtain⟨q1,q2,_⟩:=mZ r h.ok
 have h4:(eF l c r).1.any (fun y=>dV y.n)=false:=by
  rw[List.any_eq_false]
  intro y hy
  have:=eA q1.key hy
  rw[q2 y.s,vT h2 hr (zC h.small y.s)] at this
  rw[←this,h3]
  simp
 rw[h1,h2',h4]
 rfl
abbrev CS:=List CE×Nat
def dJ{α:Type}(f:Nat→α)(i:Nat)(x:α):Nat→α:=fun j=>if j=i then x else f j
def jY(Q:Int→Int→List Nt)(i j:Int)(l:List Nt):Int→Int→List Nt:=fun a b=>if a=i∧b=j then l else Q a b
def dW(N:Nat)(Q:Int→Int→List Nt)(m:Int)(n:Nt):Int→Int→List Nt:=fun a b=>if a=m∧b≠m∧0≤b∧b<N then Q a b++[n] else Q a b
def mA(Q:Int→Int→List Nt):Nat→Nat→List Nt:=fun a b=>Q a b
theorem aIK(n:Nt):∀x∈n.cs,dV x.d=false:=by
 intro x hx
 unfold Nt.cs at hx
 rcases List.mem_append.1 hx with hx|hx
 ·obtain⟨s,_,rfl⟩:=List.mem_map.1 hx
  exact(by decide:dV 1=false)
 rw[List.mem_singleton.1 hx]
 exact(by decide:dV (-1)=false)
structure LI(l:List We)(P:Int)(N k:Nat)(S:Nat→CS)(Q:Int→Int→List Nt):Prop where
 st:∀i,StC P (S i).1 (S i).2 (10+7*k)
 rel:∀j,j<N→tQ l (cC (S 0).1) (cC (S (j+1)).1) (iG N (mA Q) j)
 up:∀s,cC (S 0).1 s≤10+7*k
 bk:∀j,j<N→aCs (iG N (mA Q) j)≤7*k
 fit:∀i j,∀n∈Q i j,n.made.length≤6∧n.cs.any (eR P)=false
 len:∀i j,(Q i j).length≤k
section
variable{l:List We}{P:Int}{N k:Nat}{S:Nat→CS}{Q:Int→Int→List Nt}
theorem LI.more(H:LI l P N k S Q):LI l P N (k+1) S Q:=
 ⟨fun i=>(H.st i).up (by omega),H.rel,fun s=>by have:=H.up s;omega,fun j hj=>by have:=H.bk j hj;omega,H.fit,fun i j=>by have:=H.len i j;omega⟩
theorem LI.small(H:LI l P N k S Q){j:Nat}(hj:j<N)(s:Sp):-(7*k:Int)≤cC (S (j+1)).1 s∧cC (S (j+1)).1 s≤10+14*k:=by
 have h1:=(H.rel j hj).sum s
 have h2:=(H.rel j hj).pos s
 have h3:=H.up s
 have h4:=aEG (iG N (mA Q) j) s
 have h5:=H.bk j hj
 omega
theorem aAb{c K:Nat}{m:List CE}(h:StC P m c K){n:Nt}(hm:n.made.length≤6)(hs:n.cs.any (eR P)=false)(h3:∀s,-100000≤cC m s∧cC m s≤100000):(aT P m c n.cs).1=0∧(∀s,cC (aT P m c n.cs).2.1 s=cC m s+n.at' s)∧StC P (aT P m c n.cs).2.1 (aT P m c n.cs).2.2 (K+7):=by
 have hl:n.cs.length≤7:=by rw[Nt.cs_len];omega
 have h0:(aT P m c n.cs).1=0:=aFu h hs (aIK n) (by omega) fun s=>by
  rw[aFA,tT]
  have:=aCt n s
  have:=h3 s
  omega
 exact⟨h0,fun s=>by rw[aBz h h0 (by omega),aFA],(h.add n.cs).up (by omega)⟩
theorem aFH{Q:Int→Int→List Nt}{i j:Nat}(hi:i<N){n:Nt}{r:List Nt}(h:Q i j=n::r):(iG N (mA Q) j).Perm (n::iG N (mA (jY Q i j r)) j):=
 aAX hi (fun k hk=>by unfold mA jY;rw[if_neg];rintro⟨e,_⟩;exact hk (by omega)) (by unfold mA jY;rw[if_pos ⟨rfl,rfl⟩,h])
theorem aCV{Q:Int→Int→List Nt}{i j j':Nat}(hj:j'≠j)(r:List Nt):iG N (mA (jY Q i j r)) j'=iG N (mA Q) j':=
 xU fun k=>by unfold mA jY;rw[if_neg];rintro⟨_,e⟩;exact hj (by omega)
theorem LI.deliver(H:LI l P N k S Q)(hk:k≤1000){i j:Nat}(hi:i<N)(hj:j<N){n:Nt}{r:List Nt}(h:Q i j=n::r):
 (aT P (S (j+1)).1 (S (j+1)).2 n.cs).1=0∧LI l P N (k+1) (dJ S (j+1) (aT P (S (j+1)).1 (S (j+1)).2 n.cs).2) (jY Q i j r):=by
 obtain⟨f1,f2⟩:=H.fit i j n (by rw[h];simp)
 obtain⟨a1,a2,a3⟩:=aAb (H.st (j+1)) f1 f2 fun s=>by have:=H.small hj s;omega
 refine⟨a1,⟨fun i'=>?_,fun j' hj'=>?_,fun s=>?_,fun j' hj'=>?_,fun a b m hm=>?_,fun a b=>?_⟩⟩
 ·unfold dJ;split
  ·exact a3.up (by omega)
  exact(H.st i').up (by omega)
 ·have e0:dJ S (j+1) (aT P (S (j+1)).1 (S (j+1)).2 n.cs).2 0=S 0:=if_neg (by omega)
  rw[e0]
  by_cases e:j'=j
  ·subst e
   have e1:dJ S (j'+1) (aT P (S (j'+1)).1 (S (j'+1)).2 n.cs).2 (j'+1)=(aT P (S (j'+1)).1 (S (j'+1)).2 n.cs).2:=if_pos rfl
   rw[e1]
   exact(H.rel j' hj').got (aFH hi h) a2
  have e1:dJ S (j+1) (aT P (S (j+1)).1 (S (j+1)).2 n.cs).2 (j'+1)=S (j'+1):=if_neg (by omega)
  rw[e1,aCV e]
  exact H.rel j' hj'
 ·have e0:dJ S (j+1) (aT P (S (j+1)).1 (S (j+1)).2 n.cs).2 0=S 0:=if_neg (by omega)
  rw[e0]
  have:=H.up s
  omega
 ·have h1:=H.bk j' hj'
  by_cases e:j'=j
  ·subst e
   have:=aBw (aFH hi h)
   rw[vN] at this
   omega
  rw[aCV e];omega
 ·unfold jY at hm
  split at hm
  ·exact H.fit i j m (by rw[h];exact List.mem_cons_of_mem n hm)
  exact H.fit a b m hm
 unfold jY
 split
 ·have:=H.len i j
  rw[h,List.length_cons] at this
  omega
 have:=H.len a b;omega
theorem aFC{Q:Int→Int→List Nt}{m j:Nat}(hm:m<N)(hj:j<N)(he:j≠m)(n:Nt):(iG N (mA (dW N Q m n)) j).Perm (n::iG N (mA Q) j):=
 aAX hm (fun k hk=>by unfold mA dW;rw[if_neg];rintro⟨e,_⟩;exact hk (by omega)) (by
  unfold mA dW
  rw[if_pos ⟨rfl,by omega,by omega,by omega⟩]
  exact List.perm_append_comm)
theorem aCK{Q:Int→Int→List Nt}{m:Nat}(n:Nt):iG N (mA (dW N Q m n)) m=iG N (mA Q) m:=
 xU fun k=>by unfold mA dW;rw[if_neg];rintro⟨_,e,_⟩;exact e rfl
theorem LI.deed(H:LI l P N k S Q)(hk:k≤1000){m:Nat}(hm:m<N){n:Nt}(hl:n.made.length≤6)(h1:1≤cC (S 0).1 n.took)(hf:∀u∈n.made,n.took≠u∧0≤u.p∧u.p<P∧u.t.ok=true∧Rch l n.took u):
 (aT P (S 0).1 (S 0).2 n.cs).1=0∧(aT P (S (m+1)).1 (S (m+1)).2 n.cs).1=0∧
   LI l P N (k+1) (dJ (dJ S 0 (aT P (S 0).1 (S 0).2 n.cs).2) (m+1) (aT P (S (m+1)).1 (S (m+1)).2 n.cs).2) (dW N Q m n):=by
 obtain⟨y,hy,hys⟩:=wY (l:=(S 0).1) (s:=n.took) (by omega)
 have hyr:=(H.st 0).right y hy
 rw[hys] at hyr
 have hstr:∀s:Sp,∀d:Int,0≤s.p→s.p<P→s.t.ok=true→eR P ⟨s,d⟩=false:=fun s d a1 a2 a3=>by
  unfold eR
  dsimp only
  rw[a3,decide_eq_false (show¬s.p<0 by omega),decide_eq_false (show¬s.p≥P by omega)]
  rfl
 have hs:n.cs.any (eR P)=false:=by
  rw[List.any_eq_false]
  intro x hx
  unfold Nt.cs at hx
  rcases List.mem_append.1 hx with hx|hx
  ·obtain⟨u,hu,rfl⟩:=List.mem_map.1 hx
   obtain⟨_,q1,q2,q3,_⟩:=hf u hu
   rw[hstr u 1 q1 q2 q3];simp
  rw[List.mem_singleton.1 hx,hstr n.took _ hyr.1 hyr.2.1 hyr.2.2];simp
 have hpos:∀s,0≤cC (S 0).1 s:=fun s=>(H.rel m hm).pos s
 obtain⟨a1,a2,a3⟩:=aAb (H.st 0) hl hs fun s=>by have:=hpos s;have:=H.up s;omega
 obtain⟨b1,b2,b3⟩:=aAb (H.st (m+1)) hl hs fun s=>by have:=H.small hm s;omega
 have hfit:aKZ l n:=⟨hyr.1,fun u hu=>⟨(hf u hu).1,(hf u hu).2.1,(hf u hu).2.2.2.2⟩⟩
 generalize hT:(aT P (S 0).1 (S 0).2 n.cs).2=T2 at*
 generalize hV:(aT P (S (m+1)).1 (S (m+1)).2 n.cs).2=V2 at*
 have e0:dJ (dJ S 0 T2) (m+1) V2 0=T2:=(if_neg (by omega)).trans (if_pos rfl)
 have em:dJ (dJ S 0 T2) (m+1) V2 (m+1)=V2:=if_pos rfl
 have eo:∀j,j≠0→j≠m+1→dJ (dJ S 0 T2) (m+1) V2 j=S j:=fun j h1 h2=>(if_neg h2).trans (if_neg h1)
 refine⟨a1,b1,⟨fun i'=>?_,fun j' hj'=>?_,fun s=>?_,fun j' hj'=>?_,fun a b x hx=>?_,fun a b=>?_⟩⟩
 ·by_cases h0:i'=0
  ·subst h0;rw[e0];exact a3.up (by omega)
  by_cases h2:i'=m+1
  ·subst h2;rw[em];exact b3.up (by omega)
  rw[eo i' h0 h2];exact(H.st i').up (by omega)
 ·rw[e0]
  by_cases e:j'=m
  ·subst e
   rw[em,aCK]
   exact(H.rel j' hj').own h1 a2 b2
  rw[eo (j'+1) (by omega) (by omega)]
  exact(H.rel j' hj').sent hfit h1 a2 (aFC hm hj' e n)
 ·rw[e0,a2]
  have:=H.up s
  have:=aCt n s
  omega
 ·have h2:=H.bk j' hj'
  by_cases e:j'=m
  ·subst e;rw[aCK];omega
  rw[aBw (aFC hm hj' e n),vN];omega
 ·unfold dW at hx
  split at hx
  ·rcases List.mem_append.1 hx with hx|hx
   ·exact H.fit a b x hx
   rw[List.mem_singleton.1 hx];exact⟨hl,hs⟩
  exact H.fit a b x hx
 have:=H.len a b
 unfold dW
 split
 ·rw[List.length_append,List.length_singleton];omega
 omega
end
end Go.Proofs.YtecepaehmojpgaaGreat
namespace Go.Proofs.YtecepaehmojpgaaGreat
open Go.RowKit
attribute [local irreducible] IntKind.wrap
def byB(s u:Sp)(p:Pa):Bool:=decide ((p.of s.t).2=0)&&(p.of s.t).1.le u.t
def rL(l:List Pa)(s u:Sp):Bool:= !decide (s=u)&&u.t.ok&&l.any (byB s u)
theorem aJH(p:Pa)(s u:Sp){h:Hp}{a b:Nat}(ha:h a=some (.arr (.agg 3) [s.v]))(hb:h b=some (.arr (.agg 3) [u.v])):
 aZ Tryz.prog 82 [p.v, .ptr a (.agg 3) 0 0, .ptr b (.agg 3) 0 0] h (.bool (byB s u p)):=by
 refine aU (fun L=>trivial) fun h' nx hh=>aD L.front_comes_1_low fun hd=>?_
 simp only[List.length_cons,List.length_nil,Nat.reduceAdd,Nat.reduceSub,List.replicate_succ,List.replicate_zero,List.cons_append,List.nil_append,V.undef]
 have c1:h' a=some (.arr (.agg 3) [.agg [.int .i64 s.p, .int .i64 s.t.e, .int .i64 s.t.r]]):=hh _ _ ha rfl
 have c2:h' b=some (.arr (.agg 3) [.agg [.int .i64 u.p, .int .i64 u.t.e, .int .i64 u.t.r]]):=hh _ _ hb rfl
 have n1:a<nx:=hd _ _ c1
 have n2:b<nx:=hd _ _ c2
 have C1:∀h,aZ Tryz.prog 83 [.agg [.bool p.n, .int .i64 p.a], .agg [.int .i64 s.t.e, .int .i64 s.t.r]] h (.tup [.agg [.int .i64 (p.of s.t).1.e, .int .i64 (p.of s.t).1.r],dO (p.of s.t).2]):=fun h=>vX p s.t h
 have C2:∀h,aZ Tryz.prog 84 [.agg [.int .i64 (p.of s.t).1.e, .int .i64 (p.of s.t).1.r], .agg [.int .i64 u.t.e, .int .i64 u.t.r]] h (.bool ((p.of s.t).1.le u.t)):=fun h=>wJ _ _ h
 have e1:(a=nx)=False:=eq_false (by omega)
 have e2:(b=nx)=False:=eq_false (by omega)
 have e3:(a=nx+1)=False:=eq_false (by omega)
 have e4:(b=nx+1)=False:=eq_false (by omega)
 have hv:=dP (p.of s.t).2
 unfold byB
 cases hz:decide ((p.of s.t).2=0) with
 |true=>
  rw[hz] at hv
  refine aue (aIB Pa.v.eq_1 c1 c2 n1 n2 hv e1 e2 e3 e4 Bool.true_and) ?_
  exact aG h' (by repeat (first|exact Hp.le_refl _|refine aJ hd ?_ (by omega) _|refine aK hd ?_ (by omega))) ⟨rfl,rfl⟩
 |false=>
  rw[hz] at hv
  refine aue (aIB Pa.v.eq_1 c1 c2 n1 n2 hv e1 e2 e3 e4 Bool.false_and) ?_
  exact aG h' (by repeat (first|exact Hp.le_refl _|refine aJ hd ?_ (by omega) _|refine aK hd ?_ (by omega))) ⟨rfl,rfl⟩
theorem aFr(o:Own)(l:List Pa)(hl:l.length≤1000)(s u:Sp)(h:Hp):
 aZ Tryz.prog 51 [.sl (.agg 2) o (l.map Pa.v),s.v,u.v] h (.bool (rL l s u)):=by
 refine aU (fun L=>trivial) fun h' nx hh=>aD L.front_comes_low fun hd=>?_
 simp only[List.length_cons,List.length_nil,Nat.reduceAdd,Nat.reduceSub,List.replicate_succ,List.replicate_zero,List.cons_append,List.nil_append,V.undef]
 have hcf:aZ Tryz.prog 85 [.sl (.agg 2) o (l.map Pa.v), .fn (.func 82) [] [.ptr nx (.agg 3) 0 0, .ptr (nx+1) (.agg 3) 0 0]] ((h'.set nx (.arr (.agg 3) [s.v])).set (nx+1) (.arr (.agg 3) [u.v])) (.bool (l.any (byB s u))):=
  dB Pa.v Pa.fits_v eS dR (byB s u) o l _ [.ptr nx (.agg 3) 0 0, .ptr (nx+1) (.agg 3) 0 0] _ (fun x _=>aJH x s u (by simp[Hp.set]) (by simp[Hp.set])) (by omega)
 have C1:∀h,aZ Tryz.prog 66 [.agg [.int .i64 u.t.e, .int .i64 u.t.r]] h (.bool u.t.ok):=fun h=>nC u.t h
 have hv:veq (.plain (.agg 3) [.int, .int, .int]) (.agg [.int .i64 s.p, .int .i64 s.t.e, .int .i64 s.t.r]) (.agg [.int .i64 u.p, .int .i64 u.t.e, .int .i64 u.t.r])=some (decide (s=u)):=aHx s u
 unfold rL
 cases hz:decide (s=u) with
 |true=>
  rw[hz] at hv
  refine aue (ee4 Sp.v.eq_1 hv Bool.not_true Bool.false_and) ?_
  exact aG h' (by repeat (first|exact Hp.le_refl _|refine aJ hd ?_ (by omega) _|refine aK hd ?_ (by omega))) ⟨rfl,rfl⟩
 |false=>
  rw[hz] at hv
  cases hr:u.t.ok with
  |false=>
   rw[hr] at C1
   refine aue (ee5 Sp.v.eq_1 hv Bool.not_false Bool.true_and Bool.false_and) ?_
   exact aG h' (by repeat (first|exact Hp.le_refl _|refine aJ hd ?_ (by omega) _|refine aK hd ?_ (by omega))) ⟨rfl,rfl⟩
  |true=>
   rw[hr] at C1
   have C5:=hcf
   refine aue (ee4 Sp.v.eq_1 hv Bool.not_false Bool.true_and) ?_
   exact aG h' (by repeat (first|exact Hp.le_refl _|refine aJ hd ?_ (by omega) _|refine aK hd ?_ (by omega))) ⟨rfl,rfl⟩
theorem aHf{l:List We}{s u:Sp}(h:rL (bG l s.p.toNat u.p.toNat) s u=true):s≠u∧u.t.ok=true∧Rch l s u:=by
 unfold rL at h
 rw[Bool.and_eq_true,Bool.and_eq_true,Bool.not_eq_true',decide_eq_false_iff_not] at h
 obtain⟨⟨h1,h2⟩,h3⟩:=h
 obtain⟨p,hp,hb⟩:=List.any_eq_true.1 h3
 unfold byB at hb
 rw[Bool.and_eq_true,decide_eq_true_eq] at hb
 obtain⟨v,v1,v2⟩:=(lT l _ _).val p hp
 refine⟨h1,h2,v,v1,?_⟩
 rw[xM _ v2,←aHZ hb.1]
 exact hb.2
end Go.Proofs.YtecepaehmojpgaaGreat
namespace Go.Proofs.YtecepaehmojpgaaGreat
open Go.RowKit
attribute [local irreducible] IntKind.wrap
def cY(l:List Sp)(d:Int):List Cg:=l.map fun s=>⟨s,d⟩
set_option maxRecDepth 100000 in
set_option maxHeartbeats 4000000 in
theorem nR(o:Own)(l:List Sp)(d:Int)(hl:l.length≤100000)(h':Hp)(nx:Nat):
 aW Tryz.prog 37 [.sl (.agg 3) o (l.map Sp.v), .int .i64 d] h' nx fun v h'' _=>vQ nx h' (.agg 4) ((cY l d).map Cg.v) v h'':=by
 refine aD L.front_changes_low fun hd=>?_
 simp only[jL,jM,jA,jB,jN,jO,jP,jQ,V.undef]
 refine aue (@jK Sp V) ?_
 refine aY (fun q:Nat×Own=>aB 22 0 [(1, .int .i64 d),(5,cgs q.2 ((cY l d).take q.1)),(8, .sl (.agg 3) o (l.map Sp.v)),(9, .int .i64 l.length),(10, .int .i64 q.1)])
  (fun q hp nx1=>q.1≤l.length∧nx≤nx1∧aM hp nx1∧Hp.same nx h' hp∧Acc hp nx q.2 (((cY l d).take q.1).map Cg.v))
  (fun q=>l.length-q.1) (0, .nil) ⟨Nat.zero_le _,Nat.le_refl _,hd,Hp.same.rfl',Acc.nil⟩ (by simp only[WkL,aB,jH,jI,jJ,cgs,List.take_zero,List.map_nil,go_sem,reduceIte,jA,jB,jC,jD,reduceCtorEq,jE,jF]) ?_
 rintro⟨i,oo⟩ hp nx1 ⟨hi,hnx,hdm,hsm,hacc⟩
 generalize hQ:bZ _ _ _ _ _=Q0
 dsimp only at hi hacc
 simp only[aB,cgs,go_sem,reduceIte,jA,jB,jC,jD,reduceCtorEq,jE,jF]
 have hnl:(cY l d).length=l.length:=by simp[cY]
 rcases Nat.lt_or_ge i l.length with hlt|hge
 ·have hc1:decide ((i:Int)<(l.length:Int))=true:=dct
  have hw1:IntKind.i64.wrap ((i:Int)+1)=((i+1:Nat):Int):=wrp
  have hg:(l.map Sp.v).getD i (.tup [])= .agg [.int .i64 l[i].p, .int .i64 l[i].t.e, .int .i64 l[i].t.r]:=dM Sp.v _ l i hlt
  have htk:((cY l d).take (i+1)).map Cg.v=((cY l d).take i).map Cg.v++[.agg [.int .i64 l[i].p, .int .i64 l[i].t.e, .int .i64 l[i].t.r, .int .i64 d]]:=by
   rw[List.take_succ_eq_append_getElem (by omega),List.map_append]
   simp[cY,Cg.v]
  have hlen:(((cY l d).take i).map Cg.v).length=i:=by simp[hnl];omega
  refine aue (e8 hc1 hw1 hg hlt hlen (@jK Sp V) jG htk) ?_
  rw[←hQ]
  refine aI (i+1, .tok (nx1+3)) (by dsimp only;omega) ⟨hlt,by first|omega|(dsimp only;omega),dmo hdm,aKN hsm hacc,?_⟩ (by simp only[WkL,aB,jH,jI,jJ,cgs,htk,go_sem,reduceIte,jA,jB,jC,jD,reduceCtorEq,jE,jF])
  dsimp only
  rw[htk]
  exact Acc.new _ (by simp) (by omega)
 have hc1:decide ((i:Int)<(l.length:Int))=false:=dcf
 refine aue hc1 ?_
 rw[←hQ]
 refine au ?_
 have htl:(cY l d).take i=cY l d:=List.take_of_length_le (by omega)
 rw[htl] at hacc
 simp only[htl]
 rcases hacc with⟨he,rfl⟩|⟨hne,id,hid,rfl,ht⟩
 ·refine aG h' (hsm.le hd (Hp.le_refl _)) (.inl ⟨he,?_,rfl⟩)
  simp only[go_sem,reduceIte,jA,jB,jC,jD,reduceCtorEq,jE,jF]
  rw[he]
 refine aG (h'.set id .tip) ?_ (.inr ⟨hne,id,hid,?_,rfl⟩)
 ·intro m b hb
  simp only[Hp.set] at hb
  split at hb
  ·rename_i e;rw[e];show hp id=some b;rw[ht];exact hb
  exact(hsm.le hd (Hp.le_refl _)) m b hb
 simp only[go_sem,reduceIte,jA,jB,jC,jD,reduceCtorEq,jE,jF]
theorem aAC(o:Own)(l:List Sp)(d:Int)(hl:l.length≤100000)(hne:l≠ [])(h:Hp):pI Tryz.prog 37 [.sl (.agg 3) o (l.map Sp.v), .int .i64 d] h (.agg 4) ((cY l d).map Cg.v):=by
 refine aDv (fun L=>cF (Cg.names_v L) _) fun h' nx hh=>(nR o l d hl h' nx).mono ?_
 rintro v h2 n2 _ (⟨he,_⟩|⟨_,id,h1,h2,h3⟩)
 ·simp[cY] at he;exact absurd he hne
 exact⟨id,h1,h2,h3⟩
end Go.Proofs.YtecepaehmojpgaaGreat
namespace Go.Proofs.YtecepaehmojpgaaGreat
open Go.RowKit
attribute [local irreducible] IntKind.wrap
structure QE where
 i:Int
 j:Int
 o:Own
 l:List (Own×Nt)
 b:Nat
 deriving Inhabited
def wA(x:Own×Nt):V:= .sl (.agg 4) x.1 (x.2.cs.map Cg.v)
def qV(o:Own)(l:List (Own×Nt)):V:= .sl .leaf o (l.map wA)
def sG(i j:Int):V:= .agg [.int .i64 i, .int .i64 j]
def QE.me(x:QE):ME:=⟨sG x.i x.j,qV x.o x.l,x.b⟩
def eD(q:List QE)(i j:Int):Option Nat:=q.findIdx? fun x=>decide (x.i=i)&&decide (x.j=j)
def aCQ(q:List QE)(i j:Int):V:=match eD q i j with
 |some k=>qV (q.getD k default).o (q.getD k default).l
 |none=> .sl .leaf .nil []
def cN(q:List QE)(i j:Int):List (Own×Nt):=match eD q i j with
 |some k=>(q.getD k default).l
 |none=>[]
theorem aHD(a b c d:Int):veq (.plain (.agg 2) [.int, .int]) (sG a b) (sG c d)=some (decide (a=c)&&decide (b=d)):=by
 have h:veq (.plain (.agg 2) [.int, .int]) (sG a b) (sG c d)=some ((a==c)&&(b==d)):=rfl
 rw[h]
 congr 1
theorem pR(i j:Int):∀q:List QE,eJ (.plain (.agg 2) [.int, .int]) (sG i j) (q.map QE.me)=some (eD q i j)
 | []=>rfl
 |x::q=>by
  rw[List.map_cons,eJ,eD,List.findIdx?_cons]
  simp only[QE.me,aHD]
  have ih:=pR i j q
  unfold eD at ih
  by_cases h1:i=x.i
  ·by_cases h2:j=x.j
   ·subst h1;subst h2;simp
   have h2':¬x.j=j:=fun e=>h2 e.symm
   rw[h1] at ih
   simp[h1,h2,h2',ih]
  have h1':¬x.i=i:=fun e=>h1 e.symm
  simp[h1,h1',ih]
theorem aBV(q:List QE)(i j:Int):lR false (.sl .leaf .nil []) (q.map QE.me) (eD q i j)=aCQ q i j:=by
 unfold aCQ lR
 cases h:eD q i j with
 |none=>rfl
 |some k=>
  have hk:k<q.length:=by
   unfold eD at h
   obtain⟨hk,_⟩:=sZ h
   exact hk
  simp only[Bool.false_eq_true,if_false]
  have e1:(q.map QE.me).getD k default=QE.me q[k]:=by rw[List.getD_eq_getElem?_getD,List.getElem?_map,List.getElem?_eq_getElem hk];rfl
  have e2:q.getD k default=q[k]:=by rw[List.getD_eq_getElem?_getD,List.getElem?_eq_getElem hk];rfl
  rw[e1,e2]
  rfl
theorem aFE(q:List QE)(i j:Int):∃o,aCQ q i j=qV o (cN q i j):=by
 unfold aCQ cN
 cases eD q i j with
 |none=>exact⟨.nil,rfl⟩
 |some k=>exact⟨_,rfl⟩
structure fG(h:Hp)(wb tb nb:Nat)(lv:V)(vo:Own)(vs:List Nat)(q:List QE)(c:Nat):Prop where
 cell:h wb=some (.arr (.agg 4) [.agg [lv, .ptr tb (.agg 4) 0 0, .sl .leaf vo (vs.map fun v=> .ptr v (.agg 4) 0 0), .map nb]])
 mp:h nb=some (.mp (q.map QE.me) c)
theorem jV{h:Hp}{wb tb nb:Nat}{lv:V}{vo:Own}{vs:List Nat}{q:List QE}{c:Nat}(w:fG h wb tb nb lv vo vs q c)(i:Int):
 aZ Tryz.prog 40 [.ptr wb (.agg 4) 0 0, .int .i64 i] h (.bool (decide (0≤i)&&decide (i<vs.length))):=by
 refine aU (fun L=>trivial) fun h' nx hh=>aD L.front_World_member_low fun hd=>?_
 simp only[List.length_cons,List.length_nil,Nat.reduceAdd,Nat.reduceSub,List.replicate_succ,List.replicate_zero,List.cons_append,List.nil_append,V.undef]
 have c1:=hh _ _ w.cell rfl
 have n1:wb<nx:=hd _ _ c1
 by_cases h1:0≤i
 ·have h2:decide (i≥0)=true:=dct
  have h3:decide (0≤i)=true:=dct
  refine aue (ee6 c1 n1 h2 (@List.length_map Nat V) h3 Bool.true_and) ?_
  exact aG h' (by repeat (first|exact Hp.le_refl _|refine aJ hd ?_ (by omega) _|refine aK hd ?_ (by omega))) ⟨rfl,rfl⟩
 have h2:decide (i≥0)=false:=dcf
 have h3:decide (0≤i)=false:=dcf
 refine aue (ee5 c1 n1 h2 h3 Bool.false_and) ?_
 exact aG h' (by repeat (first|exact Hp.le_refl _|refine aJ hd ?_ (by omega) _|refine aK hd ?_ (by omega))) ⟨rfl,rfl⟩
theorem aBE{h:Hp}{wb tb nb:Nat}{lv:V}{vo:Own}{vs:List Nat}{q:List QE}{c:Nat}(w:fG h wb tb nb lv vo vs q c)(i j:Int):
 aZ Tryz.prog 26 [.ptr wb (.agg 4) 0 0, .int .i64 i, .int .i64 j] h (.int .i64 (cN q i j).length):=by
 refine aU (fun L=>trivial) fun h' nx hh=>aD L.front_World_Waiting_low fun hd=>?_
 simp only[List.length_cons,List.length_nil,Nat.reduceAdd,Nat.reduceSub,List.replicate_succ,List.replicate_zero,List.cons_append,List.nil_append,V.undef]
 have c1:=hh _ _ w.cell rfl
 have c2:=hh _ _ w.mp rfl
 have n1:wb<nx:=hd _ _ c1
 have n2:nb<nx:=hd _ _ c2
 have hf:eJ (.plain (.agg 2) [.int, .int]) (.agg [.int .i64 i, .int .i64 j]) (q.map QE.me)=some (eD q i j):=pR i j q
 have hg:=aBV q i j
 obtain⟨o,ho⟩:=aFE q i j
 rw[ho] at hg
 unfold qV at hg
 refine aue (ee7 c1 c2 n1 n2 hf hg (@List.length_map (Own×Nt) V)) ?_
 exact aG h' (by repeat (first|exact Hp.le_refl _|refine aJ hd ?_ (by omega) _|refine aK hd ?_ (by omega))) ⟨rfl,rfl⟩
theorem aBK{h:Hp}{wb tb nb:Nat}{lv:V}{vo:Own}{vs:List Nat}{q:List QE}{c:Nat}(w:fG h wb tb nb lv vo vs q c):
 aZ Tryz.prog 17 [.ptr wb (.agg 4) 0 0] h (.bool (decide (q=[]))):=by
 refine aU (fun L=>trivial) fun h' nx hh=>aD L.front_World_Settled_low fun hd=>?_
 simp only[List.length_cons,List.length_nil,Nat.reduceAdd,Nat.reduceSub,List.replicate_succ,List.replicate_zero,List.cons_append,List.nil_append,V.undef]
 have c1:=hh _ _ w.cell rfl
 have c2:=hh _ _ w.mp rfl
 have hz:(((q.length:Nat):Int)==0)=decide (q=[]):=by
  rw[Bool.eq_iff_iff];cases q<;>simp;omega
 refine aue (ee4 c1 c2 hz (@List.length_map QE ME)) ?_
 exact aG h' (by repeat (first|exact Hp.le_refl _|refine aJ hd ?_ (by omega) _|refine aK hd ?_ (by omega))) ⟨rfl,rfl⟩
theorem aBX{h:Hp}{wb tb nb:Nat}{lv:V}{vo:Own}{vs:List Nat}{q:List QE}{c:Nat}(w:fG h wb tb nb lv vo vs q c):
 aZ Tryz.prog 18 [.ptr wb (.agg 4) 0 0] h (.int .i64 vs.length):=by
 refine aU (fun L=>trivial) fun h' nx hh=>aD L.front_World_Members_low fun hd=>?_
 simp only[List.length_cons,List.length_nil,Nat.reduceAdd,Nat.reduceSub,List.replicate_succ,List.replicate_zero,List.cons_append,List.nil_append,V.undef]
 have c1:=hh _ _ w.cell rfl
 refine aue (ee2 c1 (@List.length_map Nat V)) ?_
 exact aG h' (by repeat (first|exact Hp.le_refl _|refine aJ hd ?_ (by omega) _|refine aK hd ?_ (by omega))) ⟨rfl,rfl⟩
set_option maxRecDepth 100000 in
set_option maxHeartbeats 4000000 in
theorem aGS{h:Hp}{wb tb nb:Nat}{lv:V}{vo:Own}{vs:List Nat}{q:List QE}{c:Nat}(w:fG h wb tb nb lv vo vs q c)(i:Int)(hv:vs.length≤100)(hq:∀j,(cN q i j).length<1000):
 aZ Tryz.prog 45 [.ptr wb (.agg 4) 0 0, .int .i64 i] h (.bool false):=by
 refine aU (fun L=>trivial) fun h' nx hh=>aD L.front_World_full_low fun hd=>?_
 simp only[List.length_cons,List.length_nil,Nat.reduceAdd,Nat.reduceSub,List.replicate_succ,List.replicate_zero,List.cons_append,List.nil_append,V.undef]
 have c1:=hh _ _ w.cell rfl
 have c2:=hh _ _ w.mp rfl
 have n1:wb<nx:=hd _ _ c1
 have n2:nb<nx:=hd _ _ c2
 refine aue (ee2 c1 (@List.length_map Nat V)) ?_
 refine aY (fun k:Nat=>aB 25 0 [(0, .ptr wb (.agg 4) 0 0),(1, .int .i64 i),(10, .int .i64 vs.length),(11, .int .i64 k)])
  (fun k hp nx1=>k≤vs.length∧nx≤nx1∧aM hp nx1∧Hp.same nx h' hp)
  (fun k=>vs.length-k) 0 ⟨Nat.zero_le _,Nat.le_refl _,hd,Hp.same.rfl'⟩ (by simp only[WkL,aB,Int.natCast_add,Int.natCast_one,Int.natCast_zero,Int.toNat_natCast,go_sem,reduceIte,Nat.reduceAdd,Nat.reduceSub,Nat.reduceLT,Nat.reduceLeDiff,reduceCtorEq,Nat.reduceEqDiff,Int.reduceToNat]) ?_
 rintro k hp nx1 ⟨hk,hnx,hdm,hsm⟩
 generalize hQ:bZ _ _ _ _ _=Q0
 simp only[aB,go_sem,reduceIte,Nat.reduceAdd,Nat.reduceSub,Nat.reduceLT,Nat.reduceLeDiff,reduceCtorEq,Nat.reduceEqDiff,Int.reduceToNat]
 have m1:hp wb=some (.arr (.agg 4) [.agg [lv, .ptr tb (.agg 4) 0 0, .sl .leaf vo (vs.map fun v=> .ptr v (.agg 4) 0 0), .map nb]]):=(hsm wb n1).trans c1
 have m2:hp nb=some (.mp (q.map QE.me) c):=(hsm nb n2).trans c2
 have k1:wb<nx1:=by omega
 have k2:nb<nx1:=by omega
 rcases Nat.lt_or_ge k vs.length with hlt|hge
 ·have hc1:decide ((k:Int)<(vs.length:Int))=true:=dct
  have hw1:IntKind.i64.wrap ((k:Int)+1)=((k+1:Nat):Int):=wrp
  have hf:eJ (.plain (.agg 2) [.int, .int]) (.agg [.int .i64 i, .int .i64 (k:Int)]) (q.map QE.me)=some (eD q i k):=pR i k q
  have hg:=aBV q i k
  obtain⟨o,ho⟩:=aFE q i k
  rw[ho] at hg
  unfold qV at hg
  have hl:=hq k
  have hc2:decide (((cN q i k).length:Int)≥1000)=false:=dcf
  refine aue (aKt hc1 hw1 m1 m2 k1 k2 hf hg hc2 (@List.length_map (Own×Nt) V)) ?_
  rw[←hQ]
  exact aI (k+1) (by omega) ⟨hlt,by first|omega|(dsimp only;omega),dmo hdm,kep hsm⟩ (by simp only[WkL,aB,Int.natCast_add,Int.natCast_one,Int.natCast_zero,Int.toNat_natCast,go_sem,reduceIte,Nat.reduceAdd,Nat.reduceSub,Nat.reduceLT,Nat.reduceLeDiff,reduceCtorEq,Nat.reduceEqDiff,Int.reduceToNat])
 have hc1:decide ((k:Int)<(vs.length:Int))=false:=dcf
 refine aue hc1 ?_
 rw[←hQ]
 refine au ?_
 exact aG h' (hsm.le hd (Hp.le_refl _)) ⟨rfl,rfl⟩
set_option maxRecDepth 100000 in
set_option maxHeartbeats 4000000 in
theorem aEO{h:Hp}{wb tb nb:Nat}{ot:Own}{rows:List V}{vo:Own}{vs:List Nat}{q:List QE}{c:Nat}(w:fG h wb tb nb (.sl .leaf ot rows) vo vs q c)(T:Nat→Nat→List Pa)(n:Nat)(hT:aHq T n rows)(hlen:∀a b,(T a b).length≤1000)(s u:Sp):
 aZ Tryz.prog 42 [.ptr wb (.agg 4) 0 0,s.v,u.v] h (.bool (decide (0≤u.p∧u.p<n∧0≤s.p∧s.p<n)&&rL (T s.p.toNat u.p.toNat) s u)):=by
 refine aU (fun L=>trivial) fun h' nx hh=>aD L.front_World_makes_low fun hd=>?_
 simp only[List.length_cons,List.length_nil,Nat.reduceAdd,Nat.reduceSub,List.replicate_succ,List.replicate_zero,List.cons_append,List.nil_append,V.undef]
 have c1:=hh _ _ w.cell rfl
 have n1:wb<nx:=hd _ _ c1
 have e1:(wb=nx)=False:=eq_false (by omega)
 have e2:(wb=nx+1)=False:=eq_false (by omega)
 obtain⟨hrl,hrows⟩:=hT
 by_cases h1:u.p<0
 ·have g1:decide (u.p<0)=true:=dct
  have g2:decide (0≤u.p∧u.p<n∧0≤s.p∧s.p<n)=false:=decide_eq_false (by omega)
  refine aue (ee7 Sp.v.eq_1 c1 n1 e1 e2 g1 g2) ?_
  exact aG h' (by repeat (first|exact Hp.le_refl _|refine aJ hd ?_ (by omega) _|refine aK hd ?_ (by omega))) ⟨rfl,rfl⟩
 have g1:decide (u.p<0)=false:=dcf
 by_cases h2:u.p≥n
 ·have g2:decide (u.p≥(rows.length:Int))=true:=by rw[hrl];exact dct
  have g3:decide (0≤u.p∧u.p<n∧0≤s.p∧s.p<n)=false:=decide_eq_false (by omega)
  refine aue (ee8 Sp.v.eq_1 c1 n1 e1 e2 g1 g2 g3) ?_
  exact aG h' (by repeat (first|exact Hp.le_refl _|refine aJ hd ?_ (by omega) _|refine aK hd ?_ (by omega))) ⟨rfl,rfl⟩
 have g2:decide (u.p≥(rows.length:Int))=false:=by rw[hrl];exact dcf
 by_cases h3:s.p<0
 ·have g3:decide (s.p<0)=true:=dct
  have g4:decide (0≤u.p∧u.p<n∧0≤s.p∧s.p<n)=false:=decide_eq_false (by omega)
  refine aue (ee9 Sp.v.eq_1 c1 n1 e1 e2 g1 g2 g3 g4) ?_
  exact aG h' (by repeat (first|exact Hp.le_refl _|refine aJ hd ?_ (by omega) _|refine aK hd ?_ (by omega))) ⟨rfl,rfl⟩
 have g3:decide (s.p<0)=false:=dcf
 by_cases h4:s.p≥n
 ·have g4:decide (s.p≥(rows.length:Int))=true:=by rw[hrl];exact dct
  have g5:decide (0≤u.p∧u.p<n∧0≤s.p∧s.p<n)=false:=decide_eq_false (by omega)
  refine aue (aKt Sp.v.eq_1 c1 n1 e1 e2 g1 g2 g3 g4 g5) ?_
  exact aG h' (by repeat (first|exact Hp.le_refl _|refine aJ hd ?_ (by omega) _|refine aK hd ?_ (by omega))) ⟨rfl,rfl⟩
 have g4:decide (s.p≥(rows.length:Int))=false:=by rw[hrl];exact dcf
 have g5:decide (0≤u.p∧u.p<n∧0≤s.p∧s.p<n)=true:=decide_eq_true (by omega)
 obtain⟨p,t⟩:=s
 obtain⟨r,t2⟩:=u
 dsimp only at h1 h2 h3 h4 g1 g2 g3 g4 g5⊢
 obtain⟨a,rfl⟩:∃a:Nat,p=a:=⟨p.toNat,by omega⟩
 obtain⟨b,rfl⟩:∃b:Nat,r=b:=⟨r.toNat,by omega⟩
 obtain⟨orow,cells,hrow,hcl,oc,hcell⟩:=hrows a b (by omega) (by omega)
 have k3:a<rows.length:=by omega
 have k4:b<cells.length:=by omega
 have D1:=fun h=>aFr oc (T a b) (hlen a b) ⟨(a:Int),t⟩ ⟨(b:Int),t2⟩ h
 refine aue (aKs Sp.v.eq_1 c1 n1 e1 e2 g1 g2 g3 g4 g5 hrow hcell k3 k4) ?_
 exact aG h' (by repeat (first|exact Hp.le_refl _|refine aJ hd ?_ (by omega) _|refine aK hd ?_ (by omega))) ⟨rfl,rfl⟩
theorem aBD{h:Hp}{wb tb nb:Nat}{lv:V}{vo:Own}{vs:List Nat}{q:List QE}{c:Nat}(w:fG h wb tb nb lv vo vs q c)(i:Nat)(hi:i<vs.length){es:List V}
 (hf:∀h',h.has h'→aZ Tryz.prog 46 [.ptr vs[i] (.agg 4) 0 0] h' (lst .leaf es)) (hes:∀L,bP L es):
 aZ Tryz.prog 20 [.ptr wb (.agg 4) 0 0, .int .i64 i] h (lst .leaf es):=by
 refine aU (fun L=>eV hes L) fun h' nx hh=>aD L.front_World_Fronts_low fun hd=>?_
 simp only[List.length_cons,List.length_nil,Nat.reduceAdd,Nat.reduceSub,List.replicate_succ,List.replicate_zero,List.cons_append,List.nil_append,V.undef]
 have c1:=hh _ _ w.cell rfl
 have hw:fG h' wb tb nb lv vo vs q c:=⟨c1,hh _ _ w.mp rfl⟩
 have n1:wb<nx:=hd _ _ c1
 have C5:=jV hw i
 have g1:(decide (0≤(i:Int))&&decide ((i:Int)<vs.length))=true:=by rw[dct,dct];rfl
 rw[g1] at C5
 have hg:(vs.map fun v=>V.ptr v (.agg 4) 0 0).getD i (.tup [])= .ptr vs[i] (.agg 4) 0 0:=dM (fun v=>V.ptr v (.agg 4) 0 0) _ vs i hi
 have C6:=hf h' hh
 refine aue (ee5 c1 n1 hg hi (@List.length_map Nat V)) ?_
 exact aG h' (by repeat (first|exact Hp.le_refl _|refine aJ hd ?_ (by omega) _|refine aK hd ?_ (by omega))) ⟨rfl,rfl⟩
theorem aCD{h':Hp}{nx wb tb nb:Nat}{lv:V}{vo:Own}{vs:List Nat}{q:List QE}{c:Nat}(w:fG h' wb tb nb lv vo vs q c){m c2:Nat}{P:Int}{wv lv2:V}{l:List CE}(hc:dC h' tb m P wv lv2 l c2):
 aW Tryz.prog 19 [.ptr wb (.agg 4) 0 0] h' nx fun v h'' nx2=>∃cb2 m2,v= .ptr cb2 (.agg 4) 0 0∧nx≤cb2∧nx≤m2∧dC h'' cb2 m2 P wv lv2 l c2∧(∀x,x<nx→h'' x=h' x)∧aM h'' nx2∧nx≤nx2:=by
 refine aD L.front_World_Truth_low fun hd=>?_
 simp only[List.length_cons,List.length_nil,Nat.reduceAdd,Nat.reduceSub,List.replicate_succ,List.replicate_zero,List.cons_append,List.nil_append,V.undef]
 have c1:=w.cell
 refine aue c1 ?_
 refine aX ((aCn hc).mono ?_)
 rintro v h3 nx3 hnx3 ⟨cb2,m2,rfl,q1,q2,q3,q4,q5,q6⟩
 unfold cR
 simp only[go_sem,reduceIte,Nat.reduceAdd,Nat.reduceSub,Nat.reduceLT,Nat.reduceLeDiff,reduceCtorEq,Nat.reduceEqDiff,Int.reduceToNat]
 refine au ?_
 exact aG h3 (Hp.le_refl _) ⟨cb2,m2,rfl,q1,q2,q3,q4,q5,q6⟩
theorem aJc{h':Hp}{nx wb tb nb:Nat}{lv:V}{vo:Own}{vs:List Nat}{q:List QE}{c:Nat}(w:fG h' wb tb nb lv vo vs q c)(i:Nat)(hi:i<vs.length){m c2:Nat}{P:Int}{wv lv2:V}{l:List CE}(hc:dC h' vs[i] m P wv lv2 l c2):
 aW Tryz.prog 28 [.ptr wb (.agg 4) 0 0, .int .i64 i] h' nx fun v h'' nx2=>∃cb2 m2,v= .ptr cb2 (.agg 4) 0 0∧nx≤cb2∧nx≤m2∧dC h'' cb2 m2 P wv lv2 l c2∧(∀x,x<nx→h'' x=h' x)∧aM h'' nx2∧nx≤nx2:=by
 refine aD L.front_World_View_low fun hd=>?_
 simp only[List.length_cons,List.length_nil,Nat.reduceAdd,Nat.reduceSub,List.replicate_succ,List.replicate_zero,List.cons_append,List.nil_append,V.undef]
 have c1:=w.cell
 have C5:=jV w i
 have g1:(decide (0≤(i:Int))&&decide ((i:Int)<vs.length))=true:=by rw[dct,dct];rfl
 rw[g1] at C5
 have hg:(vs.map fun v=>V.ptr v (.agg 4) 0 0).getD i (.tup [])= .ptr vs[i] (.agg 4) 0 0:=dM (fun v=>V.ptr v (.agg 4) 0 0) _ vs i hi
 refine aue (ee4 c1 hg hi (@List.length_map Nat V)) ?_
 refine aX ((aCn hc).mono ?_)
 rintro v h3 nx3 hnx3 ⟨cb2,m2,rfl,q1,q2,q3,q4,q5,q6⟩
 unfold cR
 simp only[go_sem,reduceIte,Nat.reduceAdd,Nat.reduceSub,Nat.reduceLT,Nat.reduceLeDiff,reduceCtorEq,Nat.reduceEqDiff,Int.reduceToNat]
 refine au ?_
 exact aG h3 (Hp.le_refl _) ⟨cb2,m2,rfl,q1,q2,q3,q4,q5,q6⟩
end Go.Proofs.YtecepaehmojpgaaGreat
namespace Go.Proofs.YtecepaehmojpgaaGreat
open Go.RowKit
def QE.at'(x:QE)(i j:Int):Bool:=decide (x.i=i)&&decide (x.j=j)
theorem gM(q:List QE)(i j:Int):eD q i j=q.findIdx? fun x=>x.at' i j:=rfl
theorem bV(x:QE)(q:List QE)(i j:Int):cN (x::q) i j=if x.at' i j=true then x.l else cN q i j:=by
 unfold cN
 rw[gM,gM,List.findIdx?_cons]
 by_cases h:x.at' i j=true
 ·rw[if_pos h,if_pos h];rfl
 rw[if_neg h,if_neg h]
 cases q.findIdx? (fun x=>x.at' i j) with
 |none=>rfl
 |some k=>rfl
def kF(q:List QE)(c:Nat)(i j:Int)(o:Own)(x:Own×Nt):List QE:=match eD q i j with
 |some k=>q.set k ⟨i,j,o,cN q i j++[x],(q.getD k default).b⟩
 |none=>q++[⟨i,j,o,[x],c⟩]
theorem pN(c:Nat)(i j:Int)(o:Own)(x:Own×Nt):kF [] c i j o x=[⟨i,j,o,[x],c⟩]:=rfl
theorem nD(y:QE)(q:List QE)(c:Nat)(i j:Int)(o:Own)(x:Own×Nt):kF (y::q) c i j o x=if y.at' i j=true then ⟨i,j,o,y.l++[x],y.b⟩::q else y::kF q c i j o x:=by
 unfold kF
 rw[bV,gM,gM,List.findIdx?_cons]
 by_cases h:y.at' i j=true
 ·rw[if_pos h,if_pos h,if_pos h];rfl
 rw[if_neg h,if_neg h,if_neg h]
 cases q.findIdx? (fun x=>x.at' i j) with
 |none=>rfl
 |some k=>rfl
theorem lV(i j:Int)(o:Own)(l:List (Own×Nt))(b:Nat):QE.at' ⟨i,j,o,l,b⟩ i j=true:=by simp[QE.at']
theorem mY{x:QE}{i j i' j':Int}(h:x.at' i j=true)(hn:¬(i'=i∧j'=j)):x.at' i' j'=false:=by
 unfold QE.at' at h⊢
 simp only[Bool.and_eq_true,decide_eq_true_eq] at h
 obtain⟨rfl,rfl⟩:=h
 rw[Bool.and_eq_false_iff,decide_eq_false_iff_not,decide_eq_false_iff_not]
 by_cases e:x.i=i'
 ·exact .inr fun e2=>hn ⟨e.symm,e2.symm⟩
 exact .inl e
theorem aCP(i j:Int)(o:Own)(x:Own×Nt)(c:Nat):∀q:List QE,cN (kF q c i j o x) i j=cN q i j++[x]
 | []=>by rw[pN,bV,if_pos (lV i j o _ c)];rfl
 |y::q=>by
  rw[nD,bV y]
  by_cases h:y.at' i j=true
  ·rw[if_pos h,if_pos h,bV,if_pos (lV i j o _ _)]
  rw[if_neg h,if_neg h,bV,if_neg h,aCP i j o x c q]
theorem vW{i j i' j':Int}(hn:¬(i'=i∧j'=j))(o:Own)(x:Own×Nt)(c:Nat):∀q:List QE,cN (kF q c i j o x) i' j'=cN q i' j'
 | []=>by
  rw[pN,bV,if_neg (by rw[mY (lV i j o _ c) hn];simp)]
 |y::q=>by
  rw[nD,bV y]
  by_cases h:y.at' i j=true
  ·rw[if_pos h,bV,if_neg (by rw[mY (lV i j o _ _) hn];simp),if_neg (by rw[mY h hn];simp)]
  rw[if_neg h,bV,vW hn o x c q]
def gF(q:List QE)(i j:Int):List QE:=match eD q i j with
 |some k=>q.set k ⟨i,j,(q.getD k default).o,(cN q i j).tail,(q.getD k default).b⟩
 |none=>q
theorem kZ(y:QE)(q:List QE)(i j:Int):gF (y::q) i j=if y.at' i j=true then ⟨i,j,y.o,y.l.tail,y.b⟩::q else y::gF q i j:=by
 unfold gF
 rw[bV,gM,gM,List.findIdx?_cons]
 by_cases h:y.at' i j=true
 ·rw[if_pos h,if_pos h,if_pos h];rfl
 rw[if_neg h,if_neg h,if_neg h]
 cases q.findIdx? (fun x=>x.at' i j) with
 |none=>rfl
 |some k=>rfl
theorem aCO(i j:Int):∀q:List QE,cN (gF q i j) i j=(cN q i j).tail
 | []=>rfl
 |y::q=>by
  rw[kZ,bV y]
  by_cases h:y.at' i j=true
  ·rw[if_pos h,if_pos h,bV,if_pos (lV i j _ _ _)]
  rw[if_neg h,if_neg h,bV,if_neg h,aCO i j q]
theorem oQ{i j i' j':Int}(hn:¬(i'=i∧j'=j)):∀q:List QE,cN (gF q i j) i' j'=cN q i' j'
 | []=>rfl
 |y::q=>by
  rw[kZ,bV y]
  by_cases h:y.at' i j=true
  ·rw[if_pos h,bV,if_neg (by rw[mY (lV i j _ _ _) hn];simp),if_neg (by rw[mY h hn];simp)]
  rw[if_neg h,bV,oQ hn q]
def wN(q:List QE)(i j:Int):List QE:=match eD q i j with
 |some k=>q.eraseIdx k
 |none=>q
theorem tU(y:QE)(q:List QE)(i j:Int):wN (y::q) i j=if y.at' i j=true then q else y::wN q i j:=by
 unfold wN
 rw[gM,gM,List.findIdx?_cons]
 by_cases h:y.at' i j=true
 ·rw[if_pos h,if_pos h];rfl
 rw[if_neg h,if_neg h]
 cases q.findIdx? (fun x=>x.at' i j) with
 |none=>rfl
 |some k=>rfl
theorem xS{i j i' j':Int}(hn:¬(i'=i∧j'=j)):∀q:List QE,cN (wN q i j) i' j'=cN q i' j'
 | []=>rfl
 |y::q=>by
  rw[tU,bV y]
  by_cases h:y.at' i j=true
  ·rw[if_pos h,if_neg (by rw[mY h hn];simp)]
  rw[if_neg h,bV,xS hn q]
def lN(q:List QE):Prop:=q.Pairwise fun x y=>¬(x.i=y.i∧x.j=y.j)
theorem xR{i j:Int}:∀{q:List QE},(∀x∈q,x.at' i j=false)→cN q i j=[]
 | [],_=>rfl
 |y::q,h=>by
  rw[bV,if_neg (by rw[h y (by simp)];simp)]
  exact xR fun x hx=>h x (List.mem_cons_of_mem y hx)
theorem aFF{i j:Int}:∀{q:List QE},lN q→cN (wN q i j) i j=[]
 | [],_=>rfl
 |y::q,h=>by
  obtain⟨h1,h2⟩:=List.pairwise_cons.1 h
  rw[tU]
  by_cases hy:y.at' i j=true
  ·rw[if_pos hy]
   refine xR fun x hx=>?_
   have h3:=h1 x hx
   cases e:x.at' i j with
   |false=>rfl
   |true=>
    unfold QE.at' at hy e
    simp only[Bool.and_eq_true,decide_eq_true_eq] at hy e
    exact absurd ⟨hy.1.trans e.1.symm,hy.2.trans e.2.symm⟩ h3
  rw[if_neg hy,bV,if_neg hy]
  exact aFF h2
theorem sE{q:List QE}{i j:Int}{k:Nat}(h:eD q i j=some k):k<q.length∧(q.getD k default).at' i j=true:=by
 obtain⟨hk,h1,_⟩:=sZ h
 refine⟨hk,?_⟩
 rw[List.getD_eq_getElem?_getD,List.getElem?_eq_getElem hk]
 exact h1
theorem aKJ{q:List QE}{k:Nat}(hk:k<q.length):((q.map QE.me).getD k default).b=(q.getD k default).b:=by
 rw[List.getD_eq_getElem?_getD,List.getElem?_map,List.getElem?_eq_getElem hk,List.getD_eq_getElem?_getD,List.getElem?_eq_getElem hk];rfl
theorem aEC{q:List QE}{i j:Int}{k:Nat}(h:eD q i j=some k)(c:Nat)(o:Own)(x:Own×Nt):(q.map QE.me).set k ⟨sG i j,qV o (cN q i j++[x]),((q.map QE.me).getD k default).b⟩=(kF q c i j o x).map QE.me:=by
 rw[aKJ (sE h).1]
 unfold kF
 rw[h,List.map_set]
 rfl
theorem aED{q:List QE}{i j:Int}(h:eD q i j=none)(c:Nat)(o:Own)(x:Own×Nt):q.map QE.me++[⟨sG i j,qV o [x],c⟩]=(kF q c i j o x).map QE.me:=by
 unfold kF
 rw[h,List.map_append]
 rfl
theorem aAr{q:List QE}{i j:Int}(h:eD q i j=none):cN q i j=[]:=by unfold cN;rw[h]
theorem aAq{q:List QE}{i j:Int}{k:Nat}(h:eD q i j=some k):cN q i j=(q.getD k default).l:=by unfold cN;rw[h]
theorem sC{q:List QE}{i j:Int}{k:Nat}(h:eD q i j=some k):aCQ q i j=qV (q.getD k default).o (cN q i j):=by unfold aCQ cN;rw[h]
theorem sD{q:List QE}{i j:Int}(h:eD q i j=none):aCQ q i j= .sl .leaf .nil []:=by unfold aCQ;rw[h]
theorem aEB{q:List QE}{i j:Int}{k:Nat}(h:eD q i j=some k):(q.map QE.me).set k ⟨sG i j,qV (q.getD k default).o (cN q i j).tail,((q.map QE.me).getD k default).b⟩=(gF q i j).map QE.me:=by
 rw[aKJ (sE h).1]
 unfold gF
 rw[h,List.map_set]
 rfl
theorem aGq{q:List QE}{i j:Int}{k:Nat}(h:eD q i j=some k):(q.map QE.me).eraseIdx k=(wN q i j).map QE.me:=by
 unfold wN
 rw[h]
 generalize q=l
 clear h
 induction l generalizing k with
 |nil=>rfl
 |cons x l ih=>cases k with
  |zero=>rfl
  |succ k=>exact congrArg (_:: ·) ih
theorem xQ(q:List QE)(i j:Int):eD (gF q i j) i j=eD q i j:=by
 induction q with
 |nil=>rfl
 |cons y q ih=>
  rw[kZ]
  rw[gM,gM] at ih⊢
  by_cases h:y.at' i j=true
  ·rw[if_pos h,List.findIdx?_cons,List.findIdx?_cons,lV,h]
  rw[if_neg h,List.findIdx?_cons,List.findIdx?_cons,ih]
structure QOK(n0:Nat)(h:Hp)(q:List QE):Prop where
 tk:∀x∈q,∃b,x.o= .tok b∧n0≤b∧h b=some .tip
 td:q.Pairwise fun x y=>x.o≠y.o
 key:lN q
 ne:∀x∈q,x.l≠ []
theorem QOK.nil(n0:Nat)(h:Hp):QOK n0 h []:=⟨by simp, .nil, .nil,by simp⟩
theorem zY{x:QE}{i j:Int}:x.at' i j=true↔x.i=i∧x.j=j:=by
 unfold QE.at';rw[Bool.and_eq_true,decide_eq_true_eq,decide_eq_true_eq]
theorem sV{y:QE}{q:List QE}{i j:Int}(h:lN (y::q))(hy:y.at' i j=true):∀x∈q,¬x.at' i j=true:=fun x hx hc=>by
 rw[zY] at hy hc
 exact(List.pairwise_cons.1 h).1 x hx ⟨hy.1.trans hc.1.symm,hy.2.trans hc.2.symm⟩
theorem pO{i j:Int}{o:Own}{x:Own×Nt}{c:Nat}:∀{q:List QE},lN q→∀y∈kF q c i j o x,(y∈q∧¬y.at' i j=true)∨∃l b,y=⟨i,j,o,l++[x],b⟩
 | [],_,y,hy=>by
  rw[pN] at hy
  exact .inr ⟨[],c,List.mem_singleton.1 hy⟩
 |z::q,hk,y,hy=>by
  rw[nD] at hy
  by_cases h:z.at' i j=true
  ·rw[if_pos h] at hy
   rcases List.mem_cons.1 hy with rfl|hy
   ·exact .inr ⟨z.l,z.b,rfl⟩
   exact .inl ⟨List.mem_cons_of_mem z hy,sV hk h y hy⟩
  rw[if_neg h] at hy
  rcases List.mem_cons.1 hy with rfl|hy
  ·exact .inl ⟨by simp,h⟩
  rcases pO (List.pairwise_cons.1 hk).2 y hy with h1|h1
  ·exact .inl ⟨List.mem_cons_of_mem z h1.1,h1.2⟩
  exact .inr h1
theorem qY{R:QE→QE→Prop}{i j:Int}{o:Own}{x:Own×Nt}{c:Nat}:∀{q:List QE},lN q→q.Pairwise R→(∀y∈q,¬y.at' i j=true→∀l b,R y ⟨i,j,o,l,b⟩∧R ⟨i,j,o,l,b⟩ y)→(kF q c i j o x).Pairwise R
 | [],_,_,_=>by rw[pN];exact List.pairwise_singleton ..
 |z::q,hk,hq,hn=>by
  obtain⟨q1,q2⟩:=List.pairwise_cons.1 hq
  have hk':=(List.pairwise_cons.1 hk).2
  rw[nD]
  by_cases h:z.at' i j=true
  ·rw[if_pos h]
   exact List.pairwise_cons.2 ⟨fun y hy=>(hn y (List.mem_cons_of_mem z hy) (sV hk h y hy) _ _).2,q2⟩
  rw[if_neg h]
  refine List.pairwise_cons.2 ⟨fun y hy=>?_,qY hk' q2 fun y hy=>hn y (List.mem_cons_of_mem z hy)⟩
  rcases pO hk' y hy with h1|⟨l,b,rfl⟩
  ·exact q1 y h1.1
  exact(hn z (by simp) h _ _).1
theorem lN.push{q:List QE}(h:lN q)(c:Nat)(i j:Int)(o:Own)(x:Own×Nt):lN (kF q c i j o x):=
 qY h h fun y _ hy l b=>⟨fun e=>hy (zY.2 e),fun e=>hy (zY.2 ⟨e.1.symm,e.2.symm⟩)⟩
theorem QOK.push{n0:Nat}{h h2:Hp}{q:List QE}(H:QOK n0 h q){c a:Nat}{i j:Int}{x:Own×Nt}(h0:n0≤a)(ha:h2 a=some .tip)(hf:∀y∈q,¬y.at' i j=true→y.o≠ .tok a∧∀b,y.o= .tok b→h2 b=h b):QOK n0 h2 (kF q c i j (.tok a) x):=by
 refine⟨fun y hy=>?_,qY H.key H.td fun y hy h l b=>⟨(hf y hy h).1,fun e=>(hf y hy h).1 e.symm⟩,H.key.push ..,fun y hy=>?_⟩
 ·rcases pO H.key y hy with h1|⟨l,b,rfl⟩
  ·obtain⟨b,h3,h5,h4⟩:=H.tk y h1.1
   exact⟨b,h3,h5,by rw[(hf y h1.1 h1.2).2 b h3];exact h4⟩
  exact⟨a,rfl,h0,ha⟩
 rcases pO H.key y hy with h1|⟨l,b,rfl⟩
 ·exact H.ne y h1.1
 simp
theorem pM{i j:Int}:∀{q:List QE},lN q→∀y∈gF q i j,(y∈q∧¬y.at' i j=true)∨∃z∈q,z.at' i j=true∧y=⟨i,j,z.o,z.l.tail,z.b⟩
 | [],_,y,hy=>by cases hy
 |z::q,hk,y,hy=>by
  rw[kZ] at hy
  by_cases h:z.at' i j=true
  ·rw[if_pos h] at hy
   rcases List.mem_cons.1 hy with rfl|hy
   ·exact .inr ⟨z,by simp,h,rfl⟩
   exact .inl ⟨List.mem_cons_of_mem z hy,sV hk h y hy⟩
  rw[if_neg h] at hy
  rcases List.mem_cons.1 hy with rfl|hy
  ·exact .inl ⟨by simp,h⟩
  rcases pM (List.pairwise_cons.1 hk).2 y hy with h1|⟨w,h1,h2⟩
  ·exact .inl ⟨List.mem_cons_of_mem z h1.1,h1.2⟩
  exact .inr ⟨w,List.mem_cons_of_mem z h1,h2⟩
theorem xO(i j:Int):∀q:List QE,(gF q i j).map (fun x=>(x.i,x.j,x.o))=q.map fun x=>(x.i,x.j,x.o)
 | []=>rfl
 |z::q=>by
  rw[kZ]
  by_cases h:z.at' i j=true
  ·rw[if_pos h]
   obtain⟨rfl,rfl⟩:=zY.1 h
   rfl
  rw[if_neg h,List.map_cons,List.map_cons,xO i j q]
theorem xP(R:Int×Int×Own→Int×Int×Own→Prop){q:List QE}{i j:Int}(h:q.Pairwise fun x y=>R (x.i,x.j,x.o) (y.i,y.j,y.o)):(gF q i j).Pairwise fun x y=>R (x.i,x.j,x.o) (y.i,y.j,y.o):=by
 have:=List.pairwise_map.2 h
 rw[←xO i j q] at this
 exact List.pairwise_map.1 this
theorem aGp{q:List QE}(hk:lN q){y:QE}(hy:y∈q){i j:Int}(h:y.at' i j=true):cN q i j=y.l:=by
 induction q with
 |nil=>cases hy
 |cons z q ih=>
  rw[bV]
  rcases List.mem_cons.1 hy with rfl|hy
  ·rw[if_pos h]
  rw[if_neg (fun e=>sV hk e y hy h),ih (List.pairwise_cons.1 hk).2 hy]
def qZ(q:List QE)(i j:Int):List QE:=if (cN q i j).tail=[] then wN (gF q i j) i j else gF q i j
theorem aHR(q:List QE)(i j:Int):(wN q i j).Sublist q:=by
 unfold wN
 split
 ·exact List.eraseIdx_sublist ..
 exact List.Sublist.refl _
theorem aCR{i j:Int}:∀{q:List QE},lN q→∀y∈wN q i j,y∈q∧¬y.at' i j=true
 | [],_,y,hy=>by cases hy
 |z::q,hk,y,hy=>by
  rw[tU] at hy
  by_cases h:z.at' i j=true
  ·rw[if_pos h] at hy
   exact⟨List.mem_cons_of_mem z hy,sV hk h y hy⟩
  rw[if_neg h] at hy
  rcases List.mem_cons.1 hy with rfl|hy
  ·exact⟨by simp,h⟩
  have:=aCR (List.pairwise_cons.1 hk).2 y hy
  exact⟨List.mem_cons_of_mem z this.1,this.2⟩
theorem lN.tail{q:List QE}(h:lN q)(i j:Int):lN (gF q i j):=xP (fun a b=>¬(a.1=b.1∧a.2.1=b.2.1)) h
theorem aHQ(q:List QE)(i j:Int):(qZ q i j).Sublist (gF q i j):=by
 unfold qZ
 split
 ·exact aHR ..
 exact List.Sublist.refl _
theorem QOK.pop{n0:Nat}{h:Hp}{q:List QE}(H:QOK n0 h q)(i j:Int):QOK n0 h (qZ q i j):=by
 have hs:=aHQ q i j
 refine⟨fun y hy=>?_,(xP (fun a b=>a.2.2≠b.2.2) H.td).sublist hs,(H.key.tail i j).sublist hs,fun y hy=>?_⟩
 ·rcases pM H.key y (hs.subset hy) with h1|⟨z,h1,_,rfl⟩
  ·exact H.tk y h1.1
  exact H.tk z h1
 unfold qZ at hy
 split at hy
 ·rename_i e
  obtain⟨h1,h2⟩:=aCR (H.key.tail i j) y hy
  rcases pM H.key y h1 with h3|⟨z,_,_,rfl⟩
  ·exact H.ne y h3.1
  exact absurd (lV i j _ _ _) h2
 rename_i e
 rcases pM H.key y hy with h3|⟨z,h3,h4,rfl⟩
 ·exact H.ne y h3.1
 rw[aGp H.key h3 h4] at e
 exact e
theorem aJi{q:List QE}(hk:lN q)(i j:Int):cN (qZ q i j) i j=(cN q i j).tail:=by
 unfold qZ
 split
 ·rename_i e
  rw[aFF (hk.tail i j),e]
 exact aCO i j q
theorem aEE{i j i' j':Int}(hn:¬(i'=i∧j'=j))(q:List QE):cN (qZ q i j) i' j'=cN q i' j':=by
 unfold qZ
 split
 ·rw[xS hn,oQ hn]
 exact oQ hn q
theorem aLa{q:List QE}{n0:Nat}{h:Hp}(H:QOK n0 h q)(he:∀i j,cN q i j=[]):q=[]:=by
 cases q with
 |nil=>rfl
 |cons y q=>
  have h1:=H.ne y (by simp)
  have h2:=he y.i y.j
  rw[bV,if_pos (zY.2 ⟨rfl,rfl⟩)] at h2
  exact absurd h2 h1
structure WI(n0:Nat)(h:Hp)(nx wb nb tb:Nat)(vo:Own)(vs:List Nat)(P:Int)(wv lc:V)(ot:Own)(rows:List V)(S:Nat→CS)(Q:Int→Int→List Nt):Prop where
 q:∃q c,fG h wb tb nb (.sl .leaf ot rows) vo vs q c∧QOK n0 h q∧∀i j,(cN q i j).map Prod.snd=Q i j
 dom:aM h nx
 c:∀i (hi:i<(tb::vs).length),∃m,m≠nb∧dC h (tb::vs)[i] m P wv lc (S i).1 (S i).2
 d:(tb::vs).Nodup
 lo:n0≤nb∧∀x∈tb::vs,n0≤x
def Fr(n0:Nat)(cs:List Nat)(h h2:Hp):Prop:=(∀x,x<n0→h2 x=h x)∧∀x k es,x∉cs→h x=some (.arr k es)→h2 x=h x
theorem Fr.refl(n0:Nat)(cs:List Nat)(h:Hp):Fr n0 cs h h:=⟨fun _ _=>rfl,fun _ _ _ _ _=>rfl⟩
theorem Fr.trans{n0:Nat}{cs:List Nat}{h h2 h3:Hp}(a:Fr n0 cs h h2)(b:Fr n0 cs h2 h3):Fr n0 cs h h3:=
 ⟨fun x hx=>(b.1 x hx).trans (a.1 x hx),fun x k es hx he=>(b.2 x k es hx ((a.2 x k es hx he).trans he)).trans (a.2 x k es hx he)⟩
theorem Fr.of{n0 nx:Nat}{cs:List Nat}{h h2:Hp}(hd:aM h nx)(hn:n0≤nx)(hk:∀x,x<nx→h2 x=h x):Fr n0 cs h h2:=⟨fun x hx=>hk x (by omega),fun x _ _ _ he=>hk x (hd _ _ he)⟩
section
variable{h h2:Hp}{n0 nx nx2 wb nb tb:Nat}{vo:Own}{vs:List Nat}{P:Int}{wv lc:V}{ot:Own}{rows:List V}{S:Nat→CS}{Q:Int→Int→List Nt}
theorem WI.t(H:WI n0 h nx wb nb tb vo vs P wv lc ot rows S Q):∃m,m≠nb∧dC h tb m P wv lc (S 0).1 (S 0).2:=H.c 0 (by simp)
theorem WI.v(H:WI n0 h nx wb nb tb vo vs P wv lc ot rows S Q)(i:Nat)(hi:i<vs.length):∃m,m≠nb∧dC h vs[i] m P wv lc (S (i+1)).1 (S (i+1)).2:=H.c (i+1) (by simpa using hi)
theorem aId{l:List Nat}(h:l.Nodup){i j:Nat}(hi:i<l.length)(hj:j<l.length)(e:i≠j):l[i]≠l[j]:=by
 have h:=List.pairwise_iff_getElem.1 h
 rcases Nat.lt_or_gt_of_ne e with k|k
 ·exact h i j hi hj k
 exact fun e2=>h j i hj hi k e2.symm
theorem pF{h:Hp}{a b:Nat}{k:Sh}{es:List V}{e2:List ME}{c:Nat}(h1:h a=some (.arr k es))(h2:h b=some (.mp e2 c)):a≠b:=fun e=>by rw[e,h2] at h1;cases h1
theorem aJe{h:Hp}{a b:Nat}{k:Sh}{es:List V}(h1:h a=some (.arr k es))(h2:h b=some .tip):a≠b:=fun e=>by rw[e,h2] at h1;cases h1
theorem aEr{h:Hp}{a b:Nat}{e2:List ME}{c:Nat}(h1:h a=some (.mp e2 c))(h2:h b=some .tip):a≠b:=fun e=>by rw[e,h2] at h1;cases h1
theorem aCr{a b c:V}{ot:Own}{rows:List V}{h:Hp}{wb cb:Nat}{P:Int}{wv lv:V}{m:Nat}(h1:h wb=some (.arr (.agg 4) [.agg [.sl .leaf ot rows,a,b,c]]))(h2:h cb=some (.arr (.agg 4) [iX P wv lv m])):wb≠cb:=fun e=>by
 rw[e,h2] at h1
 simp[iX] at h1
theorem WI.keep(H:WI n0 h nx wb nb tb vo vs P wv lc ot rows S Q)(hk:∀x,x<nx→h2 x=h x)(hd:aM h2 nx2):WI n0 h2 nx2 wb nb tb vo vs P wv lc ot rows S Q:=by
 obtain⟨q,c,hw,hq,hl⟩:=H.q
 refine⟨⟨q,c,⟨?_,?_⟩,⟨fun x hx=>?_,hq.td,hq.key,hq.ne⟩,hl⟩,hd,fun i hi=>?_,H.d,H.lo⟩
 ·rw[hk _ (H.dom _ _ hw.cell)];exact hw.cell
 ·rw[hk _ (H.dom _ _ hw.mp)];exact hw.mp
 ·obtain⟨b,h1,h0,h3⟩:=hq.tk x hx
  exact⟨b,h1,h0,by rw[hk _ (H.dom _ _ h3)];exact h3⟩
 obtain⟨m,hm,hc⟩:=H.c i hi
 exact⟨m,hm,by rw[hk _ (H.dom _ _ hc.cell)];exact hc.cell,by rw[hk _ (H.dom _ _ hc.mp)];exact hc.mp,hc.wf,hc.lf⟩
theorem WI.apply(H:WI n0 h nx wb nb tb vo vs P wv lc ot rows S Q)(i:Nat)(hi:i<(tb::vs).length)(hk:∀x,x<nx→x≠(tb::vs)[i]→h2 x=h x)(hd:aM h2 nx2){X:CS}
 {m2 m:Nat} (hm:m2=m∨nx≤m2) (hmb:m≠nb) (hc:dC h2 (tb::vs)[i] m2 P wv lc X.1 X.2):WI n0 h2 nx2 wb nb tb vo vs P wv lc ot rows (dJ S i X) Q:=by
 obtain⟨q,c,hw,hq,hl⟩:=H.q
 obtain⟨m0,hm0,hc0⟩:=H.c i hi
 have hnb:=H.dom _ _ hw.mp
 refine⟨⟨q,c,⟨?_,?_⟩,⟨fun x hx=>?_,hq.td,hq.key,hq.ne⟩,hl⟩,hd,fun j hj=>?_,H.d,H.lo⟩
 ·rw[hk _ (H.dom _ _ hw.cell) (aCr hw.cell hc0.cell)];exact hw.cell
 ·rw[hk _ hnb (pF hc0.cell hw.mp).symm];exact hw.mp
 ·obtain⟨b,h1,h0,h3⟩:=hq.tk x hx
  exact⟨b,h1,h0,by rw[hk _ (H.dom _ _ h3) (aJe hc0.cell h3).symm];exact h3⟩
 unfold dJ
 by_cases e:j=i
 ·subst e
  rw[if_pos rfl]
  exact⟨m2,by rcases hm with h|h<;>omega,hc⟩
 rw[if_neg e]
 obtain⟨m1,hm1,hc1⟩:=H.c j hj
 have hne:(tb::vs)[j]≠(tb::vs)[i]:=aId H.d hj hi e
 exact⟨m1,hm1,hc1.other H.dom hne (pF hc0.cell hc1.mp).symm hk⟩
theorem WI.queue(H:WI n0 h nx wb nb tb vo vs P wv lc ot rows S Q){q2:List QE}{c2:Nat}{Q2:Int→Int→List Nt}(hk:∀x k es,h x=some (.arr k es)→h2 x=h x)(hkm:∀x es k,x≠nb→h x=some (.mp es k)→h2 x=h x)(hd:aM h2 nx2)(hm:h2 nb=some (.mp (q2.map QE.me) c2))(hq2:QOK n0 h2 q2)(hl:∀i j,(cN q2 i j).map Prod.snd=Q2 i j):WI n0 h2 nx2 wb nb tb vo vs P wv lc ot rows S Q2:=by
 obtain⟨q,c,hw,hq,_⟩:=H.q
 refine⟨⟨q2,c2,⟨?_,hm⟩,hq2,hl⟩,hd,fun i hi=>?_,H.d,H.lo⟩
 ·rw[hk _ _ _ hw.cell];exact hw.cell
 obtain⟨m,hm,hc⟩:=H.c i hi
 exact⟨m,hm,by rw[hk _ _ _ hc.cell];exact hc.cell,by rw[hkm _ _ _ hm hc.mp];exact hc.mp,hc.wf,hc.lf⟩
end
end Go.Proofs.YtecepaehmojpgaaGreat
