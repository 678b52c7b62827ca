/-
Texts of this proof,one behind the other. No conditions.
-/
import Derived.Test.YthikfnmcjipobaaGreatKn
import Derived.Test.YthikfnmcjipobaaGreatKe
import Derived.Test.YthikfnmcjipobaaGreatKg
/-
Counts:what the statements say of them,as data. Plain laws. No conditions.
-/
namespace Go.Proofs.YthikfnmcjipobaaGreat
set_option linter.unusedSimpArgs false
set_option linter.unusedVariables false
set_option linter.unusedSectionVars false
open Go.RowKit Go.Sort
def mJ(l:List Cg)(s:Sp):Int:=(l.map fun x=>if x.s=s then x.d else 0).sum
theorem aCv(a b:List Cg)(s:Sp):mJ (a++b) s=mJ a s+mJ b s:=by simp[mJ,List.sum_append]
def mZ(l:List Cg):List Cg:=l.map fun x=>⟨x.s,-x.d⟩
theorem aGg(l:List Cg)(s:Sp):mJ (mZ l) s=-mJ l s:=by
 induction l with
 |nil=>rfl
 |cons x l ih=>
  have h1:mJ (x::l) s=(if x.s=s then x.d else 0)+mJ l s:=rfl
  have h2:mJ (mZ (x::l)) s=(if x.s=s then-x.d else 0)+mJ (mZ l) s:=rfl
  rw[h1,h2,ih]
  split<;>omega
theorem pE(n:Int):kA n=false↔-1000000≤n∧n≤1000000:=by
 unfold kA
 rw[Bool.not_eq_false',Bool.and_eq_true,decide_eq_true_eq,decide_eq_true_eq]
theorem sH(s:Sp):∀(l:List Cg) (n A:Int),(∀x∈l,kA x.d=false)→-A≤n→n≤A→A+1000000*l.length≤4000000000000000000→
 l.foldl (fun n x=>if x.s=s then IntKind.i64.wrap (n+x.d) else n) n=n+mJ l s
 | [],n,A,_,_,_,_=>by simp[mJ]
 |x::l,n,A,hw,h1,h2,h3=>by
  have hx:=(pE x.d).1 (hw x (by simp))
  simp only[List.length_cons] at h3
  have hs:mJ (x::l) s=(if x.s=s then x.d else 0)+mJ l s:=rfl
  rw[List.foldl_cons,hs]
  split
  ·rw[cS (by omega) (by omega),sH s l (n+x.d) (A+1000000) (fun y hy=>hw y (by simp[hy])) (by omega) (by omega) (by omega)]
   omega
  rw[sH s l n A (fun y hy=>hw y (by simp[hy])) h1 h2 (by omega)]
  omega
theorem aHd{l:List Cg}(hw:∀x∈l,kA x.d=false)(hl:l.length≤100000)(s:Sp):tot l s=mJ l s:=by
 have:=sH s l 0 0 hw (by omega) (by omega) (by omega)
 rw[Int.zero_add] at this
 exact this
theorem aCs{f:Sp→Int}{l:List Cg}(hw:∀x∈l,kA x.d=false)(hl:l.length≤100000){s:Sp}(hf:kA (f s)=false):yE f l s=f s+mJ l s:=by
 have:=(pE _).1 hf
 exact sH s l (f s) 1000000 hw (by omega) (by omega) (by omega)
def aGW(l:List CE):Prop:=∀y∈l,kA y.n=false
theorem aEY:kA 0=false:=by decide
theorem aEl{l:List CE}(h:aGW l)(s:Sp):kA (eR l s)=false:=by
 unfold eR
 cases hf:l.find? fun x=>decide (x.s=s) with
 |none=>exact aEY
 |some y=>exact h y (List.mem_of_find?_eq_some hf)
theorem vY{l:List CE}{c:Nat}(h:iE l c):aEA (eR l) (iF l):=yW h
theorem aDx{l l':List CE}{c c':Nat}(h:iE l c)(h':iE l' c')(e:∀s,eR l s=eR l' s):iF l=iF l':=by
 have h1:=vY h
 rw[funext e] at h1
 exact xU h1 (vY h')
theorem rR(l:List CE):(iF l).length=l.length:=by unfold iF;rw[List.length_map,pI]
theorem yJ{l:List CE}{s:Sp}(h:eR l s≠0):∃y∈l,y.s=s:=by
 apply Classical.byContradiction
 intro hn
 exact h (iT fun x hx e=>hn ⟨x,hx,e⟩)
theorem aDw{l:List CE}{c:Nat}(h:iE l c)(x:Cg):x∈iF l↔∃y∈l,y.s=x.s∧y.n=x.d:=by
 rw[(vY h).2]
 constructor
 ·rintro⟨h1,h2⟩
  obtain⟨y,hy,e⟩:=yJ (l:=l) (s:=x.s) (by rw[←h1];exact h2)
  refine⟨y,hy,e,?_⟩
  rw[h1,←e,gX h.key hy]
 rintro⟨y,hy,e1,e2⟩
 have:=gX h.key hy
 rw[e1] at this
 exact⟨by rw[this,e2],by rw[←e2];exact h.nz y hy⟩
theorem aDf{l:List CE}{c:Nat}(h:iE l c)(s:Sp):aIt (iF l) s=eR l s:=(vY h).get s
structure StC(P:Int)(l:List CE)(c K:Nat):Prop where
 ok:iE l c
 small:aGW l
 right:∀y∈l,0≤y.s.p∧y.s.p<P∧y.s.t.ok=true
 len:l.length≤K
theorem aEC(P:Int)(c:Nat):StC P [] c 0:=⟨mU c,(fun y hy=>by cases hy),(fun y hy=>by cases hy),Nat.le_refl _⟩
theorem StC.up{P:Int}{l:List CE}{c K K':Nat}(h:StC P l c K)(hk:K≤K'):StC P l c K':=⟨h.ok,h.small,h.right,Nat.le_trans h.len hk⟩
theorem aCx{P:Int}{x:Cg}(h:mX P x=false):0≤x.s.p∧x.s.p<P∧x.s.t.ok=true:=by
 unfold mX at h
 simp only[Bool.or_eq_false_iff,decide_eq_false_iff_not,Bool.not_eq_false'] at h
 exact⟨by omega,by omega,h.2⟩
theorem StC.add{P:Int}{l:List CE}{c K:Nat}(h:StC P l c K)(r:List Cg):StC P (dV P l c r).2.1 (dV P l c r).2.2 (K+r.length):=by
 unfold dV
 split
 ·exact h.up (Nat.le_add_right _ _)
 split
 ·exact h.up (Nat.le_add_right _ _)
 split
 ·exact h.up (Nat.le_add_right _ _)
 rename_i h1 h2 h3
 obtain⟨q1,q2,q3⟩:=nQ r h.ok
 refine⟨q1,fun y hy=>?_,fun y hy=>?_,by have:=h.len;dsimp only;omega⟩
 ·cases hw:kA y.n with
  |false=>rfl
  |true=>exact absurd (List.any_eq_true.2 ⟨y,hy,hw⟩) h3
 have hg:eR (gR l c r).1 y.s≠0:=by rw[gX q1.key hy];exact q1.nz y hy
 by_cases hr:∃x∈r,x.s=y.s
 ·obtain⟨x,hx,e⟩:=hr
  rw[←e]
  refine aCx ?_
  cases hq:mX P x with
  |false=>rfl
  |true=>exact absurd (List.any_eq_true.2 ⟨x,hx,hq⟩) h1
 rw[q2 y.s] at hg
 have:yE (eR l) r y.s=eR l y.s:=by
  have:∀(r:List Cg) (n:Int),(∀x∈r,x.s≠y.s)→r.foldl (fun n x=>if x.s=y.s then IntKind.i64.wrap (n+x.d) else n) n=n:=by
   intro r
   induction r with
   |nil=>intro n _;rfl
   |cons x r ih=>
    intro n h
    rw[List.foldl_cons,if_neg (h x (by simp))]
    exact ih n fun z hz=>h z (by simp[hz])
  exact this r _ fun x hx e=>hr ⟨x,hx,e⟩
 rw[this] at hg
 obtain⟨z,hz,e⟩:=yJ hg
 rw[←e]
 exact h.right z hz
theorem tU{P:Int}{l:List CE}{c:Nat}{r:List Cg}(h:(dV P l c r).1=0):r.any (mX P)=false∧(∀x∈r,kA x.d=false)∧(dV P l c r).2=gR l c r:=by
 unfold dV at h⊢
 split at h
 ·cases h
 split at h
 ·cases h
 split at h
 ·cases h
 rename_i h1 h2 h3
 rw[if_neg h1,if_neg h2,if_neg h3]
 refine⟨by simpa using h1,fun x hx=>?_,rfl⟩
 cases hw:kA x.d with
 |false=>rfl
 |true=>exact absurd (List.any_eq_true.2 ⟨x,hx,hw⟩) h2
theorem pR{P:Int}{l:List CE}{c K:Nat}{r:List Cg}(hc:StC P l c K)(h:(dV P l c r).1=0)(hr:r.length≤100000)(s:Sp):eR (dV P l c r).2.1 s=eR l s+mJ r s:=by
 obtain⟨_,h2,h3⟩:=tU h
 rw[h3,(nQ r hc.ok).2.1 s]
 exact aCs h2 hr (aEl hc.small s)
theorem xF{P:Int}{l:List CE}{c:Nat}{r:List Cg}(h:(dV P l c r).1≠0):(dV P l c r).2=(l,c):=by
 unfold dV at h⊢
 split
 ·rfl
 split
 ·rfl
 split
 ·rfl
 rename_i h1 h2 h3
 rw[if_neg h1,if_neg h2,if_neg h3] at h
 exact absurd rfl h
def sL(C:List Cg):List Cg:=C.filter fun x=>decide (x.d>0)
theorem wD{l:List CE}(s:Sp):s∈iB l↔∃y∈l,y.n>0∧y.s=s:=by
 unfold iB
 rw[List.mem_map]
 constructor
 ·rintro⟨y,hy,e⟩
  have:=List.mem_filter.1 hy
  exact⟨y,this.1,by simpa using this.2,e⟩
 rintro⟨y,hy,hp,e⟩
 exact⟨y,List.mem_filter.2 ⟨hy,by simpa using hp⟩,e⟩
theorem aGV{l:List CE}{c:Nat}(h:iE l c)(s:Sp):(∃x∈sL (iF l),x.s=s)↔s∈iB l:=by
 rw[wD]
 constructor
 ·rintro⟨x,hx,e⟩
  have:=List.mem_filter.1 hx
  obtain⟨y,hy,e1,e2⟩:=(aDw h x).1 this.1
  exact⟨y,hy,by rw[e2];simpa using this.2,e1.trans e⟩
 rintro⟨y,hy,hp,e⟩
 exact⟨⟨y.s,y.n⟩,List.mem_filter.2 ⟨(aDw h _).2 ⟨y,hy,rfl,rfl⟩,by simpa using hp⟩,e⟩
theorem aEk(l:List We)(a:Nat){t:Tm}(h:t.ok=true):∃p∈eW l a a,(p.of t).2=0∧(p.of t).1.le t=true:=by
 obtain⟨q,hq,hle⟩:=(xP l a a).dom _ (Val.nought l a)
 have hok:=((xP l a a).val q hq).ok
 refine⟨q,hq,?_⟩
 have hx:q.a=0:=by
  have h3:q.a≤0:=by
   unfold Pa.le at hle
   simp[Pa.nought] at hle
   exact of_decide_eq_true hle
  have h2:=hok
  unfold Pa.ok at h2
  simp only[Bool.and_eq_true,decide_eq_true_eq] at h2
  omega
 have ht:=h
 simp only[Tm.ok,Bool.and_eq_true,decide_eq_true_eq] at ht
 have e:(if q.n=true then q.a else q.a+t.r)=if q.n=true then 0 else t.r:=by
  rw[hx];split<;>omega
 have h3:Tm.ok ⟨t.e,if q.n=true then 0 else t.r⟩=true:=by
  simp only[Tm.ok,Bool.and_eq_true,decide_eq_true_eq]
  split<;>omega
 have hof:q.of t=(⟨t.e,if q.n=true then 0 else t.r⟩,0):=by
  unfold Pa.of
  rw[e,hok,h,h3]
  simp
 rw[hof]
 refine⟨rfl,?_⟩
 simp only[Tm.le,Bool.and_eq_true,decide_eq_true_eq]
 split<;>omega
theorem aCP(t:Tm)(x:Tm):∀l:List Pa,x∈nA t l↔∃p∈l,(p.of t).2=0∧(p.of t).1=x
 | []=>by simp[nA]
 |p::l=>by
  rw[nA,List.mem_append,aCP t x l]
  constructor
  ·rintro(h|⟨q,hq,h⟩)
   ·split at h
    ·rename_i h0
     exact⟨p,by simp,h0,(List.mem_singleton.1 h).symm⟩
    cases h
   exact⟨q,by simp[hq],h⟩
  rintro⟨q,hq,h1,h2⟩
  rcases List.mem_cons.1 hq with rfl|hq
  ·left;rw[if_pos h1,h2];simp
  exact .inr ⟨q,hq,h1,h2⟩
theorem aIl{p:Pa}{t:Tm}(h:(p.of t).2=0):(p.of t).1.ok=true:=by
 unfold Pa.of at h⊢
 by_cases h1:(!p.ok|| !t.ok)=true
 ·rw[if_pos h1] at h;exact absurd h (by show¬((2:Int)=0);omega)
 rw[if_neg h1] at h⊢
 by_cases h2:Tm.ok ⟨t.e,if p.n=true then p.a else p.a+t.r⟩=false
 ·rw[if_pos h2] at h;exact absurd h (by show¬((1:Int)=0);omega)
 rw[if_neg h2]
 simpa using h2
theorem aAM(l:List We){m:List CE}{s:Sp}(hs:s∈iB m)(h:s.t.ok=true):((ofT (frT (eW l) s.p.toNat (iB m))).any fun x=>x.le s.t)=true:=by
 obtain⟨p,hp,h1,h2⟩:=aEk l s.p.toNat h
 have hm:(p.of s.t).1∈frT (eW l) s.p.toNat (iB m):=List.mem_flatMap.2 ⟨s,hs,(aCP _ _ _).2 ⟨p,hp,h1,rfl⟩⟩
 obtain⟨z,hz,hle⟩:=aBl hm (aIl h1)
 exact List.any_eq_true.2 ⟨z,hz,Tm.le_trans hle h2⟩
theorem aGQ{a b:List Tm}(h:∀x∈b,x∈a):atM (ofT a) (ofT b)=true:=aHz.2 fun x hx=>aBl (h x (aGp hx).2) (aGp hx).1
theorem aHp(T:Nat→Nat→List Pa)(b:Nat){xs ys:List Sp}(h:∀s∈xs,s∈ys):∀t∈frT T b xs,t∈frT T b ys:=by
 intro t ht
 obtain⟨s,hs,h2⟩:=List.mem_flatMap.1 ht
 exact List.mem_flatMap.2 ⟨s,h s hs,h2⟩
theorem aGU{l l':List CE}{c c':Nat}(h:iE l c)(h':iE l' c')(hm:∀s,eR l s≤eR l' s):∀s∈iB l,s∈iB l':=by
 intro s hs
 obtain⟨y,hy,hp,rfl⟩:=(wD s).1 hs
 have h1:=gX h.key hy
 have h2:=hm y.s
 have h3:eR l' y.s>0:=by omega
 obtain⟨z,hz,e⟩:=yJ (l:=l') (s:=y.s) (by omega)
 have:=gX h'.key hz
 rw[e] at this
 exact(wD _).2 ⟨z,hz,by omega,e⟩
theorem aHq(T:Nat→Nat→List Pa)(b:Nat):frT T b []=[]:=rfl
theorem aEa{l:List CE}{c:Nat}(h:iE l c)(h0:∀s,eR l s=0):l=[]:=by
 cases l with
 |nil=>rfl
 |cons y l=>
  have:=gX h.key (show y∈y::l by simp)
  rw[h0] at this
  exact absurd this.symm (h.nz y (by simp))
theorem aGa{n:Int}(h:kA n=false):kA (-n)=false:=by
 rw[pE] at h⊢
 omega
theorem aGf{l:List Cg}(hw:∀x∈l,kA x.d=false)(hl:l.length≤10000):aFd (l++mZ l)=[]:=by
 have h:=aCw (l++mZ l)
 have h0:tot (l++mZ l)=fun _=>0:=by
  funext s
  rw[aHd ?_ (by simp[mZ];omega),aCv,aGg]
  ·omega
  intro x hx
  rcases List.mem_append.1 hx with hx|hx
  ·exact hw x hx
  obtain⟨y,hy,rfl⟩:=List.mem_map.1 hx
  exact aGa (hw y hy)
 rw[h0] at h
 cases he:aFd (l++mZ l) with
 |nil=>rfl
 |cons x r=>
  have:=(h.2 x).1 (by rw[he];simp)
  exact absurd this.1 this.2
end Go.Proofs.YthikfnmcjipobaaGreat
/-
Counts:Copy,maps.Equal,Same. No conditions.
-/
namespace Go.Proofs.YthikfnmcjipobaaGreat
open Nat renaming reduceAdd→jA,reduceSub→jB,reduceLT→jC,reduceLeDiff→jD,reduceEqDiff→jE
open Int renaming reduceToNat→jF,toNat_natCast→jG,natCast_add→jH,natCast_one→jI,natCast_zero→jJ
open List renaming length_map→jK,length_cons→jL,length_nil→jM,replicate_succ→jN,replicate_zero→jO,cons_append→jP,nil_append→jQ
set_option linter.unusedSimpArgs false
set_option linter.unusedVariables false
set_option linter.unusedSectionVars false
open Go.RowKit Go.Shelf
attribute [local irreducible] IntKind.wrap
attribute [local go_sem] Option.some.injEq Prod.mk.injEq false_and and_false Bool.true_eq_false mP jR jX gG iV if_true Bool.true_and mF dS iH gL dQ aA.ok aA.next LOp.ok LOp.next bC.ok bC.out aQ.ev bN iI cH bO cO V.undef Sh.size gH fW cK aA.dok aA.dres LOp.dok LOp.dout lI iD gI eX List.take_succ_cons List.take_zero List.take_nil List.drop_succ_cons List.drop_zero List.drop_nil List.set_cons_succ List.set_cons_zero List.getD_cons_succ List.getD_cons_zero jL jM List.map_cons List.map_nil List.all_cons List.all_nil List.mem_cons List.not_mem_nil jN jO jP jQ List.append_nil List.isEmpty_cons List.isEmpty_nil dW fJ hM Option.getD_some Option.isSome_some Option.isSome_none Nat.add_eq Nat.zero_add Nat.add_zero true_and and_true and_self true_implies implies_true false_implies forall_const forall_eq forall_eq_or_imp ne_eq not_false_eq_true not_true_eq_false Bool.not_true Bool.not_false decide_true decide_false Bool.and_true Bool.true_and Bool.and_false Bool.false_and true_or or_true false_or or_false eq_self Bool.false_eq_true mK iO gC aD fH eT eB dU cL dT aZ aX dN jG Int.toNat_zero List.take_length Hp.set_app Hp.del_app gW fV aA.plain LOp.isCall aA.dplain LOp.isStop eM kT gY lY fN V.gd_true V.gd_false fM eK eL fL bG aY aU fK eS beq_true beq_false dD dE dF cB cC bH bI cP eQ cE dK dH bJ dI dL eN eO bK dJ bF cD eP bP dG bQ bB gQ gO gP gN dM cG dX cR eG eF eE eD eC bX bW cZ cY cX cA bZ bY eJ eI eH dC dB dA cQ cF bS kM Hp.turn fT Option.isNone_some Option.isNone_none oL gF fO aA.plain2 LOp.isApp oM lP lQ iQ fS fR
def eqC(a b:List CE):Bool:=decide (a.length=b.length)&&a.all fun y=>decide (eR b y.s=y.n)
theorem aHt{a b:List CE}{c c':Nat}(h:iE a c)(h':iE b c'):eqC a b=true↔iF a=iF b:=by
 unfold eqC
 rw[Bool.and_eq_true,decide_eq_true_eq,List.all_eq_true]
 constructor
 ·rintro⟨h1,h2⟩
  have hget:∀y∈a,eR b y.s=y.n:=fun y hy=>by simpa using h2 y hy
  have hsub:∀s∈a.map (·.s),s∈b.map (·.s):=by
   intro s hs
   obtain⟨y,hy,rfl⟩:=List.mem_map.1 hs
   obtain⟨z,hz,e⟩:=yJ (l:=b) (s:=y.s) (by rw[hget y hy];exact h.nz y hy)
   exact List.mem_map.2 ⟨z,hz,e⟩
  have hsup:∀s∈b.map (·.s),s∈a.map (·.s):=by
   intro s hs
   apply Classical.byContradiction
   intro hn
   have:=pX (js:=s::a.map (·.s)) (l:=b.map (·.s)) (List.nodup_cons.2 ⟨hn,h.key⟩) (fun t ht=>by
    rcases List.mem_cons.1 ht with rfl|ht
    ·exact hs
    exact hsub t ht)
   simp only[jL,jK] at this
   omega
  refine aDx h h' fun s=>?_
  by_cases hs:s∈a.map (·.s)
  ·obtain⟨y,hy,rfl⟩:=List.mem_map.1 hs
   rw[gX h.key hy,hget y hy]
  rw[iT fun y hy e=>hs (List.mem_map.2 ⟨y,hy,e⟩),iT fun y hy e=>hs (hsup s (List.mem_map.2 ⟨y,hy,e⟩))]
 intro e
 refine⟨by rw[←rR a,e,rR],fun y hy=>?_⟩
 rw[decide_eq_true_eq,←aDf h',←e,aDf h,gX h.key hy]
theorem aHm{l:List CE}{c:Nat}(h:iE l c)(s:Sp):xM true (.int .i64 0) (l.map CE.me) (l.findIdx? fun x=>decide (x.s=s))= .tup [.int .i64 (eR l s), .bool (decide (eR l s≠0))]:=by
 cases hf:l.findIdx? (fun x=>decide (x.s=s)) with
 |none=>
  have hn:∀x∈l,x.s≠s:=fun x hx=>by simpa using List.findIdx?_eq_none_iff.1 hf x hx
  rw[iT hn];rfl
 |some j=>
  obtain⟨hj,h1,h2⟩:=aBZ hf
  have:(l.map CE.me).getD j default=CE.me l[j]:=by rw[List.getD_eq_getElem?_getD,List.getElem?_map,List.getElem?_eq_getElem hj];rfl
  have hs:l[j].s=s:=by simpa using h1
  have hg:=gX h.key (List.getElem_mem hj)
  rw[hs] at hg
  have hz:=h.nz l[j] (List.getElem_mem hj)
  simp only[xM,this,if_true,CE.me,hg]
  rw[decide_eq_true hz]
set_option maxRecDepth 100000 in
set_option maxHeartbeats 4000000 in
theorem aAI{h:Hp}{a b:List CE}{c c' m m':Nat}(hok:iE a c)(hok':iE b c')(h1:h m=some (.mp (a.map CE.me) c))(h2:h m'=some (.mp (b.map CE.me) c')):
 cM Tryz.prog 82 [.map m, .map m'] h (.bool (eqC a b)):=by
 refine bL (fun L=>trivial) fun h' nx hh=>aG L.maps_Equal_map_count_Stamp_int_map_count_Stamp_int_count_Stamp_int_low fun hd=>?_
 simp only[jL,jM,jA,jB,jN,jO,jP,jQ,V.undef]
 have c1:=hh _ _ h1 rfl
 have c2:=hh _ _ h2 rfl
 have n1:m<nx:=hd _ _ c1
 have n2:m'<nx:=hd _ _ c2
 have out:∀{x:Bool} {sl:List V} {hp:Hp} {nx2:Nat},eqC a b=x→h'.le hp→sl.getD 4 V.undef= .bool x→vD [aAA.slot 4] (fun v' h'' _=>v'= .bool (eqC a b)∧h''=h') .ret ⟨sl,hp,nx2⟩:=fun e hle e2=>aM h' hle ⟨by rw[e];exact e2,rfl⟩
 by_cases hlen:a.length=b.length
 case neg=>
  have hc:((a.length:Int) != (b.length:Int))=true:=bnt
  refine aue (e4 hc c1 c2 (@jK CE ME)) ?_
  exact out (by simp[eqC,hlen]) (leo hd) rfl
 case pos=>
 have hc:((a.length:Int) != (b.length:Int))=false:=bnf
 refine aue (e4 hc c1 c2 (@jK CE ME)) ?_
 refine vP rfl c1 ?_
 simp only[go_sem,reduceIte,jA,jB,jC,jD,reduceCtorEq,jE,jF]
 refine au ?_
 refine cI (fun _:List CE=>aD 34 0 [(1, .map m'),(15, .ptr nx .leaf 0 0)])
  (fun js hp nx1=>(js.map fun y=>(CE.me y).b).Nodup∧(∀y∈js,y∈a)∧(∀y∈js,eR b y.s=y.n)∧nx+1≤nx1∧aT hp nx1∧Hp.same nx h' hp∧hp nx=some (.mit m c (js.map fun y=>(CE.me y).b) c))
  (fun js=>a.length-js.length) [] ⟨by simp,by simp,by simp,by simp,dmo hd,kep Hp.same.rfl',by simp[Hp.set]⟩ (wkl trivial) ?_
 rintro js hp nx1 ⟨hjn,hjl,hjw,hn1,hdm,hsm,hit⟩
 generalize hQ:fF _ _ _ _ _=Q0
 have hmp:hp m=some (.mp (a.map CE.me) c):=by rw[hsm m n1];exact c1
 have hmp':hp m'=some (.mp (b.map CE.me) c'):=by rw[hsm m' n2];exact c2
 simp only[aD,go_sem,reduceIte,jA,jB,jC,jD,reduceCtorEq,jE,jF]
 repeat (first|with_reducible refine aN ?_|with_reducible refine aI ?_|with_reducible refine aP ?_|with_reducible refine aB ?_|with_reducible refine aC ?_|with_reducible refine aO ?_|with_reducible refine aK ?_)
 refine vQ rfl hit hmp (fun x hx=>by obtain⟨y,hy,rfl⟩:=List.mem_map.1 hx;exact hok.lt y hy) (Nat.le_refl _) ?_ ?_
 ·intro x hx hxn
  obtain⟨y,hy,rfl⟩:=List.mem_map.1 hx
  have hmore:=vI (fun y=>(CE.me y).b) hjn hxn
  have hshort:=sC (fun y=>(CE.me y).b) hjn hjl hy hxn
  have hfind:=yL CE.me hok.num hy
  simp only[go_sem,reduceIte,jA,jB,jC,jD,reduceCtorEq,jE,jF]
  refine au ?_
  refine vR (es:=a.map CE.me) (c:=c) (m:=m) (since:=c) (seen:=(js.map fun y=>(CE.me y).b)++[(CE.me y).b]) rfl ?_ ?_ (b:=(CE.me y).b) (by simp) hfind ?_
  ·simp only[Hp.set_app,reduceIte]
  ·simp only[Hp.set_app];rw[if_neg (by omega)];exact hmp
  have hyn:(CE.me y).v= .int .i64 y.n:=rfl
  have hyk:(CE.me y).k=y.s.v:=rfl
  have hsf:=Sp.fits_v y.s
  have hlp:fI (.agg 3) 0 y.s.v=y.s.v:=rfl
  have hd2:aT (hp.set nx (.mit m c ((js.map fun y=>(CE.me y).b)++[(CE.me y).b]) c)) nx1:=dmo hdm
  have hs2:Hp.same nx h' (hp.set nx (.mit m c ((js.map fun y=>(CE.me y).b)++[(CE.me y).b]) c)):=bV hsm (Nat.le_refl _) _
  have hit2:(hp.set nx (.mit m c ((js.map fun y=>(CE.me y).b)++[(CE.me y).b]) c)) nx=some (.mit m c ((js++[y]).map fun y=>(CE.me y).b) c):=by simp[Hp.set]
  have hm2:(hp.set nx (.mit m c ((js.map fun y=>(CE.me y).b)++[(CE.me y).b]) c)) m'=some (.mp (b.map CE.me) c'):=by simp only[Hp.set];rw[if_neg (by omega)];exact hmp'
  have hl2:h'.le (hp.set nx (.mit m c ((js.map fun y=>(CE.me y).b)++[(CE.me y).b]) c)):=hs2.le hd (Hp.le_refl _)
  generalize hp.set nx (.mit m c ((js.map fun y=>(CE.me y).b)++[(CE.me y).b]) c)=hp2 at hd2 hs2 hit2 hm2 hl2⊢
  simp only[hyn,hyk,go_sem,reduceIte,jA,jB,jC,jD,reduceCtorEq,jE,jF]
  have n3:m'<nx1+2:=by omega
  have n4:(m'=nx1+5)=False:=fls
  have n5:(m'=nx1+4)=False:=fls
  have n6:(m'=nx1+3)=False:=fls
  have hmf:=lW y.s b
  have hmg:=aHm hok' y.s
  by_cases hg:eR b y.s=y.n
  ·have hz:decide (y.n≠0)=true:=decide_eq_true (hok.nz y hy)
   have hne:(y.n != y.n)=false:=bnf
   rw[hg,hz] at hmg
   refine aue (e10 hsf hlp hm2 n3 n4 n5 n6 hmf hmg hne) ?_
   rw[←hQ]
   refine aL (js++[y]) (by simp only[List.length_append,jL,jM];omega) ⟨hmore,?_,?_,by first|omega|(dsimp only;omega),dmo hd2,kep hs2,?_⟩ (wkl trivial)
   ·intro q hq
    rcases List.mem_append.1 hq with hq|hq
    ·exact hjl q hq
    rw[List.mem_singleton.1 hq];exact hy
   ·intro q hq
    rcases List.mem_append.1 hq with hq|hq
    ·exact hjw q hq
    rw[List.mem_singleton.1 hq];exact hg
   have e1:∀k,(nx=nx1+k)=False:=fun k=>fls
   simp only[Hp.set_app,e1,if_false]
   exact hit2
  have he:eqC a b=false:=by
   unfold eqC
   rw[Bool.and_eq_false_iff]
   right
   rw[List.all_eq_false]
   exact⟨y,hy,by simpa using hg⟩
  by_cases h0:eR b y.s=0
  ·rw[h0] at hmg
   have hz:decide ((0:Int)≠0)=false:=by decide
   rw[hz] at hmg
   refine aue (e9 hsf hlp hm2 n3 n4 n5 n6 hmf hmg) ?_
   rw[←hQ]
   refine au ?_
   exact out he (lef hd hl2) rfl
  have hz:decide (eR b y.s≠0)=true:=decide_eq_true h0
  have hne:(y.n != eR b y.s)=true:=bnt
  rw[hz] at hmg
  refine aue (e10 hsf hlp hm2 n3 n4 n5 n6 hmf hmg hne) ?_
  rw[←hQ]
  refine au ?_
  exact out he (lef hd hl2) rfl
 intro hall
 have hperm:=yF (fun y=>(CE.me y).b) hok.num hjn hjl (fun y hy=>hall _ (List.mem_map.2 ⟨y,hy,rfl⟩))
 have he:eqC a b=true:=by
  unfold eqC
  rw[Bool.and_eq_true,decide_eq_true_eq,List.all_eq_true]
  exact⟨hlen,fun y hy=>by rw[decide_eq_true_eq];exact hjw y (hperm.mem_iff.2 hy)⟩
 simp only[go_sem,reduceIte,jA,jB,jC,jD,reduceCtorEq,jE,jF]
 refine au ?_
 rw[←hQ]
 refine au ?_
 exact out he (hsm.le hd (Hp.le_refl _)) rfl
theorem aEu{h:Hp}{cb cb' m m' c c':Nat}{P:Int}{o o':Own}{ws:List Wy}{lv lv':V}{a b:List CE}(hc:hZ h cb m P (wys o ws) lv a c)(hc':hZ h cb' m' P (wys o' ws) lv' b c')(hok:iE a c)(hok':iE b c')(hl:ws.length≤100000):
 cM Tryz.prog 26 [.ptr cb (.agg 4) 0 0, .ptr cb' (.agg 4) 0 0] h (.bool (eqC a b)):=by
 refine bL (fun L=>trivial) fun h' nx hh=>aG L.count_Same_low fun hd=>?_
 simp only[jL,jM,jA,jB,jN,jO,jP,jQ,V.undef]
 have c1:=hh _ _ hc.cell rfl
 have c2:=hh _ _ hc'.cell rfl
 have D1:=fun h=>(aBx Wy.v Wy.fits_v vN aDL o o' ws ws (by omega) h)
 have hq:decide (ws=ws)=true:=decide_eq_true rfl
 have hp:(P==P)=true:=bqt
 rw[hq] at D1
 simp only[qU,wys] at c1 c2
 refine aue (e3 c1 c2 hp) ?_
 refine cT (aAI hok hok' (h:=h') (hh _ _ hc.mp rfl) (hh _ _ hc'.mp rfl)) rfl (aS _) ?_
 simp only[go_sem,reduceIte,jA,jB,jC,jD,reduceCtorEq,jE,jF]
 refine au ?_
 exact aM h' (leo hd) ⟨rfl,rfl⟩
end Go.Proofs.YthikfnmcjipobaaGreat
/-
Counts:Fronts;Active and its iterator. No conditions.
-/
namespace Go.Proofs.YthikfnmcjipobaaGreat
open Nat renaming reduceAdd→jA,reduceSub→jB,reduceLT→jC,reduceLeDiff→jD,reduceEqDiff→jE
open Int renaming reduceToNat→jF,toNat_natCast→jG,natCast_add→jH,natCast_one→jI,natCast_zero→jJ
open List renaming length_map→jK,length_cons→jL,length_nil→jM,replicate_succ→jN,replicate_zero→jO,cons_append→jP,nil_append→jQ
set_option linter.unusedSimpArgs false
set_option linter.unusedVariables false
set_option linter.unusedSectionVars false
open Go.RowKit
attribute [local irreducible] IntKind.wrap
attribute [local go_sem] Option.some.injEq Prod.mk.injEq false_and and_false Bool.true_eq_false mP jR jX gG iV if_true Bool.true_and mF dS iH gL dQ aA.ok aA.next LOp.ok LOp.next bC.ok bC.out aQ.ev bN iI cH bO cO V.undef Sh.size gH fW cK aA.dok aA.dres LOp.dok LOp.dout lI iD gI eX List.take_succ_cons List.take_zero List.take_nil List.drop_succ_cons List.drop_zero List.drop_nil List.set_cons_succ List.set_cons_zero List.getD_cons_succ List.getD_cons_zero jL jM List.map_cons List.map_nil List.all_cons List.all_nil List.mem_cons List.not_mem_nil jN jO jP jQ List.append_nil List.isEmpty_cons List.isEmpty_nil dW fJ hM Option.getD_some Option.isSome_some Option.isSome_none Nat.add_eq Nat.zero_add Nat.add_zero true_and and_true and_self true_implies implies_true false_implies forall_const forall_eq forall_eq_or_imp ne_eq not_false_eq_true not_true_eq_false Bool.not_true Bool.not_false decide_true decide_false Bool.and_true Bool.true_and Bool.and_false Bool.false_and true_or or_true false_or or_false eq_self Bool.false_eq_true mK iO gC aD fH eT eB dU cL dT aZ aX dN jG Int.toNat_zero List.take_length Hp.set_app Hp.del_app gW fV aA.plain LOp.isCall aA.dplain LOp.isStop eM kT gY lY fN V.gd_true V.gd_false fM eK eL fL bG aY aU fK eS beq_true beq_false dD dE dF cB cC bH bI cP eQ cE dK dH bJ dI dL eN eO bK dJ bF cD eP bP dG bQ bB gQ gO gP gN dM cG dX cR eG eF eE eD eC bX bW cZ cY cX cA bZ bY eJ eI eH dC dB dA cQ cF bS kM Hp.turn fT Option.isNone_some Option.isNone_none oL gF fO aA.plain2 LOp.isApp oM lP lQ iQ fS fR
def oH(T:Nat→Nat→List Pa)(xs:List Sp)(k:Nat):List V:=(List.range k).map fun b=>lst (.agg 2) ((ofT (frT T b xs)).map Tm.v)
theorem aFE(T:Nat→Nat→List Pa)(xs:List Sp)(k:Nat):oH T xs (k+1)=oH T xs k++[lst (.agg 2) ((ofT (frT T k xs)).map Tm.v)]:=by simp[oH,List.range_succ]
theorem aFF(T:Nat→Nat→List Pa){xs ys:List Sp}(h:xs.Perm ys)(k:Nat):oH T xs k=oH T ys k:=by
 unfold oH
 exact List.map_congr_left fun b _=>by rw[aCH h]
set_option maxRecDepth 100000 in
set_option maxHeartbeats 4000000 in
theorem rN{h:Hp}{cb m c:Nat}{P:Int}{wv:V}{ot:Own}{rows:List V}{l:List CE}(hc:hZ h cb m P wv (.sl .leaf ot rows) l c)(hok:iE l c)(hl:l.length≤900)(T:Nat→Nat→List Pa)(n:Nat)(hP:P=n)(hT:aHD T n rows)(hlen:∀a b,(T a b).length≤1000)
 (hin:∀y∈l,0≤y.s.p∧y.s.p<n) (hn:n≤100000):
 cM Tryz.prog 24 [.ptr cb (.agg 4) 0 0] h (lst .leaf (oH T (iB l) n)):=by
 refine iG (fun L=>iJ (fun L=>eV (fun b=>iJ (fun L=>eV (Tm.names_v L) _) L) _) L) fun h' nx hh=>aG L.count_Counts_Fronts_low fun hd=>?_
 simp only[jL,jM,jA,jB,jN,jO,jP,jQ,V.undef]
 have hc':hZ h' cb m P wv (.sl .leaf ot rows) l c:=⟨hh _ _ hc.cell rfl,hh _ _ hc.mp rfl,hc.wf,hc.lf⟩
 have hcb:=hc'.cell
 have n1:cb<nx:=hd _ _ hcb
 have n2:m<nx:=hd _ _ hc'.mp
 refine au ?_
 refine bU ((xV hc' hok (by omega)).dom.mono ?_)
 rintro v h4 nx4 hnx4 ⟨⟨o,xs,rfl,hperm,hacc,hsm⟩,hd4,_⟩
 unfold gM
 simp only[go_sem,reduceIte,jA,jB,jC,jD,reduceCtorEq,jE,jF]
 have hc4:hZ h4 cb m P wv (.sl .leaf ot rows) l c:=⟨by rw[hsm cb n1];exact hcb,by rw[hsm m n2];exact hc'.mp,hc.wf,hc.lf⟩
 have hcb4:=hc4.cell
 have hxl:xs.length≤900:=by rw[hperm.length_eq];have:=pS l;omega
 have hxs:∀s∈xs,0≤s.p∧s.p<n:=fun s hs=>by
  have:=hperm.mem_iff.1 hs
  unfold iB at this
  obtain⟨y,hy,rfl⟩:=List.mem_map.1 this
  exact hin y (List.mem_filter.1 hy).1
 have hle4:h'.le h4:=hsm.le hd (Hp.le_refl _)
 have hn4:nx≤nx4:=hnx4
 clear hnx4 hacc
 rw[←aFF T hperm]
 subst hP
 have hcb5:=hcb4
 simp only[qU] at hcb5
 refine aue hcb5 ?_
 refine cI (fun q:Nat×Own=>aD 27 0 [(0, .ptr cb (.agg 4) 0 0),(3, .sl .leaf q.2 (oH T xs q.1)),(4, .sl (.agg 3) o (xs.map Sp.v)),(14, .int .i64 n),(15, .int .i64 q.1)])
  (fun q hp nx1=>q.1≤n∧nx4≤nx1∧aT hp nx1∧Hp.same nx4 h4 hp∧Acc hp nx4 q.2 (oH T xs q.1))
  (fun q=>n-q.1) (0, .nil) ⟨Nat.zero_le _,Nat.le_refl _,hd4,Hp.same.rfl',Acc.nil⟩ (wke (show oH T xs 0=[] from rfl)) ?_
 rintro⟨i,oo⟩ hp nx1 ⟨hi,hnx,hdm,hsm4,hacc⟩
 generalize hQ:fF _ _ _ _ _=Q0
 dsimp only at hi hacc
 simp only[aD,go_sem,reduceIte,jA,jB,jC,jD,reduceCtorEq,jE,jF]
 rcases Nat.lt_or_ge i n with hlt|hge
 ·have hc1:decide ((i:Int)<(n:Int))=true:=dct
  have hw:IntKind.i64.wrap ((i:Int)+1)=((i+1:Nat):Int):=wrp
  have hci:hZ hp cb m n wv (.sl .leaf ot rows) l c:=⟨by rw[hsm4 cb (by omega)];exact hcb4,by rw[hsm4 m (by omega)];exact hc4.mp,hc.wf,hc.lf⟩
  have hfl:=aFs (.agg 2) ((ofT (frT T i xs)).map Tm.v)
  have hfn:=aFE T xs i
  have hfe:(oH T xs i).length=i:=by simp[oH]
  refine aue (e2 hc1 hw) ?_
  refine aJ (aAb hci T n rfl hT hlen o xs hxl hxs i hlt) rfl (aS _) ?_
  simp only[go_sem,reduceIte,jA,jB,jC,jD,reduceCtorEq,jE,jF]
  refine aue (e3 hw hfl hfe) ?_
  rw[←hQ]
  refine aL (i+1, .tok (nx1+1)) (by dsimp only;omega) ⟨hlt,by first|omega|(dsimp only;omega),dmo hdm,aIo hsm4 hacc,?_⟩ (wke hfn)
  dsimp only
  rw[hfn]
  exact Acc.new _ (by simp) (by omega)
 have hc1:decide ((i:Int)<(n:Int))=false:=dcf
 have hin:i=n:=by omega
 subst hin
 refine aue hc1 ?_
 rw[←hQ]
 refine au ?_
 refine aM h' (Hp.le_trans hle4 (hsm4.le hd4 (Hp.le_refl _))) ⟨?_,Hp.le_refl _⟩
 simp only[go_sem,reduceIte,jA,jB,jC,jD,reduceCtorEq,jE,jF]
 rw[hacc.loose]
 rfl
theorem aCk(x:V)(hx:x.leafy=true)(h':Hp)(nx:Nat):
 bM Tryz.prog 27 [x] h' nx fun v h'' nx2=>v= .fn (.func 83) [] [.ptr nx .leaf 0 0]∧h''=h'.set nx (.arr .leaf [x])∧nx+1≤nx2:=by
 refine aG L.count_Counts_Active_low fun hd=>?_
 simp only[jL,jM,jA,jB,jN,jO,jP,jQ,V.undef]
 refine aue hx ?_
 refine aM _ (Hp.le_refl _) ⟨rfl,rfl,by first|omega|(dsimp only;omega)⟩
theorem aHr{α:Type}{ws:List α}{p:α→Bool}{i:Nat}(hi:i<ws.length)(hp:p ws[i]=true):(ws.filter p)[((ws.take i).filter p).length]?=some ws[i]:=by
 have e:ws=ws.take i++ws[i]::ws.drop (i+1):=by
  rw[List.getElem_cons_drop,List.take_append_drop]
 have h2:ws.filter p=(ws.take i).filter p++ws[i]::(ws.drop (i+1)).filter p:=by
  conv=>lhs;rw[e]
  rw[List.filter_append,List.filter_cons,if_pos hp]
 rw[h2,List.getElem?_append_right (Nat.le_refl _)]
 simp
def aAx(C:List Cg):List (List V):=(sL C).map fun x=>[x.s.v, .int .i64 x.d]
theorem aHC{l:List CE}{j:Nat}(hj:j<(nI l).length)(hp:eR l (nI l)[j]>0):
 ∃h:(sL ((iF l).take j)).length<(aAx (iF l)).length,(aAx (iF l))[(sL ((iF l).take j)).length]=[(nI l)[j].v, .int .i64 (eR l (nI l)[j])]:=by
 have hl:j<(iF l).length:=by rw[rR,←pI];exact hj
 have he:(iF l)[j]=⟨(nI l)[j],eR l (nI l)[j]⟩:=by simp[iF]
 have h1:=aHr (p:=fun x:Cg=>decide (x.d>0)) hl (by rw[he];simpa using hp)
 refine List.getElem?_eq_some_iff.1 ?_
 have h2:(sL (iF l))[(sL ((iF l).take j)).length]?=some (iF l)[j]:=h1
 unfold aAx
 rw[List.getElem?_map,h2,he]
 rfl
theorem aFT(l:List CE){j:Nat}(hj:j<(nI l).length):(sL ((iF l).take (j+1))).length=(sL ((iF l).take j)).length+if eR l (nI l)[j]>0 then 1 else 0:=by
 have hl:j<(iF l).length:=by rw[rR,←pI];exact hj
 have he:(iF l)[j]=⟨(nI l)[j],eR l (nI l)[j]⟩:=by simp[iF]
 rw[List.take_succ_eq_append_getElem hl,he]
 unfold sL
 rw[List.filter_append,List.length_append]
 by_cases h:eR l (nI l)[j]>0<;>simp[h]
set_option maxRecDepth 100000 in
set_option maxHeartbeats 4000000 in
theorem aDH{cb m c:Nat}{P:Int}{wv lv:V}{l:List CE}(bx:Nat)(hb:Hp)(h1:hb bx=some (.arr .leaf [.ptr cb (.agg 4) 0 0]))(hc:hZ hb cb m P wv lv l c)(hok:iE l c)(hl:l.length≤100000):
 aEx Tryz.prog 83 [.ptr bx .leaf 0 0] hb (aAx (iF l)):=by
 intro yn J D hbJ hnJ hnD hJ h0 nx0 h0J hd0
 refine aG L.count_Counts_Active_1_low fun hd=>?_
 simp only[jL,jM,jA,jB,jN,jO,jP,jQ,V.undef]
 have hbj:∀i h nx,J i h nx→h bx=some (.arr .leaf [.ptr cb (.agg 4) 0 0])∧h cb=some (.arr (.agg 4) [qU P wv lv m])∧h m=some (.mp (l.map CE.me) c):=fun i h nx hj=>⟨hbJ _ _ _ hj _ _ h1 rfl,hbJ _ _ _ hj _ _ hc.cell rfl,hbJ _ _ _ hj _ _ hc.mp rfl⟩
 obtain⟨c1,c2,c3⟩:=hbj _ _ _ h0J
 have n3:m<nx0:=hd _ _ c3
 have hcell:qU P wv lv m= .agg [.int .i64 P,wv,lv, .map m]:=rfl
 rw[hcell] at c2
 refine aue (e2 c1 c2) ?_
 refine bU ((aBs xN m _ _).mono ?_)
 rintro v h3 nx3 hnx3 ⟨rfl,rfl,hn3⟩
 unfold gM
 simp only[go_sem,reduceIte,jA,jB,jC,jD,reduceCtorEq,jE,jF]
 dsimp only at hn3
 have hk:=aBi l c hok (by omega) m nx0 (by omega)
 obtain⟨o2,ho2⟩:=mN (.agg 3) ((nI l).map Sp.v)
 rw[ho2] at hk
 refine aJ hk rfl (aBu ?_ ?_) ?_
 ·simp only[Hp.set_app];rw[if_neg (by omega)];exact c3
 ·simp only[Hp.set_app,reduceIte]
 have hkl:(nI l).length≤100000:=by rw[pI];omega
 have hat:=fun j hj hp=>aHC (l:=l) (j:=j) hj hp
 have htk:=fun j hj=>aFT l (j:=j) hj
 have hend:(aAx (iF l)).length=(sL ((iF l).take (nI l).length)).length:=by
  have:(iF l).length=(nI l).length:=by rw[rR,pI]
  rw[←this,List.take_length]
  simp[aAx]
 obtain⟨N,hN⟩:∃N:Nat→Nat,∀j,N j=(sL ((iF l).take j)).length:=⟨_,fun _=>rfl⟩
 simp only[←hN] at hat htk hend
 have hN0:N 0=0:=by rw[hN];rfl
 generalize hks:nI l=ks at hkl hat htk hend⊢
 generalize aAx (iF l)=xs at*
 refine aue (@jK Sp V) ?_
 refine cI (fun j:Nat=>aD 35 0 [(0, .yld yn),(1, .ptr bx .leaf 0 0),(13, .sl (.agg 3) o2 (ks.map Sp.v)),(14, .int .i64 ks.length),(15, .int .i64 j)])
  (fun j hp nx1=>j≤ks.length∧aT hp nx1∧∃hj,J (N j) hj nx1∧aT hj nx1∧hj.le hp)
  (fun j=>ks.length-j) 0 ⟨Nat.zero_le _,dmo hd0,h0,by rw[hN0];exact hnJ _ _ _ _ h0J (by first|omega|(dsimp only;omega)),dmo hd0,leo hd0⟩ (wkl trivial) ?_
 rintro j hp nx1 ⟨hj,hdm,hj0,hJi,hdj,hle⟩
 generalize hQ:fF _ _ _ _ _=Q0
 simp only[aD,go_sem,reduceIte,jA,jB,jC,jD,reduceCtorEq,jE,jF]
 obtain⟨f1,f2,f3⟩:=hbj _ _ _ hJi
 have d1:=hle _ _ f1
 have d2:=hle _ _ f2
 have d3:=hle _ _ f3
 rw[hcell] at d2
 rcases Nat.lt_or_ge j ks.length with hlt|hge
 ·have hc1:decide ((j:Int)<(ks.length:Int))=true:=dct
  have hg:(ks.map Sp.v).getD j (.tup [])= .agg [.int .i64 ks[j].p, .int .i64 ks[j].t.e, .int .i64 ks[j].t.r]:=lN Sp.v _ ks j hlt
  have hw:IntKind.i64.wrap ((j:Int)+1)=((j+1:Nat):Int):=wrp
  have hmf:lG (.plain (.agg 3) [.int, .int, .int]) (.agg [.int .i64 ks[j].p, .int .i64 ks[j].t.e, .int .i64 ks[j].t.r]) (l.map CE.me)=some (l.findIdx? fun x=>decide (x.s=ks[j])):=lW ks[j] l
  have hmg:=sB l ks[j]
  have q1:bx<nx1:=hdm _ _ d1
  have q2:cb<nx1:=hdm _ _ d2
  have q3:m<nx1:=hdm _ _ d3
  have hll:∀k,j<k→True:=fun _ _=>trivial
  have ht:=htk j hlt
  cases hpos:decide (eR l ks[j]>0) with
  |true=>
   have hpp:eR l ks[j]>0:=of_decide_eq_true hpos
   rw[if_pos hpp] at ht
   obtain⟨r1,r2⟩:=hat j hlt hpp
   refine aue (e12 hc1 hg hlt d1 d2 d3 q1 q2 q3 hmf hmg (e3 hpos (@jK Sp V) jG)) ?_
   refine tL rfl ?_
   have hy:=(hJ _ r1 hj0 (nx1+9) (hnJ _ _ _ _ hJi (by omega)) (hdj.up (by omega))).dom
   rw[r2] at hy
   refine(hy.weaken ?_).mono ?_
   ·exact lef hdj hle
   rintro v h3 nx3 hnx3 ⟨hq,hdm3,_⟩
   unfold gM
   rcases hq with⟨rfl,hj'⟩|⟨rfl,hD⟩
   ·simp only[go_sem,reduceIte,jA,jB,jC,jD,reduceCtorEq,jE,jF]
    refine aue hw ?_
    rw[←hQ]
    refine aL (j+1) (by omega) ⟨hlt,hdm3,h3,by rw[ht];exact hj',hdm3,Hp.le_refl _⟩ (wkl trivial)
   simp only[go_sem,reduceIte,jA,jB,jC,jD,reduceCtorEq,jE,jF]
   refine aue hw ?_
   rw[←hQ]
   refine au ?_
   exact aCB h3 (Hp.le_refl _) (.inr hD)
  |false=>
   have hpp:¬eR l ks[j]>0:=of_decide_eq_false hpos
   rw[if_neg hpp] at ht
   refine aue (e12 hc1 hg hlt d1 d2 d3 q1 q2 q3 hmf hmg (e4 hpos hw (@jK Sp V) jG)) ?_
   rw[←hQ]
   refine aL (j+1) (by omega) ⟨hlt,dmo hdm,hj0,by rw[ht];exact hnJ _ _ _ _ hJi (by first|omega|(dsimp only;omega)),hdj.up (by first|omega|(dsimp only;omega)),lef hdj hle⟩ (wkl trivial)
 have hc1:decide ((j:Int)<(ks.length:Int))=false:=dcf
 have hjl:j=ks.length:=by omega
 refine aue hc1 ?_
 rw[←hQ]
 refine au ?_
 refine⟨hj0,hle, .inl ?_⟩
 rw[hend,←hjl]
 exact hJi
/-
Counts:contrary,the document's Apply. No conditions.
-/
theorem aGP(l:List Cg)(i:Nat)(h:i<l.length):(l.map Cg.v).getD i (.tup [])= .agg [.int .i64 l[i].s.p, .int .i64 l[i].s.t.e, .int .i64 l[i].s.t.r, .int .i64 l[i].d]:=lN Cg.v _ l i h
set_option maxRecDepth 100000 in
theorem aAQ(o:Own)(l:List Cg)(hl:l.length≤100000)(hw:∀x∈l,kA x.d=false)(h:Hp):cM Tryz.prog 25 [cgs o l] h (lst (.agg 4) ((mZ l).map Cg.v)):=by
 refine iG (fun L=>iJ (fun L=>eV (Cg.names_v L) _) L) fun h' nx hh=>aG L.corollarylaw23_contrary_low fun hd=>?_
 simp only[jL,jM,jA,jB,jN,jO,jP,jQ,V.undef,cgs]
 refine aue (@jK Cg V) ?_
 refine cI (fun q:Nat×Own=>aD 23 0 [(3,cgs q.2 ((mZ l).take q.1)),(6,cgs o l),(7, .int .i64 l.length),(8, .int .i64 q.1)])
  (fun q hp nx1=>q.1≤l.length∧nx≤nx1∧aT hp nx1∧Hp.same nx h' hp∧Acc hp nx q.2 (((mZ l).take q.1).map Cg.v))
  (fun q=>l.length-q.1) (0, .nil) ⟨Nat.zero_le _,Nat.le_refl _,hd,Hp.same.rfl',Acc.nil⟩ (by simp only[WkL,aD,jH,jI,jJ,cgs,List.take_zero,List.map_nil,go_sem,reduceIte,jA,jB,jC,jD,reduceCtorEq,jE,jF]) ?_
 rintro⟨i,oo⟩ hp nx1 ⟨hi,hnx,hdm,hsm,hacc⟩
 generalize hQ:fF _ _ _ _ _=Q0
 dsimp only at hi hacc
 simp only[aD,cgs,go_sem,reduceIte,jA,jB,jC,jD,reduceCtorEq,jE,jF]
 have hnl:(mZ l).length=l.length:=by simp[mZ]
 rcases Nat.lt_or_ge i l.length with hlt|hge
 ·have hc1:decide ((i:Int)<(l.length:Int))=true:=dct
  have hw1:IntKind.i64.wrap ((i:Int)+1)=((i+1:Nat):Int):=wrp
  have hx:=(pE _).1 (hw l[i] (List.getElem_mem _))
  have hw2:IntKind.i64.wrap (0-l[i].d)=-l[i].d:=wrp
  have hg:=aGP l i hlt
  have htk:((mZ l).take (i+1)).map Cg.v=((mZ l).take i).map Cg.v++[.agg [.int .i64 l[i].s.p, .int .i64 l[i].s.t.e, .int .i64 l[i].s.t.r, .int .i64 (-l[i].d)]]:=by
   rw[List.take_succ_eq_append_getElem (by omega),List.map_append]
   simp[mZ,Cg.v]
  have hlen:(((mZ l).take i).map Cg.v).length=i:=by simp[hnl];omega
  refine aue (e9 hc1 hw1 hw2 hg hlt hlen (@jK Cg V) jG htk) ?_
  rw[←hQ]
  refine aL (i+1, .tok (nx1+3)) (by dsimp only;omega) ⟨hlt,by first|omega|(dsimp only;omega),dmo hdm,aIo hsm hacc,?_⟩ (by simp only[WkL,aD,jH,jI,jJ,cgs,htk,hw2,go_sem,reduceIte,jA,jB,jC,jD,reduceCtorEq,jE,jF])
  dsimp only
  rw[htk]
  exact Acc.new _ (by simp) (by omega)
 have hc1:decide ((i:Int)<(l.length:Int))=false:=dcf
 refine aue hc1 ?_
 rw[←hQ]
 refine au ?_
 have htl:(mZ l).take i=mZ l:=List.take_of_length_le (by omega)
 rw[htl] at hacc
 refine aM h' (hsm.le hd (Hp.le_refl _)) ⟨?_,Hp.le_refl _⟩
 simp only[htl,go_sem,reduceIte,jA,jB,jC,jD,reduceCtorEq,jE,jF]
 rw[hacc.loose]
 rfl
/-
Counts:law23's Is. No conditions.
-/
theorem hZ.keep{h h2:Hp}{cb m c:Nat}{P:Int}{wv lv:V}{l:List CE}{nx:Nat}(hc:hZ h cb m P wv lv l c)(hd:aT h nx)(hk:∀x,x<nx→h2 x=h x):hZ h2 cb m P wv lv l c:=
 ⟨(hk _ (hd _ _ hc.cell)).trans hc.cell,(hk _ (hd _ _ hc.mp)).trans hc.mp,hc.wf,hc.lf⟩
theorem hZ.has{h h2:Hp}{cb m c:Nat}{P:Int}{wv lv:V}{l:List CE}(hc:hZ h cb m P wv lv l c)(hk:h.has h2):hZ h2 cb m P wv lv l c:=⟨hk _ _ hc.cell rfl,hk _ _ hc.mp rfl,hc.wf,hc.lf⟩
end Go.Proofs.YthikfnmcjipobaaGreat
