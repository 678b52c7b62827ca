/-
Texts of this proof,one behind the other. No conditions.
-/
import Derived.Test.YtemjhgboialjpaaGreatKn
import Derived.Test.YtemjhgboialjpaaGreatKd
import Derived.Test.YtemjhgboialjpaaGreatKg
set_option linter.unusedSimpArgs false
set_option linter.unusedVariables false
set_option linter.unusedSectionVars false
open Nat renaming reduceAdd→jA,reduceSub→jB,reduceLT→jC,reduceLeDiff→jD,reduceEqDiff→jE
open Int renaming reduceToNat→jF,toNat_natCast→jG,natCast_add→jH,natCast_one→jI,natCast_zero→jJ
open List renaming length_map→jK,length_cons→jL,length_nil→jM,replicate_succ→jN,replicate_zero→jO,cons_append→jP,nil_append→jQ
namespace Go.Proofs.YtemjhgboialjpaaGreat
open Go.RowKit Go.Sort
def aBq(l:List Cg)(s:Sp):Int:=(l.map fun x=>if x.s=s then x.d else 0).sum
theorem aHo{l:List Cg}{s:Sp}(h:∀x∈l,x.s≠s):aBq l s=0:=by
 induction l with
 |nil=>rfl
 |cons x l ih=>
  have h1:aBq (x::l) s=(if x.s=s then x.d else 0)+aBq l s:=rfl
  rw[h1,if_neg (h x (by simp)),ih fun y hy=>h y (by simp[hy])]
  rfl
theorem wF(n:Int):dY n=false↔-1000000≤n∧n≤1000000:=by
 unfold dY
 rw[Bool.not_eq_false',Bool.and_eq_true,decide_eq_true_eq,decide_eq_true_eq]
theorem xC(s:Sp):∀(l:List Cg) (n A:Int),(∀x∈l,dY x.d=false)→-A≤n→n≤A→A+1000000*l.length≤4000000000000000000→
 l.foldl (fun n x=>if x.s=s then IntKind.i64.wrap (n+x.d) else n) n=n+aBq l s
 | [],n,A,_,_,_,_=>by simp[aBq]
 |x::l,n,A,hw,h1,h2,h3=>by
  have hx:=(wF x.d).1 (hw x (by simp))
  simp only[List.length_cons] at h3
  have hs:aBq (x::l) s=(if x.s=s then x.d else 0)+aBq l s:=rfl
  rw[List.foldl_cons,hs]
  split
  ·rw[aV (by omega) (by omega),xC s l (n+x.d) (A+1000000) (fun y hy=>hw y (by simp[hy])) (by omega) (by omega) (by omega)]
   omega
  rw[xC s l n A (fun y hy=>hw y (by simp[hy])) h1 h2 (by omega)]
  omega
theorem aJS{l:List Cg}(hw:∀x∈l,dY x.d=false)(hl:l.length≤100000)(s:Sp):tot l s=aBq l s:=by
 have:=xC s l 0 0 hw (by omega) (by omega) (by omega)
 rw[Int.zero_add] at this
 exact this
def aDG(l:List CE):Prop:=∀y∈l,dY y.n=false
theorem oA{l:List CE}{c:Nat}(h:dQ l c):aGL (cV l) (cY l):=aFR h
theorem aJC{l l':List CE}{c c':Nat}(h:dQ l c)(h':dQ l' c')(e:∀s,cV l s=cV l' s):cY l=cY l':=by
 have h1:=oA h
 rw[funext e] at h1
 exact yF h1 (oA h')
theorem iH(l:List CE):(cY l).length=l.length:=by unfold cY;rw[List.length_map,pY]
theorem aDq{l:List CE}{s:Sp}(h:cV l s≠0):∃y∈l,y.s=s:=by
 apply Classical.byContradiction
 intro hn
 exact h (eP fun x hx e=>hn ⟨x,hx,e⟩)
theorem qR{l:List CE}{c:Nat}(h:dQ l c)(x:Cg):x∈cY l↔∃y∈l,y.s=x.s∧y.n=x.d:=by
 rw[(oA h).2]
 constructor
 ·rintro⟨h1,h2⟩
  obtain⟨y,hy,e⟩:=aDq (l:=l) (s:=x.s) (by rw[←h1];exact h2)
  refine⟨y,hy,e,?_⟩
  rw[h1,←e,eU h.key hy]
 rintro⟨y,hy,e1,e2⟩
 have:=eU h.key hy
 rw[e1] at this
 exact⟨by rw[this,e2],by rw[←e2];exact h.nz y hy⟩
theorem aJD{l:List CE}{c:Nat}(h:dQ l c)(p:Int→Bool):(cY l).any (fun x=>p x.d)=l.any (fun y=>p y.n):=by
 rw[Bool.eq_iff_iff,List.any_eq_true,List.any_eq_true]
 constructor
 ·rintro⟨x,hx,hp⟩
  obtain⟨y,hy,_,e⟩:=(qR h x).1 hx
  exact⟨y,hy,by rw[e];exact hp⟩
 rintro⟨y,hy,hp⟩
 exact⟨⟨y.s,y.n⟩,(qR h _).2 ⟨y,hy,rfl,rfl⟩,hp⟩
theorem vH{l:List CE}{c:Nat}(h:dQ l c)(s:Sp):aDp (cY l) s=cV l s:=(oA h).get s
theorem aJB:cY []=[]:=List.eq_nil_of_length_eq_zero (by rw[iH];rfl)
theorem aFA(l:List CE):decide (cY l=[])=decide (l=[]):=by
 rw[decide_eq_decide,←List.length_eq_zero_iff,←List.length_eq_zero_iff,iH]
theorem aIF{l:List Cg}(hn:l.Pairwise fun a b=>a.s≠b.s)(hs:∀x∈l,dY x.d=false)(hl:l.length≤100000)(s:Sp):tot l s=aDp l s:=by
 rw[aJS hs hl]
 clear hs hl
 induction l with
 |nil=>rfl
 |cons x l ih=>
  have hn':=List.pairwise_cons.1 hn
  have h1:aBq (x::l) s=(if x.s=s then x.d else 0)+aBq l s:=rfl
  rw[h1]
  unfold aDp
  rw[List.find?_cons]
  by_cases e:x.s=s
  ·rw[if_pos e,aHo fun y hy e2=>hn'.1 y hy (e.trans e2.symm)]
   simp[e]
  rw[if_neg e,ih hn'.2]
  simp[e,aDp]
theorem aJU{l:List CE}{c:Nat}(h:dQ l c)(hs:aDG l)(hl:l.length≤100000)(s:Sp):tot (cY l) s=cV l s:=by
 rw[aIF ((oA h).1.imp fun{a b} hab e=>by rw[e,Sp.less_irrefl] at hab;cases hab) (fun x hx=>?_) (by rw[iH];exact hl),vH h]
 obtain⟨y,hy,_,e⟩:=(qR h x).1 hx
 rw[←e];exact hs y hy
theorem aFO(a b:List Cg)(s:Sp):tot (a++b) s=qW (tot a) b s:=by
 unfold tot qW
 rw[List.foldl_append]
theorem aGH{l:List CE}{c:Nat}(h:dQ l c)(hs:aDG l)(hl:l.length≤100000)(r:List Cg):cY (eM l c r).1=wJ (cY l++r):=by
 obtain⟨h1,h2,_⟩:=oE r h
 have h3:=oA h1
 refine yF h3 ?_
 have e:cV (eM l c r).1=tot (cY l++r):=funext fun t=>by
  rw[h2,aFO]
  unfold qW
  rw[aJU h hs hl]
 rw[e]
 exact aIK _
def gF(P:Int)(C r:List Cg):List Cg×Int:=
 if r.any (fO P)=true then (C,2) else if r.any (fun x=>dY x.d)=true then (C,1) else
 if (wJ (C++r)).any (fun x=>dY x.d)=true then (C,1) else (wJ (C++r),0)
theorem aHu(P:Int){l:List CE}{c:Nat}(h:dQ l c)(hs:aDG l)(hl:l.length≤100000)(r:List Cg):gF P (cY l) r=(cY (dJ P l c r).2.1,(dJ P l c r).1):=by
 have e1:=aGH h hs hl r
 have e2:=aJD (oE r h).1 dY
 unfold gF dJ
 rw[←e1,e2]
 (repeat' split)<;>rfl
structure StC(P:Int)(l:List CE)(c K:Nat):Prop where
 ok:dQ l c
 small:aDG l
 right:∀y∈l,0≤y.s.p∧y.s.p<P∧y.s.t.ok=true
 len:l.length≤K
theorem aJV(P:Int)(c:Nat):StC P [] c 0:=⟨aCp c,(fun y hy=>by cases hy),(fun y hy=>by cases hy),Nat.le_refl _⟩
theorem StC.up{P:Int}{l:List CE}{c K K':Nat}(h:StC P l c K)(hk:K≤K'):StC P l c K':=⟨h.ok,h.small,h.right,Nat.le_trans h.len hk⟩
theorem aDW{P:Int}{x:Cg}(h:fO P x=false):0≤x.s.p∧x.s.p<P∧x.s.t.ok=true:=by
 unfold fO at h
 simp only[Bool.or_eq_false_iff,decide_eq_false_iff_not,Bool.not_eq_false'] at h
 exact⟨by omega,by omega,h.2⟩
theorem StC.add{P:Int}{l:List CE}{c K:Nat}(h:StC P l c K)(r:List Cg):StC P (dJ P l c r).2.1 (dJ P l c r).2.2 (K+r.length):=by
 unfold dJ
 split
 ·exact h.up (Nat.le_add_right _ _)
 split
 ·exact h.up (Nat.le_add_right _ _)
 split
 ·exact h.up (Nat.le_add_right _ _)
 rename_i h1 h2 h3
 obtain⟨q1,q2,q3⟩:=oE r h.ok
 refine⟨q1,fun y hy=>?_,fun y hy=>?_,by have:=h.len;dsimp only;omega⟩
 ·cases hw:dY y.n with
  |false=>rfl
  |true=>exact absurd (List.any_eq_true.2 ⟨y,hy,hw⟩) h3
 have hg:cV (eM l c r).1 y.s≠0:=by rw[eU q1.key hy];exact q1.nz y hy
 by_cases hr:∃x∈r,x.s=y.s
 ·obtain⟨x,hx,e⟩:=hr
  rw[←e]
  refine aDW ?_
  cases hq:fO P x with
  |false=>rfl
  |true=>exact absurd (List.any_eq_true.2 ⟨x,hx,hq⟩) h1
 rw[q2 y.s] at hg
 have:qW (cV l) r y.s=cV l y.s:=by
  have:∀(r:List Cg) (n:Int),(∀x∈r,x.s≠y.s)→r.foldl (fun n x=>if x.s=y.s then IntKind.i64.wrap (n+x.d) else n) n=n:=by
   intro r
   induction r with
   |nil=>intro n _;rfl
   |cons x r ih=>
    intro n h
    rw[List.foldl_cons,if_neg (h x (by simp))]
    exact ih n fun z hz=>h z (by simp[hz])
  exact this r _ fun x hx e=>hr ⟨x,hx,e⟩
 rw[this] at hg
 obtain⟨z,hz,e⟩:=aDq hg
 rw[←e]
 exact h.right z hz
theorem aCO{P:Int}{l:List CE}{c:Nat}{r:List Cg}(h:(dJ P l c r).1≠0):(dJ P l c r).2=(l,c):=by
 unfold dJ at h⊢
 split
 ·rfl
 split
 ·rfl
 split
 ·rfl
 rename_i h1 h2 h3
 rw[if_neg h1,if_neg h2,if_neg h3] at h
 exact absurd rfl h
def fN(C:List Cg):List Cg:=C.filter fun x=>decide (x.d>0)
theorem aFJ{l:List CE}(s:Sp):s∈gS l↔∃y∈l,y.n>0∧y.s=s:=by
 unfold gS
 rw[List.mem_map]
 constructor
 ·rintro⟨y,hy,e⟩
  have:=List.mem_filter.1 hy
  exact⟨y,this.1,by simpa using this.2,e⟩
 rintro⟨y,hy,hp,e⟩
 exact⟨y,List.mem_filter.2 ⟨hy,by simpa using hp⟩,e⟩
theorem aBl{l:List CE}{c:Nat}(h:dQ l c)(s:Sp):(∃x∈fN (cY l),x.s=s)↔s∈gS l:=by
 rw[aFJ]
 constructor
 ·rintro⟨x,hx,e⟩
  have:=List.mem_filter.1 hx
  obtain⟨y,hy,e1,e2⟩:=(qR h x).1 this.1
  exact⟨y,hy,by rw[e2];simpa using this.2,e1.trans e⟩
 rintro⟨y,hy,hp,e⟩
 exact⟨⟨y.s,y.n⟩,List.mem_filter.2 ⟨(qR h _).2 ⟨y,hy,rfl,rfl⟩,by simpa using hp⟩,e⟩
theorem aAV(t:Tm)(l:List Pa):eI t l=lE t l:=by
 induction l with
 |nil=>rfl
 |cons p l ih=>rw[yE,ih];rfl
theorem aEy{α:Type}(f:α→List Tm):∀xs:List α,ofT (xs.flatMap fun x=>ofT (f x))=ofT (xs.flatMap f)
 | []=>rfl
 |x::xs=>by
  rw[List.flatMap_cons,List.flatMap_cons,←aEx (ofT (f x)),aIS,aEy f xs,aEx]
noncomputable def yT(P:Int)(ws:List Wy)(C:List Cg)(b:Int):List Tm:=ofT ((fN C).flatMap fun x=>ofT (eI x.s.t (dL P ws x.s.p b)))
theorem aCt{P:Int}{ws:List Wy}{n:Nat}{l:List We}(R:pD P ws n l){a b:Int}(ha:0≤a∧a<P)(hb:0≤b∧b<P):dL P ws a b=dB l a.toNat b.toNat:=by
 have hr:gX P ws=true:=(kE P ws).2 ⟨n,l,R⟩
 unfold dL
 rw[if_pos ⟨hr,ha.1,ha.2,hb.1,hb.2⟩]
 congr 1
 have h:=R.eq
 rw[h,List.map_map]
 conv=>rhs;rw[←List.map_id l]
 refine List.map_congr_left fun w _=>?_
 simp[We.wy,Wy.we]
theorem aHt{P:Int}{ws:List Wy}{n:Nat}{l:List We}(R:pD P ws n l){m:List CE}{c K:Nat}(h:StC P m c K)(b:Nat)(hb:b<n):yT P ws (cY m) b=ofT (frT (dB l) b (gS m)):=by
 have hP:=R.pl
 unfold yT
 rw[aEy]
 refine aCl fun x _=>?_
 have hin:∀y∈fN (cY m),0≤y.s.p∧y.s.p<P:=fun y hy=>by
  obtain⟨z,hz,_,e⟩:=(aFJ y.s).1 ((aBl h.ok y.s).1 ⟨y,hy,rfl⟩)
  have:=h.right z hz
  rw[e] at this
  exact⟨this.1,this.2.1⟩
 unfold frT
 rw[List.mem_flatMap,List.mem_flatMap]
 constructor
 ·rintro⟨y,hy,hx⟩
  refine⟨y.s,(aBl h.ok y.s).1 ⟨y,hy,rfl⟩,?_⟩
  rw[aCt R (hin y hy) (by omega),aAV] at hx
  simpa using hx
 rintro⟨s,hs,hx⟩
 obtain⟨y,hy,rfl⟩:=(aBl h.ok s).2 hs
 refine⟨y,hy,?_⟩
 rw[aCt R (hin y hy) (by omega),aAV]
 simpa using hx
end Go.Proofs.YtemjhgboialjpaaGreat
namespace Go.Proofs.YtemjhgboialjpaaGreat
open Go.RowKit Go.Shelf
attribute [local irreducible] IntKind.wrap
set_option maxRecDepth 100000 in
set_option maxHeartbeats 4000000 in
theorem aIk{h':Hp}{nx cb m c:Nat}{P:Int}{wv lv:V}{l:List CE}(hc:dF h' cb m P wv lv l c):
 aX Tryz.prog 21 [.ptr cb (.agg 4) 0 0] h' nx fun v h'' _=>∃cb2 m2,v= .ptr cb2 (.agg 4) 0 0∧nx≤m2∧nx≤cb2∧cb2≠m2∧h''=(h'.set m2 (.mp (l.map CE.me) c)).set cb2 (.arr (.agg 4) [iW P wv lv m2]):=by
 refine aD L.count_Counts_Copy_low fun hd=>?_
 simp only[jL,jM,jA,jB,jN,jO,jP,jQ,V.undef]
 have hcb:=hc.cell
 have hcm:=hc.mp
 have n1:cb<nx:=hd _ _ hcb
 have n2:m<nx:=hd _ _ hcm
 have hwf:=hc.wf
 have hlf:=hc.lf
 refine aus ?_
 refine aCr ?_
 obtain⟨X,hX⟩:∃X,X=Blk.mp (l.map CE.me) c:=⟨_,rfl⟩
 obtain⟨F,hF⟩:∃F:(Nat→Bool)→Nat→Nat→List V,∀D m2 b,F D m2 b=[.ptr cb (.agg 4) 0 0, .tup [],if D 15=true then .ptr b (.agg 4) 0 0 else .nilPtr, .ptr cb (.agg 4) 0 0, .bool false,
  if D 0=true then .ptr cb (.agg 4) 0 0 else .tup [],if D 1=true then .ptr cb (.agg 4) 0 0 else .tup [],if D 2=true then .ptr cb (.agg 4) 0 0 else .tup [],if D 3=true then .agg [.int .i64 P,wv] else .tup [],
  if D 4=true then .ptr cb (.agg 4) 0 0 else .tup [],if D 5=true then .ptr cb (.agg 4) 0 0 else .tup [],if D 6=true then .ptr cb (.agg 4) 0 2 else .tup [],if D 7=true then lv else .tup [],
  if D 8=true then .ptr cb (.agg 4) 0 0 else .tup [],if D 9=true then .ptr cb (.agg 4) 0 0 else .tup [],if D 10=true then .ptr cb (.agg 4) 0 3 else .tup [],if D 11=true then .map m else .tup [],
  if D 12=true then .map m2 else .tup [],if D 13=true then iW P wv lv m2 else .tup [],if D 14=true then .ptr b (.agg 4) 0 0 else .tup []]:=⟨_,fun _ _ _=>rfl⟩
 obtain⟨H,hH⟩:∃H:(Nat→Bool)→Nat→Nat→Hp,∀D m2 b,H D m2 b=if D 14=true then (h'.set m2 X).set b (.arr (.agg 4) [iW P wv lv m2]) else if D 12=true then h'.set m2 X else h':=⟨_,fun _ _ _=>rfl⟩
 refine⟨fun D s'=>∃nx' m2 b,s'=⟨F D m2 b,H D m2 b,nx'⟩∧nx≤nx'∧(D 12=true→nx≤m2∧m2<nx')∧(D 14=true→nx≤b∧b≠m2),⟨nx,0,0,by simp[hF,hH,V.undef],Nat.le_refl _,by simp,by simp⟩,?_,?_⟩
 ·rintro D i o deps s' hi hDi hdeps hcl ⟨nx',m2,b,rfl,hnx,k12,k14⟩
  have e14:D 14=true→∀d,d<14→D d=true:=fun h d hd=>hcl 14 _ _ rfl h d (by simp;omega)
  have hcbH:H D m2 b cb=some (.arr (.agg 4) [iW P wv lv m]):=by
   rw[hH]
   split
   ·rename_i h
    have q1:=k14 h
    have q2:=k12 (e14 h 12 (by omega))
    simp only[Hp.set]
    rw[if_neg (by omega),if_neg (by omega)];exact hcb
   split
   ·rename_i h
    have q2:=k12 h
    simp only[Hp.set]
    rw[if_neg (by omega)];exact hcb
   exact hcb
  have hcell:iW P wv lv m= .agg [.int .i64 P,wv,lv, .map m]:=rfl
  have hlp:bZ (.agg 2) 0 (iW P wv lv m)= .agg [.int .i64 P,wv]:=rfl
  rcases i with _|_|_|_|_|_|_|_|_|_|_|_|_|_|_|_|i
  all_goals first|(injection hi with hi;injection hi with q1 q2;subst q1;subst q2)|skip
  all_goals try simp only[List.mem_cons,List.not_mem_nil,or_false,forall_eq_or_imp,forall_eq,false_implies,implies_true] at hdeps
  all_goals simp only[aY,LOp.run,bK.sem,aN.ev,hF,hcbH,hcell,List.getD_cons_succ,List.getD_cons_zero,if_true,hdeps]
  all_goals try exact⟨nx',m2,b,by simp[bL,hH],hnx,by simpa using k12,by simpa using k14⟩
  all_goals try exact⟨trivial,by simp,by simp[dI],nx',m2,b,by simp[bL,hH,bZ,V.cell,V.cells],hnx,by simpa using k12,by simpa using k14⟩
  ·have e14':D 14=false:=by
    cases h:D 14 with
    |false=>rfl
    |true=>have:=e14 h 12 (by omega);rw[this] at hDi;cases hDi
   have hm:H D m2 b m=some (.mp (l.map CE.me) c):=by
    rw[hH,if_neg (by simp[e14']),if_neg (by simp[hDi])];exact hcm
   have e13:D 13=false:=by
    cases h:D 13 with
    |false=>rfl
    |true=>have:=hcl 13 _ _ rfl h 12 (by decide);rw[this] at hDi;cases hDi
   refine(qA aKG (by kernel_rfl) m (l.map CE.me) c _ _ hm).mono ?_
   rintro v h3 nx3 hnx3 ⟨rfl,rfl,rfl⟩
   refine⟨_,nx',b,?_,Nat.le_trans hnx hnx3,fun _=>⟨hnx,by omega⟩,by simp[e14']⟩
   simp[bL,hH,e13,e14',hDi,hX]
  ·refine⟨fun p hp=>?_,nx',m2,b,?_,hnx,by simpa [hdeps] using k12,by simpa using k14⟩
   ·simp only[List.mem_cons,List.not_mem_nil,or_false] at hp
    rcases hp with rfl|rfl|rfl
    ·exact⟨by simp[V.fits,hwf,rI],by decide⟩
    ·exact⟨hlf,by decide⟩
    exact⟨rfl,by decide⟩
   have hcl:lv.cells=[lv]:=sZ hlf
   simp[bL,hH,hdeps,hcl,aAH,iW,show(V.agg [.int .i64 P,wv]).cells=[.int .i64 P,wv] from rfl,show(V.map m2).cells=[.map m2] from rfl]
  ·refine⟨aIl hwf hlf,nx'+1,m2,nx',?_,by omega,fun _=>?_,fun _=>?_⟩
   ·have e15:D 15=false:=by
     cases h:D 15 with
     |false=>rfl
     |true=>have:=hcl 15 _ _ rfl h 14 (by decide);rw[this] at hDi;cases hDi
    simp[bL,hH,hdeps,hDi,e15,aN.ev]
   ·have:=k12 hdeps.2.2.2.2.2.2.2.2.2.2.2.2.1
    omega
   have:=k12 hdeps.2.2.2.2.2.2.2.2.2.2.2.2.1
   omega
  ·exact⟨nx',m2,b,by simp[bL,hH,hdeps],hnx,by simpa [hdeps] using k12,by simpa [hdeps] using k14⟩
  simp[L.count_Counts_Copy_r3] at hi
 rintro D s' hD ⟨nx',m2,b,rfl,hnx,k12,k14⟩
 have dd:=fun i (h:i<16)=>hD i h
 have q2:=k12 (dd 12 (by omega))
 have q1:=k14 (dd 14 (by omega))
 rw[hF,hH]
 simp only[dd 14 (by omega),dd 15 (by omega),if_true]
 refine au ?_
 exact aF _ (Hp.le_refl _) ⟨b,m2,by simp only[go_sem,reduceIte,jA,jB,jC,jD,reduceCtorEq,jE,jF],q2.1,q1.1,q1.2,by rw[hX]⟩
def eqC(a b:List CE):Bool:=decide (a.length=b.length)&&a.all fun y=>decide (cV b y.s=y.n)
theorem aKm{a b:List CE}{c c':Nat}(h:dQ a c)(h':dQ b c'):eqC a b=true↔cY a=cY b:=by
 unfold eqC
 rw[Bool.and_eq_true,decide_eq_true_eq,List.all_eq_true]
 constructor
 ·rintro⟨h1,h2⟩
  have hget:∀y∈a,cV b y.s=y.n:=fun y hy=>by simpa using h2 y hy
  have hsub:∀s∈a.map (·.s),s∈b.map (·.s):=by
   intro s hs
   obtain⟨y,hy,rfl⟩:=List.mem_map.1 hs
   obtain⟨z,hz,e⟩:=aDq (l:=b) (s:=y.s) (by rw[hget y hy];exact h.nz y hy)
   exact List.mem_map.2 ⟨z,hz,e⟩
  have hsup:∀s∈b.map (·.s),s∈a.map (·.s):=by
   intro s hs
   apply Classical.byContradiction
   intro hn
   have:=oL (js:=s::a.map (·.s)) (l:=b.map (·.s)) (List.nodup_cons.2 ⟨hn,h.key⟩) (fun t ht=>by
    rcases List.mem_cons.1 ht with rfl|ht
    ·exact hs
    exact hsub t ht)
   simp only[jL,jK] at this
   omega
  refine aJC h h' fun s=>?_
  by_cases hs:s∈a.map (·.s)
  ·obtain⟨y,hy,rfl⟩:=List.mem_map.1 hs
   rw[eU h.key hy,hget y hy]
  rw[eP fun y hy e=>hs (List.mem_map.2 ⟨y,hy,e⟩),eP fun y hy e=>hs (hsup s (List.mem_map.2 ⟨y,hy,e⟩))]
 intro e
 refine⟨by rw[←iH a,e,iH],fun y hy=>?_⟩
 rw[decide_eq_true_eq,←vH h',←e,vH h,eU h.key hy]
theorem aKf{l:List CE}{c:Nat}(h:dQ l c)(s:Sp):xR true (.int .i64 0) (l.map CE.me) (l.findIdx? fun x=>decide (x.s=s))= .tup [.int .i64 (cV l s), .bool (decide (cV l s≠0))]:=by
 cases hf:l.findIdx? (fun x=>decide (x.s=s)) with
 |none=>
  have hn:∀x∈l,x.s≠s:=fun x hx=>by simpa using List.findIdx?_eq_none_iff.1 hf x hx
  rw[eP hn];rfl
 |some j=>
  obtain⟨hj,h1,h2⟩:=aDr hf
  have:(l.map CE.me).getD j default=CE.me l[j]:=by rw[List.getD_eq_getElem?_getD,List.getElem?_map,List.getElem?_eq_getElem hj];rfl
  have hs:l[j].s=s:=by simpa using h1
  have hg:=eU h.key (List.getElem_mem hj)
  rw[hs] at hg
  have hz:=h.nz l[j] (List.getElem_mem hj)
  simp only[xR,this,if_true,CE.me,hg]
  rw[decide_eq_true hz]
set_option maxRecDepth 100000 in
set_option maxHeartbeats 4000000 in
theorem aBv{h:Hp}{a b:List CE}{c c' m m':Nat}(hok:dQ a c)(hok':dQ b c')(h1:h m=some (.mp (a.map CE.me) c))(h2:h m'=some (.mp (b.map CE.me) c')):
 aW Tryz.prog 85 [.map m, .map m'] h (.bool (eqC a b)):=by
 refine aR (fun L=>trivial) fun h' nx hh=>aD L.maps_Equal_map_count_Stamp_int_map_count_Stamp_int_count_Stamp_int_low fun hd=>?_
 simp only[jL,jM,jA,jB,jN,jO,jP,jQ,V.undef]
 have c1:=hh _ _ h1 rfl
 have c2:=hh _ _ h2 rfl
 have n1:m<nx:=hd _ _ c1
 have n2:m'<nx:=hd _ _ c2
 have out:∀{x:Bool} {sl:List V} {hp:Hp} {nx2:Nat},eqC a b=x→h'.le hp→sl.getD 4 V.undef= .bool x→pX [tF.slot 4] (fun v' h'' _=>v'= .bool (eqC a b)∧h''=h') .ret ⟨sl,hp,nx2⟩:=fun e hle e2=>aF h' hle ⟨by rw[e];exact e2,rfl⟩
 by_cases hlen:a.length=b.length
 case neg=>
  have hc:((a.length:Int) != (b.length:Int))=true:=bnt
  refine aue (e4 hc c1 c2 (@jK CE ME)) ?_
  exact out (by simp[eqC,hlen]) (leo hd) rfl
 case pos=>
 have hc:((a.length:Int) != (b.length:Int))=false:=bnf
 refine aue (e4 hc c1 c2 (@jK CE ME)) ?_
 refine uZ rfl c1 ?_
 simp only[go_sem,reduceIte,jA,jB,jC,jD,reduceCtorEq,jE,jF]
 refine au ?_
 refine aP (fun _:List CE=>aB 34 0 [(1, .map m'),(15, .ptr nx .leaf 0 0)])
  (fun js hp nx1=>(js.map fun y=>(CE.me y).b).Nodup∧(∀y∈js,y∈a)∧(∀y∈js,cV b y.s=y.n)∧nx+1≤nx1∧aH hp nx1∧Hp.same nx h' hp∧hp nx=some (.mit m c (js.map fun y=>(CE.me y).b) c))
  (fun js=>a.length-js.length) [] ⟨by simp,by simp,by simp,by simp,dmo hd,kep Hp.same.rfl',by simp[Hp.set]⟩ (wkl trivial) ?_
 rintro js hp nx1 ⟨hjn,hjl,hjw,hn1,hdm,hsm,hit⟩
 generalize hQ:bG _ _ _ _ _=Q0
 have hmp:hp m=some (.mp (a.map CE.me) c):=by rw[hsm m n1];exact c1
 have hmp':hp m'=some (.mp (b.map CE.me) c'):=by rw[hsm m' n2];exact c2
 simp only[aB,go_sem,reduceIte,jA,jB,jC,jD,reduceCtorEq,jE,jF]
 repeat (first|with_reducible refine bC ?_|with_reducible refine cR ?_|with_reducible refine dN ?_|with_reducible refine aJ ?_|with_reducible refine bN ?_|with_reducible refine bD ?_|with_reducible refine dS ?_)
 refine vA rfl hit hmp (fun x hx=>by obtain⟨y,hy,rfl⟩:=List.mem_map.1 hx;exact hok.lt y hy) (Nat.le_refl _) ?_ ?_
 ·intro x hx hxn
  obtain⟨y,hy,rfl⟩:=List.mem_map.1 hx
  have hmore:=tZ (fun y=>(CE.me y).b) hjn hxn
  have hshort:=rF (fun y=>(CE.me y).b) hjn hjl hy hxn
  have hfind:=zA CE.me hok.num hy
  simp only[go_sem,reduceIte,jA,jB,jC,jD,reduceCtorEq,jE,jF]
  refine au ?_
  refine vB (es:=a.map CE.me) (c:=c) (m:=m) (since:=c) (seen:=(js.map fun y=>(CE.me y).b)++[(CE.me y).b]) rfl ?_ ?_ (b:=(CE.me y).b) (by simp) hfind ?_
  ·simp only[Hp.set_app,reduceIte]
  ·simp only[Hp.set_app];rw[if_neg (by omega)];exact hmp
  have hyn:(CE.me y).v= .int .i64 y.n:=rfl
  have hyk:(CE.me y).k=y.s.v:=rfl
  have hsf:=Sp.fits_v y.s
  have hlp:bZ (.agg 3) 0 y.s.v=y.s.v:=rfl
  have hd2:aH (hp.set nx (.mit m c ((js.map fun y=>(CE.me y).b)++[(CE.me y).b]) c)) nx1:=dmo hdm
  have hs2:Hp.same nx h' (hp.set nx (.mit m c ((js.map fun y=>(CE.me y).b)++[(CE.me y).b]) c)):=aS hsm (Nat.le_refl _) _
  have hit2:(hp.set nx (.mit m c ((js.map fun y=>(CE.me y).b)++[(CE.me y).b]) c)) nx=some (.mit m c ((js++[y]).map fun y=>(CE.me y).b) c):=by simp[Hp.set]
  have hm2:(hp.set nx (.mit m c ((js.map fun y=>(CE.me y).b)++[(CE.me y).b]) c)) m'=some (.mp (b.map CE.me) c'):=by simp only[Hp.set];rw[if_neg (by omega)];exact hmp'
  have hl2:h'.le (hp.set nx (.mit m c ((js.map fun y=>(CE.me y).b)++[(CE.me y).b]) c)):=hs2.le hd (Hp.le_refl _)
  generalize hp.set nx (.mit m c ((js.map fun y=>(CE.me y).b)++[(CE.me y).b]) c)=hp2 at hd2 hs2 hit2 hm2 hl2⊢
  simp only[hyn,hyk,go_sem,reduceIte,jA,jB,jC,jD,reduceCtorEq,jE,jF]
  have n3:m'<nx1+2:=by omega
  have n4:(m'=nx1+5)=False:=fls
  have n5:(m'=nx1+4)=False:=fls
  have n6:(m'=nx1+3)=False:=fls
  have hmf:=iC y.s b
  have hmg:=aKf hok' y.s
  by_cases hg:cV b y.s=y.n
  ·have hz:decide (y.n≠0)=true:=decide_eq_true (hok.nz y hy)
   have hne:(y.n != y.n)=false:=bnf
   rw[hg,hz] at hmg
   refine aue (e10 hsf hlp hm2 n3 n4 n5 n6 hmf hmg hne) ?_
   rw[←hQ]
   refine aC (js++[y]) (by simp only[List.length_append,jL,jM];omega) ⟨hmore,?_,?_,by first|omega|(dsimp only;omega),dmo hd2,kep hs2,?_⟩ (wkl trivial)
   ·intro q hq
    rcases List.mem_append.1 hq with hq|hq
    ·exact hjl q hq
    rw[List.mem_singleton.1 hq];exact hy
   ·intro q hq
    rcases List.mem_append.1 hq with hq|hq
    ·exact hjw q hq
    rw[List.mem_singleton.1 hq];exact hg
   have e1:∀k,(nx=nx1+k)=False:=fun k=>fls
   simp only[Hp.set_app,e1,if_false]
   exact hit2
  have he:eqC a b=false:=by
   unfold eqC
   rw[Bool.and_eq_false_iff]
   right
   rw[List.all_eq_false]
   exact⟨y,hy,by simpa using hg⟩
  by_cases h0:cV b y.s=0
  ·rw[h0] at hmg
   have hz:decide ((0:Int)≠0)=false:=by decide
   rw[hz] at hmg
   refine aue (e9 hsf hlp hm2 n3 n4 n5 n6 hmf hmg) ?_
   rw[←hQ]
   refine au ?_
   exact out he (lef hd hl2) rfl
  have hz:decide (cV b y.s≠0)=true:=decide_eq_true h0
  have hne:(y.n != cV b y.s)=true:=bnt
  rw[hz] at hmg
  refine aue (e10 hsf hlp hm2 n3 n4 n5 n6 hmf hmg hne) ?_
  rw[←hQ]
  refine au ?_
  exact out he (lef hd hl2) rfl
 intro hall
 have hperm:=yU (fun y=>(CE.me y).b) hok.num hjn hjl (fun y hy=>hall _ (List.mem_map.2 ⟨y,hy,rfl⟩))
 have he:eqC a b=true:=by
  unfold eqC
  rw[Bool.and_eq_true,decide_eq_true_eq,List.all_eq_true]
  exact⟨hlen,fun y hy=>by rw[decide_eq_true_eq];exact hjw y (hperm.mem_iff.2 hy)⟩
 simp only[go_sem,reduceIte,jA,jB,jC,jD,reduceCtorEq,jE,jF]
 refine au ?_
 rw[←hQ]
 refine au ?_
 exact out he (hsm.le hd (Hp.le_refl _)) rfl
theorem aGC{h:Hp}{cb cb' m m' c c':Nat}{P:Int}{o o':Own}{ws:List Wy}{lv lv':V}{a b:List CE}(hc:dF h cb m P (wys o ws) lv a c)(hc':dF h cb' m' P (wys o' ws) lv' b c')(hok:dQ a c)(hok':dQ b c')(hl:ws.length≤100000):
 aW Tryz.prog 26 [.ptr cb (.agg 4) 0 0, .ptr cb' (.agg 4) 0 0] h (.bool (eqC a b)):=by
 refine aR (fun L=>trivial) fun h' nx hh=>aD L.count_Same_low fun hd=>?_
 simp only[jL,jM,jA,jB,jN,jO,jP,jQ,V.undef]
 have c1:=hh _ _ hc.cell rfl
 have c2:=hh _ _ hc'.cell rfl
 have D1:=fun h=>(aCD Wy.v Wy.fits_v uX sF o o' ws ws (by omega) h)
 have hq:decide (ws=ws)=true:=decide_eq_true rfl
 have hp:(P==P)=true:=bqt
 rw[hq] at D1
 simp only[iW,wys] at c1 c2
 refine aue (e3 c1 c2 hp) ?_
 refine bF (aBv hok hok' (h:=h') (hh _ _ hc.mp rfl) (hh _ _ hc'.mp rfl)) rfl (aO _) ?_
 simp only[go_sem,reduceIte,jA,jB,jC,jD,reduceCtorEq,jE,jF]
 refine au ?_
 exact aF h' (leo hd) ⟨rfl,rfl⟩
end Go.Proofs.YtemjhgboialjpaaGreat
namespace Go.Proofs.YtemjhgboialjpaaGreat
open Go.RowKit
attribute [local irreducible] IntKind.wrap
def pL(T:Nat→Nat→List Pa)(xs:List Sp)(k:Nat):List V:=(List.range k).map fun b=>lst (.agg 2) ((ofT (frT T b xs)).map Tm.v)
theorem aHZ(T:Nat→Nat→List Pa)(xs:List Sp)(k:Nat):pL T xs (k+1)=pL T xs k++[lst (.agg 2) ((ofT (frT T k xs)).map Tm.v)]:=by simp[pL,List.range_succ]
theorem aIa(T:Nat→Nat→List Pa){xs ys:List Sp}(h:xs.Perm ys)(k:Nat):pL T xs k=pL T ys k:=by
 unfold pL
 exact List.map_congr_left fun b _=>by rw[aEw h]
set_option maxRecDepth 100000 in
set_option maxHeartbeats 4000000 in
theorem aFh{h:Hp}{cb m c:Nat}{P:Int}{wv:V}{ot:Own}{rows:List V}{l:List CE}(hc:dF h cb m P wv (.sl .leaf ot rows) l c)(hok:dQ l c)(hl:l.length≤900)(T:Nat→Nat→List Pa)(n:Nat)(hP:P=n)(hT:aKz T n rows)(hlen:∀a b,(T a b).length≤1000)
 (hin:∀y∈l,0≤y.s.p∧y.s.p<n) (hn:n≤100000):
 aW Tryz.prog 27 [.ptr cb (.agg 4) 0 0] h (lst .leaf (pL T (gS l) n)):=by
 refine cK (fun L=>cE (fun L=>bI (fun b=>cE (fun L=>bI (Tm.names_v L) _) L) _) L) fun h' nx hh=>aD L.count_Counts_Fronts_low fun hd=>?_
 simp only[jL,jM,jA,jB,jN,jO,jP,jQ,V.undef]
 have hc':dF h' cb m P wv (.sl .leaf ot rows) l c:=⟨hh _ _ hc.cell rfl,hh _ _ hc.mp rfl,hc.wf,hc.lf⟩
 have hcb:=hc'.cell
 have n1:cb<nx:=hd _ _ hcb
 have n2:m<nx:=hd _ _ hc'.mp
 refine au ?_
 refine bS ((yH hc' hok (by omega)).dom.mono ?_)
 rintro v h4 nx4 hnx4 ⟨⟨o,xs,rfl,hperm,hacc,hsm⟩,hd4,_⟩
 unfold dV
 simp only[go_sem,reduceIte,jA,jB,jC,jD,reduceCtorEq,jE,jF]
 have hc4:dF h4 cb m P wv (.sl .leaf ot rows) l c:=⟨by rw[hsm cb n1];exact hcb,by rw[hsm m n2];exact hc'.mp,hc.wf,hc.lf⟩
 have hcb4:=hc4.cell
 have hxl:xs.length≤900:=by rw[hperm.length_eq];have:=vX l;omega
 have hxs:∀s∈xs,0≤s.p∧s.p<n:=fun s hs=>by
  have:=hperm.mem_iff.1 hs
  unfold gS at this
  obtain⟨y,hy,rfl⟩:=List.mem_map.1 this
  exact hin y (List.mem_filter.1 hy).1
 have hle4:h'.le h4:=hsm.le hd (Hp.le_refl _)
 have hn4:nx≤nx4:=hnx4
 clear hnx4 hacc
 rw[←aIa T hperm]
 subst hP
 have hcb5:=hcb4
 simp only[iW] at hcb5
 refine aue hcb5 ?_
 refine aP (fun q:Nat×Own=>aB 27 0 [(0, .ptr cb (.agg 4) 0 0),(3, .sl .leaf q.2 (pL T xs q.1)),(4, .sl (.agg 3) o (xs.map Sp.v)),(14, .int .i64 n),(15, .int .i64 q.1)])
  (fun q hp nx1=>q.1≤n∧nx4≤nx1∧aH hp nx1∧Hp.same nx4 h4 hp∧Acc hp nx4 q.2 (pL T xs q.1))
  (fun q=>n-q.1) (0, .nil) ⟨Nat.zero_le _,Nat.le_refl _,hd4,Hp.same.rfl',Acc.nil⟩ (wke (show pL T xs 0=[] from rfl)) ?_
 rintro⟨i,oo⟩ hp nx1 ⟨hi,hnx,hdm,hsm4,hacc⟩
 generalize hQ:bG _ _ _ _ _=Q0
 dsimp only at hi hacc
 simp only[aB,go_sem,reduceIte,jA,jB,jC,jD,reduceCtorEq,jE,jF]
 rcases Nat.lt_or_ge i n with hlt|hge
 ·have hc1:decide ((i:Int)<(n:Int))=true:=dct
  have hw:IntKind.i64.wrap ((i:Int)+1)=((i+1:Nat):Int):=wrp
  have hci:dF hp cb m n wv (.sl .leaf ot rows) l c:=⟨by rw[hsm4 cb (by omega)];exact hcb4,by rw[hsm4 m (by omega)];exact hc4.mp,hc.wf,hc.lf⟩
  have hfl:=aHH (.agg 2) ((ofT (frT T i xs)).map Tm.v)
  have hfn:=aHZ T xs i
  have hfe:(pL T xs i).length=i:=by simp[pL]
  refine aue (e2 hc1 hw) ?_
  refine aM (aAC hci T n rfl hT hlen o xs hxl hxs i hlt) rfl (aO _) ?_
  simp only[go_sem,reduceIte,jA,jB,jC,jD,reduceCtorEq,jE,jF]
  refine aue (e3 hw hfl hfe) ?_
  rw[←hQ]
  refine aC (i+1, .tok (nx1+1)) (by dsimp only;omega) ⟨hlt,by first|omega|(dsimp only;omega),dmo hdm,aLy hsm4 hacc,?_⟩ (wke hfn)
  dsimp only
  rw[hfn]
  exact Acc.new _ (by simp) (by omega)
 have hc1:decide ((i:Int)<(n:Int))=false:=dcf
 have hin:i=n:=by omega
 subst hin
 refine aue hc1 ?_
 rw[←hQ]
 refine au ?_
 refine aF h' (Hp.le_trans hle4 (hsm4.le hd4 (Hp.le_refl _))) ⟨?_,Hp.le_refl _⟩
 simp only[go_sem,reduceIte,jA,jB,jC,jD,reduceCtorEq,jE,jF]
 rw[hacc.loose]
 rfl
theorem aDE(x:V)(hx:x.leafy=true)(h':Hp)(nx:Nat):
 aX Tryz.prog 82 [x] h' nx fun v h'' nx2=>v= .fn (.func 143) [] [.ptr nx .leaf 0 0]∧h''=h'.set nx (.arr .leaf [x])∧nx+1≤nx2:=by
 refine aD L.count_Counts_Active_low fun hd=>?_
 simp only[jL,jM,jA,jB,jN,jO,jP,jQ,V.undef]
 refine aue hx ?_
 refine aF _ (Hp.le_refl _) ⟨rfl,rfl,by first|omega|(dsimp only;omega)⟩
theorem aKk{α:Type}{ws:List α}{p:α→Bool}{i:Nat}(hi:i<ws.length)(hp:p ws[i]=true):(ws.filter p)[((ws.take i).filter p).length]?=some ws[i]:=by
 have e:ws=ws.take i++ws[i]::ws.drop (i+1):=by
  rw[List.getElem_cons_drop,List.take_append_drop]
 have h2:ws.filter p=(ws.take i).filter p++ws[i]::(ws.drop (i+1)).filter p:=by
  conv=>lhs;rw[e]
  rw[List.filter_append,List.filter_cons,if_pos hp]
 rw[h2,List.getElem?_append_right (Nat.le_refl _)]
 simp
def aBk(C:List Cg):List (List V):=(fN C).map fun x=>[x.s.v, .int .i64 x.d]
theorem aKy{l:List CE}{j:Nat}(hj:j<(nP l).length)(hp:cV l (nP l)[j]>0):
 ∃h:(fN ((cY l).take j)).length<(aBk (cY l)).length,(aBk (cY l))[(fN ((cY l).take j)).length]=[(nP l)[j].v, .int .i64 (cV l (nP l)[j])]:=by
 have hl:j<(cY l).length:=by rw[iH,←pY];exact hj
 have he:(cY l)[j]=⟨(nP l)[j],cV l (nP l)[j]⟩:=by simp[cY]
 have h1:=aKk (p:=fun x:Cg=>decide (x.d>0)) hl (by rw[he];simpa using hp)
 refine List.getElem?_eq_some_iff.1 ?_
 have h2:(fN (cY l))[(fN ((cY l).take j)).length]?=some (cY l)[j]:=h1
 unfold aBk
 rw[List.getElem?_map,h2,he]
 rfl
theorem aIq(l:List CE){j:Nat}(hj:j<(nP l).length):(fN ((cY l).take (j+1))).length=(fN ((cY l).take j)).length+if cV l (nP l)[j]>0 then 1 else 0:=by
 have hl:j<(cY l).length:=by rw[iH,←pY];exact hj
 have he:(cY l)[j]=⟨(nP l)[j],cV l (nP l)[j]⟩:=by simp[cY]
 rw[List.take_succ_eq_append_getElem hl,he]
 unfold fN
 rw[List.filter_append,List.length_append]
 by_cases h:cV l (nP l)[j]>0<;>simp[h]
set_option maxRecDepth 100000 in
set_option maxHeartbeats 4000000 in
theorem aFI{cb m c:Nat}{P:Int}{wv lv:V}{l:List CE}(bx:Nat)(hb:Hp)(h1:hb bx=some (.arr .leaf [.ptr cb (.agg 4) 0 0]))(hc:dF hb cb m P wv lv l c)(hok:dQ l c)(hl:l.length≤100000):
 aGI Tryz.prog 143 [.ptr bx .leaf 0 0] hb (aBk (cY l)):=by
 intro yn J D hbJ hnJ hnD hJ h0 nx0 h0J hd0
 refine aD L.count_Counts_Active_1_low fun hd=>?_
 simp only[jL,jM,jA,jB,jN,jO,jP,jQ,V.undef]
 have hbj:∀i h nx,J i h nx→h bx=some (.arr .leaf [.ptr cb (.agg 4) 0 0])∧h cb=some (.arr (.agg 4) [iW P wv lv m])∧h m=some (.mp (l.map CE.me) c):=fun i h nx hj=>⟨hbJ _ _ _ hj _ _ h1 rfl,hbJ _ _ _ hj _ _ hc.cell rfl,hbJ _ _ _ hj _ _ hc.mp rfl⟩
 obtain⟨c1,c2,c3⟩:=hbj _ _ _ h0J
 have n3:m<nx0:=hd _ _ c3
 have hcell:iW P wv lv m= .agg [.int .i64 P,wv,lv, .map m]:=rfl
 rw[hcell] at c2
 refine aue (e2 c1 c2) ?_
 refine bS ((aHN aEL m _ _).mono ?_)
 rintro v h3 nx3 hnx3 ⟨rfl,rfl,hn3⟩
 unfold dV
 simp only[go_sem,reduceIte,jA,jB,jC,jD,reduceCtorEq,jE,jF]
 dsimp only at hn3
 have hk:=aHw l c hok (by omega) m nx0 (by omega)
 obtain⟨o2,ho2⟩:=gY (.agg 3) ((nP l).map Sp.v)
 rw[ho2] at hk
 refine aM hk rfl (aHO ?_ ?_) ?_
 ·simp only[Hp.set_app];rw[if_neg (by omega)];exact c3
 ·simp only[Hp.set_app,reduceIte]
 have hkl:(nP l).length≤100000:=by rw[pY];omega
 have hat:=fun j hj hp=>aKy (l:=l) (j:=j) hj hp
 have htk:=fun j hj=>aIq l (j:=j) hj
 have hend:(aBk (cY l)).length=(fN ((cY l).take (nP l).length)).length:=by
  have:(cY l).length=(nP l).length:=by rw[iH,pY]
  rw[←this,List.take_length]
  simp[aBk]
 obtain⟨N,hN⟩:∃N:Nat→Nat,∀j,N j=(fN ((cY l).take j)).length:=⟨_,fun _=>rfl⟩
 simp only[←hN] at hat htk hend
 have hN0:N 0=0:=by rw[hN];rfl
 generalize hks:nP l=ks at hkl hat htk hend⊢
 generalize aBk (cY l)=xs at*
 refine aue (@jK Sp V) ?_
 refine aP (fun j:Nat=>aB 35 0 [(0, .yld yn),(1, .ptr bx .leaf 0 0),(13, .sl (.agg 3) o2 (ks.map Sp.v)),(14, .int .i64 ks.length),(15, .int .i64 j)])
  (fun j hp nx1=>j≤ks.length∧aH hp nx1∧∃hj,J (N j) hj nx1∧aH hj nx1∧hj.le hp)
  (fun j=>ks.length-j) 0 ⟨Nat.zero_le _,dmo hd0,h0,by rw[hN0];exact hnJ _ _ _ _ h0J (by first|omega|(dsimp only;omega)),dmo hd0,leo hd0⟩ (wkl trivial) ?_
 rintro j hp nx1 ⟨hj,hdm,hj0,hJi,hdj,hle⟩
 generalize hQ:bG _ _ _ _ _=Q0
 simp only[aB,go_sem,reduceIte,jA,jB,jC,jD,reduceCtorEq,jE,jF]
 obtain⟨f1,f2,f3⟩:=hbj _ _ _ hJi
 have d1:=hle _ _ f1
 have d2:=hle _ _ f2
 have d3:=hle _ _ f3
 rw[hcell] at d2
 rcases Nat.lt_or_ge j ks.length with hlt|hge
 ·have hc1:decide ((j:Int)<(ks.length:Int))=true:=dct
  have hg:(ks.map Sp.v).getD j (.tup [])= .agg [.int .i64 ks[j].p, .int .i64 ks[j].t.e, .int .i64 ks[j].t.r]:=eB Sp.v _ ks j hlt
  have hw:IntKind.i64.wrap ((j:Int)+1)=((j+1:Nat):Int):=wrp
  have hmf:gU (.plain (.agg 3) [.int, .int, .int]) (.agg [.int .i64 ks[j].p, .int .i64 ks[j].t.e, .int .i64 ks[j].t.r]) (l.map CE.me)=some (l.findIdx? fun x=>decide (x.s=ks[j])):=iC ks[j] l
  have hmg:=rE l ks[j]
  have q1:bx<nx1:=hdm _ _ d1
  have q2:cb<nx1:=hdm _ _ d2
  have q3:m<nx1:=hdm _ _ d3
  have hll:∀k,j<k→True:=fun _ _=>trivial
  have ht:=htk j hlt
  cases hpos:decide (cV l ks[j]>0) with
  |true=>
   have hpp:cV l ks[j]>0:=of_decide_eq_true hpos
   rw[if_pos hpp] at ht
   obtain⟨r1,r2⟩:=hat j hlt hpp
   refine aue (e12 hc1 hg hlt d1 d2 d3 q1 q2 q3 hmf hmg (e3 hpos (@jK Sp V) jG)) ?_
   refine sR rfl ?_
   have hy:=(hJ _ r1 hj0 (nx1+9) (hnJ _ _ _ _ hJi (by omega)) (hdj.up (by omega))).dom
   rw[r2] at hy
   refine(hy.weaken ?_).mono ?_
   ·exact lef hdj hle
   rintro v h3 nx3 hnx3 ⟨hq,hdm3,_⟩
   unfold dV
   rcases hq with⟨rfl,hj'⟩|⟨rfl,hD⟩
   ·simp only[go_sem,reduceIte,jA,jB,jC,jD,reduceCtorEq,jE,jF]
    refine aue hw ?_
    rw[←hQ]
    refine aC (j+1) (by omega) ⟨hlt,hdm3,h3,by rw[ht];exact hj',hdm3,Hp.le_refl _⟩ (wkl trivial)
   simp only[go_sem,reduceIte,jA,jB,jC,jD,reduceCtorEq,jE,jF]
   refine aue hw ?_
   rw[←hQ]
   refine au ?_
   exact aEm h3 (Hp.le_refl _) (.inr hD)
  |false=>
   have hpp:¬cV l ks[j]>0:=of_decide_eq_false hpos
   rw[if_neg hpp] at ht
   refine aue (e12 hc1 hg hlt d1 d2 d3 q1 q2 q3 hmf hmg (e4 hpos hw (@jK Sp V) jG)) ?_
   rw[←hQ]
   refine aC (j+1) (by omega) ⟨hlt,dmo hdm,hj0,by rw[ht];exact hnJ _ _ _ _ hJi (by first|omega|(dsimp only;omega)),hdj.up (by first|omega|(dsimp only;omega)),lef hdj hle⟩ (wkl trivial)
 have hc1:decide ((j:Int)<(ks.length:Int))=false:=dcf
 have hjl:j=ks.length:=by omega
 refine aue hc1 ?_
 rw[←hQ]
 refine au ?_
 refine⟨hj0,hle, .inl ?_⟩
 rw[hend,←hjl]
 exact hJi
theorem aBd(l:List Cg)(i:Nat)(h:i<l.length):(l.map Cg.v).getD i (.tup [])= .agg [.int .i64 l[i].s.p, .int .i64 l[i].s.t.e, .int .i64 l[i].s.t.r, .int .i64 l[i].d]:=eB Cg.v _ l i h
theorem zT{l:List Cg}{p:Cg→Bool}{i:Nat}(hi:i<l.length):(l.take (i+1)).any p=((l.take i).any p||p l[i]):=by
 rw[List.take_succ_eq_append_getElem hi,List.any_append];simp
theorem wG{l:List Cg}{p:Cg→Bool}{i:Nat}(hi:i<l.length)(h:p l[i]=true):l.any p=true:=List.any_eq_true.2 ⟨l[i],List.getElem_mem _,h⟩
theorem aCP(C:List Cg){i:Nat}(h:i<C.length):fN (C.take (i+1))=fN (C.take i)++if C[i].d>0 then [C[i]] else []:=by
 rw[List.take_succ_eq_append_getElem h]
 unfold fN
 rw[List.filter_append]
 congr 1
 by_cases h0:C[i].d>0<;>simp[h0]
theorem aGN{n:Int}(h:dY n=false):decide (n>1000000)=false∧decide (n< -1000000)=false:=by
 have:=(wF n).1 h
 exact⟨dcf,dcf⟩
theorem zG{n:Int}(h:dY n=true):decide (n>1000000)=true∨(decide (n>1000000)=false∧decide (n< -1000000)=true):=by
 by_cases h1:n>1000000
 ·exact .inl (decide_eq_true h1)
 by_cases h2:n< -1000000
 ·exact .inr ⟨decide_eq_false h1,decide_eq_true h2⟩
 have:=(wF n).2 ⟨by omega,by omega⟩
 rw[this] at h;cases h
set_option maxRecDepth 100000 in
set_option maxHeartbeats 4000000 in
theorem xN(om o o':Own)(P:Int)(ws:List Wy)(C r:List Cg)(hC:C.length≤10000)(hr:r.length≤10000)(ho:lst (.agg 4) (C.map Cg.v)= .sl (.agg 4) o (C.map Cg.v))(h:Hp):
 aW Tryz.prog 23 [mps om P ws,cgs o C,cgs o' r] h (.tup [lst (.agg 4) ((gF P C r).1.map Cg.v), .int .i64 (gF P C r).2]):=by
 have hmf:(mps om P ws).fits (.agg 2)=true:=by simp[mps,V.fits,V.leafy,wys]
 have hcell:(mps om P ws).cell 0= .int .i64 P:=rfl
 refine aR (fun L=>?_) fun h' nx hh=>aD L.corollaryref23_Apply_low fun hd=>?_
 ·simp only[V.names,bP,and_true]
  exact cE (fun L=>bI (Cg.names_v L) _) L
 simp only[jL,jM,jA,jB,jN,jO,jP,jQ,V.undef]
 have out:∀{x:List Cg×Int} {sl:List V} {hp:Hp} {nx2:Nat} {v:V},gF P C r=x→h'.le hp→sl.getD 6 V.undef=v→v=lst (.agg 4) (x.1.map Cg.v)→sl.getD 7 V.undef= .int .i64 x.2→pX [tF.slot 6,tF.slot 7] (fun v' h'' _=>v'= .tup [lst (.agg 4) ((gF P C r).1.map Cg.v), .int .i64 (gF P C r).2]∧h''=h') .ret ⟨sl,hp,nx2⟩:=fun e hle e1 e2 e3=>lI h' hle ⟨by rw[e,e1,e2,e3],rfl⟩
 refine aue (e2 hmf hcell) ?_
 --is each stamp right?
 refine aP (fun i:Nat=>aB 96 0 [(1,cgs o C),(2,cgs o' r),(3, .ptr nx (.agg 2) 0 0),(8, .int .i64 i)])
  (fun i hp nx1=>i≤r.length∧nx+1≤nx1∧aH hp nx1∧Hp.same nx h' hp∧hp nx=some (.arr (.agg 2) [mps om P ws])∧(r.take i).any (fO P)=false)
  (fun i=>r.length-i) 0 ⟨Nat.zero_le _,by first|omega|(dsimp only;omega),dmo hd,kep Hp.same.rfl',by simp[Hp.set],by simp⟩ (by simp only[WkL,aB,jH,jI,jJ,cgs,go_sem,reduceIte,jA,jB,jC,jD,reduceCtorEq,jE,jF]) ?_
 rintro i hp nx1 ⟨hi,hnx,hdm,hsm,hb,hno⟩
 generalize hQ:bG _ _ _ _ _=Q0
 simp only[aB,cgs,go_sem,reduceIte,jA,jB,jC,jD,reduceCtorEq,jE,jF]
 rcases Nat.lt_or_ge i r.length with hlt|hge
 ·have hc1:decide ((i:Int)<(r.length:Int))=true:=dct
  have hw1:IntKind.i64.wrap ((i:Int)+1)=((i+1:Nat):Int):=wrp
  have hg:=aBd r i hlt
  have D1:∀h,aW Tryz.prog 78 [.agg [.int .i64 r[i].s.t.e, .int .i64 r[i].s.t.r]] h (.bool r[i].s.t.ok):=fun h=>mP r[i].s.t h
  have hbx:nx<nx1:=by omega
  cases hs:fO P r[i] with
  |true=>
   have hany:gF P C r=(C,2):=by unfold gF;rw[if_pos (wG hlt hs)]
   cases h1:decide (r[i].s.p<0) with
   |true=>
    refine aue (e10 hc1 hw1 hg hlt h1 hb hbx (@jK Cg V) jG hcell) ?_
    rw[←hQ]
    refine au ?_
    exact out hany (hsm.le hd (Hp.le_refl _)) rfl ho.symm rfl
   |false=>
    cases h2:decide (r[i].s.p≥P) with
    |true=>
     refine aue (e11 hc1 hw1 hg hlt h1 h2 hb hbx (@jK Cg V) jG hcell) ?_
     rw[←hQ]
     refine au ?_
     exact out hany (hsm.le hd (Hp.le_refl _)) rfl ho.symm rfl
    |false=>
     have hok:r[i].s.t.ok=false:=by
      unfold fO at hs
      rw[h1,h2] at hs
      simpa using hs
     rw[hok] at D1
     refine aue (e11 hc1 hw1 hg hlt h1 h2 hb hbx (@jK Cg V) jG hcell) ?_
     rw[←hQ]
     refine au ?_
     exact out hany (hsm.le hd (Hp.le_refl _)) rfl ho.symm rfl
  |false=>
   have hs2:=hs
   unfold fO at hs2
   simp only[Bool.or_eq_false_iff,Bool.not_eq_false'] at hs2
   obtain⟨⟨h1,h2⟩,hok⟩:=hs2
   rw[hok] at D1
   refine aue (e11 hc1 hw1 hg hlt h1 h2 hb hbx (@jK Cg V) jG hcell) ?_
   rw[←hQ]
   exact aC (i+1) (by omega) ⟨hlt,by first|omega|(dsimp only;omega),dmo hdm,hsm,hb,by rw[zT hlt,hno,hs];rfl⟩ (by simp only[WkL,aB,jH,jI,jJ,cgs,go_sem,reduceIte,jA,jB,jC,jD,reduceCtorEq,jE,jF])
 have hno0:r.any (fO P)=false:=by rw[List.take_of_length_le hge] at hno;exact hno
 have hc1:decide ((i:Int)<(r.length:Int))=false:=dcf
 refine aue (e2 hc1 (@jK Cg V)) ?_
 rw[←hQ]
 clear hQ Q0 hno hb
 refine au ?_
 --is each one a number that may stand?
 refine aP (fun i:Nat=>aB 96 0 [(1,cgs o C),(2,cgs o' r),(9, .int .i64 i)])
  (fun i hp nx1=>i≤r.length∧nx≤nx1∧aH hp nx1∧Hp.same nx h' hp∧(r.take i).any (fun x=>dY x.d)=false)
  (fun i=>r.length-i) 0 ⟨Nat.zero_le _,by first|omega|(dsimp only;omega),hdm,hsm,by simp⟩ (by simp only[WkL,aB,jH,jI,jJ,cgs,go_sem,reduceIte,jA,jB,jC,jD,reduceCtorEq,jE,jF]) ?_
 clear hi hnx hdm hsm hge hc1
 rintro i hp nx1 ⟨hi,hnx,hdm,hsm,hno⟩
 generalize hQ:bG _ _ _ _ _=Q0
 simp only[aB,cgs,go_sem,reduceIte,jA,jB,jC,jD,reduceCtorEq,jE,jF]
 rcases Nat.lt_or_ge i r.length with hlt|hge
 ·have hc1:decide ((i:Int)<(r.length:Int))=true:=dct
  have hw1:IntKind.i64.wrap ((i:Int)+1)=((i+1:Nat):Int):=wrp
  have hg:=aBd r i hlt
  cases hs:dY r[i].d with
  |true=>
   have hany:gF P C r=(C,1):=by unfold gF;rw[if_neg (by simp[hno0]),if_pos (wG (p:=fun x=>dY x.d) hlt hs)]
   rcases zG hs with h1|⟨h1,h2⟩
   ·refine aue (e7 hc1 hw1 hg hlt h1 (@jK Cg V) jG) ?_
    rw[←hQ]
    refine au ?_
    exact out hany (hsm.le hd (Hp.le_refl _)) rfl ho.symm rfl
   refine aue (e8 hc1 hw1 hg hlt h1 h2 (@jK Cg V) jG) ?_
   rw[←hQ]
   refine au ?_
   exact out hany (hsm.le hd (Hp.le_refl _)) rfl ho.symm rfl
  |false=>
   obtain⟨h1,h2⟩:=aGN hs
   refine aue (e8 hc1 hw1 hg hlt h1 h2 (@jK Cg V) jG) ?_
   rw[←hQ]
   exact aC (i+1) (by omega) ⟨hlt,by first|omega|(dsimp only;omega),dmo hdm,hsm,by rw[zT hlt,hno,hs];rfl⟩ (by simp only[WkL,aB,jH,jI,jJ,cgs,go_sem,reduceIte,jA,jB,jC,jD,reduceCtorEq,jE,jF])
 have hno1:r.any (fun x=>dY x.d)=false:=by rw[List.take_of_length_le hge] at hno;exact hno
 have hc1:decide ((i:Int)<(r.length:Int))=false:=dcf
 obtain⟨os,hos⟩:=gY (.agg 4) ((wJ (C++r)).map Cg.v)
 have C1:∀(h:Hp) {ow:Own},aW Tryz.prog 79 [.sl (.agg 4) ow (C.map Cg.v++r.map Cg.v)] h (.sl (.agg 4) os ((wJ (C++r)).map Cg.v)):=fun h ow=>by
  have:=aHq ow (C++r) (by simp;omega) h
  rw[hos] at this
  rw[←List.map_append];exact this
 have hSl:(wJ (C++r)).length≤20000:=by have:=aIJ (C++r);simp at this;omega
 have hres:gF P C r=if (wJ (C++r)).any (fun x=>dY x.d)=true then (C,1) else (wJ (C++r),0):=by unfold gF;rw[if_neg (by simp[hno0]),if_neg (by simp[hno1])]
 refine aue (e2 hc1 (@jK Cg V)) ?_
 rw[←hQ]
 clear hQ Q0 hno
 generalize wJ (C++r)=S at*
 refine aue (@jK Cg V) ?_
 have hle1:h'.le hp:=hsm.le hd (Hp.le_refl _)
 refine aP (fun i:Nat=>aB 96 0 [(1,cgs o C),(10, .sl (.agg 4) os (S.map Cg.v)),(11, .int .i64 i)])
  (fun i hp nx1=>i≤S.length∧h'.le hp∧aH hp nx1∧(S.take i).any (fun x=>dY x.d)=false)
  (fun i=>S.length-i) 0 ⟨Nat.zero_le _,?_,dmo hdm,by simp⟩ (by simp only[WkL,aB,jH,jI,jJ,cgs,go_sem,reduceIte,jA,jB,jC,jD,reduceCtorEq,jE,jF]) ?_
 ·exact lef hd hle1
 clear hi hnx hdm hsm hge hc1 hle1
 rintro i hp nx1 ⟨hi,hle,hdm,hno⟩
 generalize hQ:bG _ _ _ _ _=Q0
 simp only[aB,cgs,go_sem,reduceIte,jA,jB,jC,jD,reduceCtorEq,jE,jF]
 rcases Nat.lt_or_ge i S.length with hlt|hge
 ·have hc1:decide ((i:Int)<(S.length:Int))=true:=dct
  have hw1:IntKind.i64.wrap ((i:Int)+1)=((i+1:Nat):Int):=wrp
  have hg:=aBd S i hlt
  cases hs:dY S[i].d with
  |true=>
   have hany:gF P C r=(C,1):=by rw[hres,if_pos (wG (p:=fun x=>dY x.d) hlt hs)]
   rcases zG hs with h1|⟨h1,h2⟩
   ·refine aue (e7 hc1 hw1 hg hlt h1 (@jK Cg V) jG) ?_
    rw[←hQ]
    refine au ?_
    exact out hany hle rfl ho.symm rfl
   refine aue (e8 hc1 hw1 hg hlt h1 h2 (@jK Cg V) jG) ?_
   rw[←hQ]
   refine au ?_
   exact out hany hle rfl ho.symm rfl
  |false=>
   obtain⟨h1,h2⟩:=aGN hs
   refine aue (e8 hc1 hw1 hg hlt h1 h2 (@jK Cg V) jG) ?_
   rw[←hQ]
   exact aC (i+1) (by omega) ⟨hlt,hle,dmo hdm,by rw[zT hlt,hno,hs];rfl⟩ (by simp only[WkL,aB,jH,jI,jJ,cgs,go_sem,reduceIte,jA,jB,jC,jD,reduceCtorEq,jE,jF])
 have hno2:S.any (fun x=>dY x.d)=false:=by rw[List.take_of_length_le hge] at hno;exact hno
 have hc1:decide ((i:Int)<(S.length:Int))=false:=dcf
 refine aue (e2 hc1 (@jK Cg V)) ?_
 rw[←hQ]
 refine au ?_
 exact out (x:=(S,0)) (by rw[hres,if_neg (by simp[hno2])]) hle rfl hos.symm rfl
theorem dF.keep{h h2:Hp}{cb m c:Nat}{P:Int}{wv lv:V}{l:List CE}{nx:Nat}(hc:dF h cb m P wv lv l c)(hd:aH h nx)(hk:∀x,x<nx→h2 x=h x):dF h2 cb m P wv lv l c:=
 ⟨(hk _ (hd _ _ hc.cell)).trans hc.cell,(hk _ (hd _ _ hc.mp)).trans hc.mp,hc.wf,hc.lf⟩
theorem dF.has{h h2:Hp}{cb m c:Nat}{P:Int}{wv lv:V}{l:List CE}(hc:dF h cb m P wv lv l c)(hk:h.has h2):dF h2 cb m P wv lv l c:=⟨hk _ _ hc.cell rfl,hk _ _ hc.mp rfl,hc.wf,hc.lf⟩
theorem aBY(o o':Own)(es es':List V)(k:Sh):bO .leaf 0 (V.sl k o es) (V.sl k o' es')=V.sl k o' es':=rfl
set_option maxRecDepth 100000 in
set_option maxHeartbeats 8000000 in
theorem aHQ{h:Hp}{cb m c:Nat}{P:Int}{wv lv:V}{l:List CE}(hc:dF h cb m P wv lv l c)(hok:dQ l c)(hl:l.length≤10000)(o oa:Own)(asked:List Cg)(ha:asked.length≤10000):
 aW Tryz.prog 25 [.ptr cb (.agg 4) 0 0,cgs o (cY l),cgs oa asked] h (.bool true):=by
 refine aR (fun L=>trivial) fun h' nx hh=>aD L.corollarylaw23_Is_low fun hd=>?_
 simp only[jL,jM,jA,jB,jN,jO,jP,jQ,V.undef,cgs]
 have hc0:=hc.has hh
 have hCl:(cY l).length≤10000:=by rw[iH];exact hl
 refine aue (@jK Cg V) ?_
 --each that is asked for
 refine aP (fun i:Nat=>aB 87 0 [(0, .ptr cb (.agg 4) 0 0),(1,cgs o (cY l)),(6, .ptr nx .leaf 0 0),(15,cgs oa asked),(16, .int .i64 asked.length),(17, .int .i64 i)])
  (fun i hp nx1=>i≤asked.length∧nx+1≤nx1∧aH hp nx1∧Hp.same nx h' hp∧hp nx=some (.arr .leaf [.bool false]))
  (fun i=>asked.length-i) 0 ⟨Nat.zero_le _,by first|omega|(dsimp only;omega),dmo hd,kep Hp.same.rfl',by simp[Hp.set]⟩ (by simp only[WkL,aB,jH,jI,jJ,cgs,go_sem,reduceIte,jA,jB,jC,jD,reduceCtorEq,jE,jF]) ?_
 rintro i hp nx1 ⟨hi,hnx,hdm,hsm,hb⟩
 generalize hQ:bG _ _ _ _ _=Q0
 simp only[aB,cgs,go_sem,reduceIte,jA,jB,jC,jD,reduceCtorEq,jE,jF]
 rcases Nat.lt_or_ge i asked.length with hlt|hge
 ·have hc1:decide ((i:Int)<(asked.length:Int))=true:=dct
  have hw1:IntKind.i64.wrap ((i:Int)+1)=((i+1:Nat):Int):=wrp
  have hg:=aBd asked i hlt
  have n0:(nx=nx1)=False:=fls
  have hci:∀H:Hp,(∀x,x<nx→H x=hp x)→dF H cb m P wv lv l c:=fun H hH=>hc0.keep hd fun x hx=>(hH x hx).trans (hsm x hx)
  generalize asked[i]=x at*
  have D1:∀h,aW Tryz.prog 45 [.agg [.int .i64 x.s.p, .int .i64 x.s.t.e, .int .i64 x.s.t.r]] h x.s.v:=fun h=>qC x.s h
  have D2:∀h,aW Tryz.prog 81 [.sl (.agg 4) o ((cY l).map Cg.v),x.s.v] h (.int .i64 (cV l x.s)):=fun h=>by
   have:=aHs o (cY l) x.s (by omega) h
   rw[vH hok] at this;exact this
  have hne:(cV l x.s != cV l x.s)=false:=bnf
  refine aue (e6 hc1 hg hlt (@jK Cg V) jG hne) ?_
  refine bF (aJg x.s (hci _ ?_)) rfl (aO _) ?_
  ·intro y hy
   simp only[go_sem,reduceIte,jA,jB,jC,jD,reduceCtorEq,jE,jF]
   rw[if_neg (by omega),if_neg (by omega)]
  simp only[go_sem,reduceIte,jA,jB,jC,jD,reduceCtorEq,jE,jF]
  refine aue (e4 hne hw1 (@jK Cg V) jG) ?_
  rw[←hQ]
  refine aC (i+1) (by omega) ⟨hlt,by first|omega|(dsimp only;omega),dmo hdm,kep hsm,?_⟩ (by simp only[WkL,aB,jH,jI,jJ,cgs,go_sem,reduceIte,jA,jB,jC,jD,reduceCtorEq,jE,jF])
  simp only[Hp.set,n0,if_false]
  exact hb
 have hc1:decide ((i:Int)<(asked.length:Int))=false:=dcf
 refine aue hc1 ?_
 rw[←hQ]
 clear hQ Q0 hge hc1 hi
 refine aue (@jK Cg V) ?_
 obtain⟨B,hB⟩:∃B,B=nx1:=⟨_,rfl⟩
 rw[←hB]
 have hB1:nx+1≤B:=by omega
 --the active ones
 refine aP (fun q:Nat×Own=>aB 87 0 [(0, .ptr cb (.agg 4) 0 0),(1,cgs o (cY l)),(6, .ptr nx .leaf 0 0),(9, .ptr B .leaf 0 0),(32,cgs o (cY l)),(33, .int .i64 (cY l).length),(34, .int .i64 q.1)])
  (fun q hp nx1=>q.1≤(cY l).length∧B+1≤nx1∧aH hp nx1∧Hp.same nx h' hp∧hp nx=some (.arr .leaf [.bool false])∧hp B=some (.arr .leaf [.sl (.agg 4) q.2 ((fN ((cY l).take q.1)).map Cg.v)])∧Acc hp (B+1) q.2 ((fN ((cY l).take q.1)).map Cg.v))
  (fun q=>(cY l).length-q.1) (0, .nil) ⟨Nat.zero_le _,by first|omega|(dsimp only;omega),dmo hdm,kep hsm,?_,?_,Acc.nil⟩ (by simp only[WkL,aB,jH,jI,jJ,cgs,go_sem,reduceIte,jA,jB,jC,jD,reduceCtorEq,jE,jF]) ?_
 ·simp only[Hp.set];rw[if_neg (by omega)];exact hb
 ·simp only[Hp.set,if_true,List.take_zero,show fN []=[] from rfl,List.map_nil]
 clear hdm hsm hb hnx hB nx1 hp
 rintro⟨i,oo⟩ hp nx1 ⟨hi,hnx,hdm,hsm,hb,hbx,hacc⟩
 generalize hQ:bG _ _ _ _ _=Q0
 dsimp only at hi hbx hacc
 simp only[aB,cgs,go_sem,reduceIte,jA,jB,jC,jD,reduceCtorEq,jE,jF]
 have n0:(nx=nx1)=False:=fls
 have n1:(B=nx1)=False:=fls
 have n2:B<nx1:=by omega
 generalize hCC:cY l=C at*
 rcases Nat.lt_or_ge i C.length with hlt|hge
 ·have hc1:decide ((i:Int)<(C.length:Int))=true:=dct
  have hw1:IntKind.i64.wrap ((i:Int)+1)=((i+1:Nat):Int):=wrp
  have hg:=aBd C i hlt
  have hst:=aCP C hlt
  have hal:(fN (C.take i)).length≤10000:=Nat.le_trans (List.length_filter_le _ _) (by simp;omega)
  cases hpos:decide (C[i].d>0) with
  |false=>
   rw[if_neg (of_decide_eq_false hpos),List.append_nil] at hst
   refine aue (e7 hc1 hg hlt (@jK Cg V) jG hpos hw1) ?_
   rw[←hQ]
   refine aC (i+1,oo) (by dsimp only;omega) ⟨hlt,by first|omega|(dsimp only;omega),dmo hdm,kep hsm,?_,?_,?_⟩ (by simp only[WkL,aB,jH,jI,jJ,cgs,go_sem,reduceIte,jA,jB,jC,jD,reduceCtorEq,jE,jF])
   ·simp only[Hp.set,n0,if_false];exact hb
   ·simp only[Hp.set,n1,if_false,hst];exact hbx
   dsimp only;rw[hst];exact acc hacc hdm
  |true=>
   rw[if_pos (of_decide_eq_true hpos)] at hst
   have hsm2:(fN (C.take (i+1))).map Cg.v=(fN (C.take i)).map Cg.v++[.agg [.int .i64 C[i].s.p, .int .i64 C[i].s.t.e, .int .i64 C[i].s.t.r, .int .i64 C[i].d]]:=by rw[hst,List.map_append];rfl
   have hbd:((fN (C.take i)).length+1)*32≤140737488355328:=by omega
   have hll:((fN (C.take i)).map Cg.v).length=(fN (C.take i)).length:=by simp
   generalize (fN (C.take i)).map Cg.v=F at*
   have n5:(B=nx1+2)=False:=fls
   have n6:(B=nx1+3)=False:=fls
   rcases hacc with⟨rfl,rfl⟩|⟨hne,id,hid,rfl,htip⟩
   ·refine aue (e12 hc1 hg hlt (@jK Cg V) jG hpos hbx n1 n2 n5 n6 (e2 (@aBY) hw1)) ?_
    rw[←hQ]
    refine aC (i+1, .tok (nx1+3)) (by dsimp only;omega) ⟨hlt,by first|omega|(dsimp only;omega),dmo hdm,kep hsm,?_,?_,?_⟩ (by simp only[WkL,aB,jH,jI,jJ,cgs,go_sem,reduceIte,jA,jB,jC,jD,reduceCtorEq,jE,jF])
    ·have e1:∀k,(nx=nx1+k)=False:=fun k=>fls
     have e2:(nx=B)=False:=fls
     simp only[Hp.set,Hp.del,n0,e1,e2,if_false];exact hb
    ·dsimp only;rw[hsm2]
     simp only[Hp.set,if_true,jQ]
    dsimp only;rw[hsm2]
    refine .inr ⟨by simp,nx1+3,by omega,rfl,?_⟩
    have e4:(nx1+3=B)=False:=fls
    simp only[Hp.set,Hp.del,e4,if_true,if_false]
   have hidn:id<nx1:=hdm _ _ htip
   have n7:(id=nx1)=False:=fls
   have n8:(B=id)=False:=fls
   refine aue (e14 hc1 hg hlt (@jK Cg V) jG hpos hbx n1 n2 htip hidn hll hbd (e5 n7 n8 (@aBY) n5 hw1)) ?_
   rw[←hQ]
   refine aC (i+1, .tok (nx1+3)) (by dsimp only;omega) ⟨hlt,by first|omega|(dsimp only;omega),dmo hdm,kep hsm,?_,?_,?_⟩ (by simp only[WkL,aB,jH,jI,jJ,cgs,go_sem,reduceIte,jA,jB,jC,jD,reduceCtorEq,jE,jF])
   ·have e1:∀k,(nx=nx1+k)=False:=fun k=>fls
    have e2:(nx=B)=False:=fls
    have e3:(nx=id)=False:=fls
    simp only[Hp.set,Hp.del,n0,e1,e2,e3,if_false];exact hb
   ·dsimp only;rw[hsm2]
    simp only[Hp.set,if_true]
   dsimp only;rw[hsm2]
   refine .inr ⟨by simp,nx1+3,by omega,rfl,?_⟩
   have e4:(nx1+3=B)=False:=fls
   simp only[Hp.set,Hp.del,e4,if_true,if_false]
 have hc1:decide ((i:Int)<(C.length:Int))=false:=dcf
 have hil:C.take i=C:=List.take_of_length_le (by omega)
 rw[hil] at hbx hacc
 refine aue hc1 ?_
 rw[←hQ]
 clear hQ Q0 hge hc1 hi hil
 refine aue (@jK Cg V) ?_
 refine bS ((aDE (.ptr cb (.agg 4) 0 0) rfl _ _).mono ?_)
 rintro v2 h3 nx3 hnx3 ⟨rfl,rfl,hge3⟩
 dsimp only at hge3
 unfold dV
 simp only[go_sem,reduceIte,jA,jB,jC,jD,reduceCtorEq,jE,jF]
 refine au ?_
 have hit:=fun hb h1 hc=>aFI (cb:=cb) (m:=m) (c:=c) (P:=P) (wv:=wv) (lv:=lv) (l:=l) (nx1+2) hb h1 hc hok (by omega)
 rw[hCC] at hit
 obtain⟨H2,hH2⟩:∃H2:Hp,H2=((hp.set nx1 (.arr .leaf [.int .i64 0])).set nx1 (.arr .leaf [.int .i64 0])).set (nx1+2) (.arr .leaf [.ptr cb (.agg 4) 0 0]):=⟨_,rfl⟩
 have k1:H2 nx=some (.arr .leaf [.bool false]):=by
  have e1:(nx=nx1+2)=False:=fls
  rw[hH2];simp only[Hp.set,e1,n0,if_false];exact hb
 have k2:H2 B=some (.arr .leaf [.sl (.agg 4) oo ((fN C).map Cg.v)]):=by
  have e1:(B=nx1+2)=False:=fls
  rw[hH2];simp only[Hp.set,e1,n1,if_false];exact hbx
 have k3:H2 nx1=some (.arr .leaf [.int .i64 ((0:Nat):Int)]):=by
  have e1:(nx1=nx1+2)=False:=fls
  rw[hH2];simp only[Hp.set,e1,if_true,if_false];rfl
 have k4:H2 (nx1+2)=some (.arr .leaf [.ptr cb (.agg 4) 0 0]):=by rw[hH2];simp only[Hp.set,if_true]
 have hsH:Hp.same nx h' H2:=by rw[hH2];exact kep hsm
 have hdH:aH H2 nx3:=by rw[hH2];exact dmo hdm
 rw[←hH2]
 clear hH2
 --what holds where i have been handed over
 obtain⟨J,hJ⟩:∃J:Nat→Hp→Prop,∀i h,J i h↔((∀x,x<nx3→x≠nx1→h x=H2 x)∧h nx1=some (.arr .leaf [.int .i64 i])):=⟨_,fun _ _=>Iff.rfl⟩
 have hset:∀i h b,J i h→J i (h.set nx3 b):=fun i h b hj=>by
  obtain⟨q1,q2⟩:=(hJ i h).1 hj
  refine(hJ _ _).2 ⟨fun x hx hne=>?_,?_⟩
  ·unfold Hp.set;rw[if_neg (by omega)];exact q1 x hx hne
  unfold Hp.set;rw[if_neg (by omega)];exact q2
 have hfin:∀i h,J i h→h nx=some (.arr .leaf [.bool false])∧h B=some (.arr .leaf [.sl (.agg 4) oo ((fN C).map Cg.v)])∧h nx1=some (.arr .leaf [.int .i64 i])∧Hp.same nx h' h:=fun i h hj=>by
  obtain⟨q1,q2⟩:=(hJ i h).1 hj
  exact⟨by rw[q1 _ (by omega) (by omega)];exact k1,by rw[q1 _ (by omega) (by omega)];exact k2,q2,fun x hx=>(q1 x (by omega) (by omega)).trans (hsH x hx)⟩
 have hcH:dF H2 cb m P wv lv l c:=hc0.keep hd hsH
 have hbase:dF (((Hp.none.set (nx1+2) (.arr .leaf [.ptr cb (.agg 4) 0 0])).set cb (.arr (.agg 4) [iW P wv lv m])).set m (.mp (l.map CE.me) c)) cb m P wv lv l c:=by
  have:=hd _ _ hc0.cell
  have:=hd _ _ hc0.mp
  have hne:cb≠m:=fun e=>by have h1:=hc0.cell;have h2:=hc0.mp;rw[e,h2] at h1;cases h1
  exact⟨by simp[Hp.set,hne],by simp[Hp.set],hc.wf,hc.lf⟩
 have hcn:cb<nx∧m<nx:=⟨hd _ _ hc0.cell,hd _ _ hc0.mp⟩
 have hhas:∀i h,J i h→Hp.has (((Hp.none.set (nx1+2) (.arr .leaf [.ptr cb (.agg 4) 0 0])).set cb (.arr (.agg 4) [iW P wv lv m])).set m (.mp (l.map CE.me) c)) h:=fun i h hj q k e _=>by
  obtain⟨q1,_⟩:=(hJ i h).1 hj
  simp only[Hp.set] at e
  by_cases e1:q=m
  ·rw[if_pos e1] at e;rw[←e,e1,q1 _ (by omega) (by omega)];exact hcH.mp
  rw[if_neg e1] at e
  by_cases e2:q=cb
  ·rw[if_pos e2] at e;rw[←e,e2,q1 _ (by omega) (by omega)];exact hcH.cell
  rw[if_neg e2] at e
  by_cases e3:q=nx1+2
  ·rw[if_pos e3] at e;rw[←e,e3,q1 _ (by omega) (by omega)];exact k4
  rw[if_neg e3] at e;cases e
 have hAl:(aBk C).length=(fN C).length:=by simp[aBk]
 have hA1:(fN C).length≤10000:=Nat.le_trans (List.length_filter_le _ _) hCl
 refine qB (hit _ (by simp only[Hp.set];rw[if_neg (by omega),if_neg (by omega),if_pos trivial]) hbase) rfl (fun x hx=>by obtain⟨w,_,rfl⟩:=List.mem_map.1 hx;rfl) hdH (fun i h _=>J i h) (fun _ _ _=>False)
  (fun i h _ hI=>hhas i h hI) (fun i h n1 n2 hI _=>hI) (fun i h n1 b hI=>hset i h b hI) (fun e h n1 n2 hE _=>hE) (fun e h n1 b hE=>hE)
  ((hJ 0 H2).2 ⟨fun _ _ _=>rfl,k3⟩) ?_ ?_ (fun e h n hE=>hE.elim)
 ·intro i hi h nx4 X hj hnx4 hX hdm4
  dsimp only at hnx4 hX
  obtain⟨d1,d2,d3,_⟩:=hfin i h hj
  rw[hAl] at hi
  have hx:(aBk C)[i]'(by rw[hAl];exact hi)=[((fN C)[i]).s.v, .int .i64 ((fN C)[i]).d]:=by simp[aBk]
  have hg:=aBd (fN C) i hi
  generalize (fN C)[i]=w at*
  have a1:(nx3=nx4)=False:=fls
  have a2:(nx3=nx4+1)=False:=fls
  have hfw:=Sp.fits_v w.s
  simp only[putAll,hx,List.set_cons_succ,List.set_cons_zero]
  refine aue (e3 hfw a1 a2) ?_
  refine qS (by simp only[a1,go_sem,reduceIte,jA,jB,jC,jD,reduceCtorEq,jE,jF];exact hX) fun X'=>?_
  simp only[go_sem,reduceIte,jA,jB,jC,jD,reduceCtorEq,jE,jF]
  have hc1:decide ((i:Int)≥((fN C).length:Int))=false:=dcf
  have D1:∀h,aW Tryz.prog 45 [w.s.v] h w.s.v:=fun h=>qC w.s h
  have hv:veq (.plain (.agg 3) [.int, .int, .int]) w.s.v (.agg [.int .i64 w.s.p, .int .i64 w.s.t.e, .int .i64 w.s.t.r])=some true:=by
   have:=aCU w.s w.s
   rw[decide_eq_true rfl] at this;exact this
  have hdd:(w.d != w.d)=false:=bnf
  have hwi:IntKind.i64.wrap ((i:Int)+1)=((i+1:Nat):Int):=wrp
  have b1:(B=nx3)=False:=fls
  have b2:(nx1=nx3)=False:=fls
  have b3:(nx4=nx3)=False:=fls
  have b4:B<nx4:=by omega
  have b5:nx1<nx4:=by omega
  have b6:(B=nx4)=False:=fls
  have b7:(nx1=nx4)=False:=fls
  have b8:bZ (.agg 3) 0 w.s.v=w.s.v:=rfl
  refine aue (e14 d2 d3 hc1 hg hi hfw hv hdd hwi (@jK Cg V) jG b1 b2 (e7 b3 b4 b5 b6 b7 b8 a1)) ?_
  have a3:(nx3=nx1)=False:=fls
  refine nA (by simp only[Hp.set,a3,if_true,if_false]) ((hJ _ _).2 ⟨fun x hx hne=>?_,by simp only[Hp.set,if_true]⟩)
  have e1:(x=nx1)=False:=eq_false hne
  have e2:(x=nx3)=False:=fls
  have e3:(x=nx4)=False:=fls
  simp only[Hp.set,e1,e2,e3,if_false]
  exact((hJ i h).1 hj).1 x hx hne
 intro h nx4 hj hnx4 hdm4
 dsimp only at hnx4
 rw[hAl] at hj
 obtain⟨d1,d2,d3,d5⟩:=hfin _ h hj
 have b4:B<nx4:=by omega
 have b5:nx1<nx4:=by omega
 have b6:nx<nx4:=by omega
 have hee:(((fN C).length:Int)==((fN C).length:Int))=true:=bqt
 have b1:(B=nx3)=False:=fls
 have b2:(nx1=nx3)=False:=fls
 have b3:(nx=nx3)=False:=fls
 refine aue (e8 d2 d3 b1 b2 b4 b5 hee (@jK Cg V)) ?_
 refine aM (aFP (hc0.keep (h2:=h.del nx3) hd fun x hx=>by unfold Hp.del;rw[if_neg (by omega)];exact d5 x hx)) rfl (aO _) ?_
 simp only[go_sem,reduceIte,jA,jB,jC,jD,reduceCtorEq,jE,jF]
 have hz:((C.length:Int)==0)=decide (l=[]):=by
  rw[←aFA,hCC,Bool.eq_iff_iff]
  cases C<;>simp<;>omega
 have hzz:(decide (l=[])==decide (l=[]))=true:=by simp
 refine aue (e8 d1 hz hzz b3 b6 b4 b5 (@jK Cg V)) ?_
 refine pV (by simp only[go_sem,reduceIte,jA,jB,jC,jD,reduceCtorEq,jE,jF]) h' ((show Hp.same nx h' _ from kep d5).le hd (Hp.le_refl _)) ⟨?_,rfl⟩
 simp only[go_sem,reduceIte,jA,jB,jC,jD,reduceCtorEq,jE,jF]
end Go.Proofs.YtemjhgboialjpaaGreat
