/-
Texts of this proof,one behind the other. No conditions.
-/
import Derived.Test.YtecepaehmojpgaaGreatKn
import Derived.Test.YtecepaehmojpgaaGreatKd
import Derived.Test.YtecepaehmojpgaaGreatKg
set_option linter.unusedSimpArgs false
set_option linter.unusedVariables false
set_option linter.unusedSectionVars false
open Nat renaming reduceAdd→jA,reduceSub→jB,reduceLT→jC,reduceLeDiff→jD,reduceEqDiff→jE
open Int renaming reduceToNat→jF,toNat_natCast→jG,natCast_add→jH,natCast_one→jI,natCast_zero→jJ
open List renaming length_map→jK,length_cons→jL,length_nil→jM,replicate_succ→jN,replicate_zero→jO,cons_append→jP,nil_append→jQ
namespace Go.Proofs.YtecepaehmojpgaaGreat
open Go.RowKit Go.Sort
def oI(l:List Cg)(s:Sp):Int:=(l.map fun x=>if x.s=s then x.d else 0).sum
theorem aCG(a b:List Cg)(s:Sp):oI (a++b) s=oI a s+oI b s:=by simp[oI,List.sum_append]
theorem tT(n:Int):dV n=false↔-1000000≤n∧n≤1000000:=by
 unfold dV
 rw[Bool.not_eq_false',Bool.and_eq_true,decide_eq_true_eq,decide_eq_true_eq]
theorem vE(s:Sp):∀(l:List Cg) (n A:Int),(∀x∈l,dV x.d=false)→-A≤n→n≤A→A+1000000*l.length≤4000000000000000000→
 l.foldl (fun n x=>if x.s=s then IntKind.i64.wrap (n+x.d) else n) n=n+oI l s
 | [],n,A,_,_,_,_=>by simp[oI]
 |x::l,n,A,hw,h1,h2,h3=>by
  have hx:=(tT x.d).1 (hw x (by simp))
  simp only[List.length_cons] at h3
  have hs:oI (x::l) s=(if x.s=s then x.d else 0)+oI l s:=rfl
  rw[List.foldl_cons,hs]
  split
  ·rw[bM (by omega) (by omega),vE s l (n+x.d) (A+1000000) (fun y hy=>hw y (by simp[hy])) (by omega) (by omega) (by omega)]
   omega
  rw[vE s l n A (fun y hy=>hw y (by simp[hy])) h1 h2 (by omega)]
  omega
theorem vT{f:Sp→Int}{l:List Cg}(hw:∀x∈l,dV x.d=false)(hl:l.length≤100000){s:Sp}(hf:dV (f s)=false):wT f l s=f s+oI l s:=by
 have:=(tT _).1 hf
 exact vE s l (f s) 1000000 hw (by omega) (by omega) (by omega)
def aIV(l:List CE):Prop:=∀y∈l,dV y.n=false
theorem aFZ:dV 0=false:=by decide
theorem zC{l:List CE}(h:aIV l)(s:Sp):dV (cC l s)=false:=by
 unfold cC
 cases hf:l.find? fun x=>decide (x.s=s) with
 |none=>exact aFZ
 |some y=>exact h y (List.mem_of_find?_eq_some hf)
theorem zS{l:List CE}{c:Nat}(h:dQ l c):aHu (cC l) (aDP l):=aEu h
theorem aDO{l l':List CE}{c c':Nat}(h:dQ l c)(h':dQ l' c')(e:∀s,cC l s=cC l' s):aDP l=aDP l':=by
 have h1:=zS h
 rw[funext e] at h1
 exact aDT h1 (zS h')
theorem aDN(l:List CE):(aDP l).length=l.length:=by unfold aDP;rw[List.length_map,aHW]
theorem wY{l:List CE}{s:Sp}(h:cC l s≠0):∃y∈l,y.s=s:=by
 apply Classical.byContradiction
 intro hn
 exact h (eI fun x hx e=>hn ⟨x,hx,e⟩)
theorem aDs{l:List CE}{c:Nat}(h:dQ l c)(s:Sp):aLd (aDP l) s=cC l s:=(zS h).get s
structure StC(P:Int)(l:List CE)(c K:Nat):Prop where
 ok:dQ l c
 small:aIV l
 right:∀y∈l,0≤y.s.p∧y.s.p<P∧y.s.t.ok=true
 len:l.length≤K
theorem aFB(P:Int)(c:Nat):StC P [] c 0:=⟨aBg c,(fun y hy=>by cases hy),(fun y hy=>by cases hy),Nat.le_refl _⟩
theorem StC.up{P:Int}{l:List CE}{c K K':Nat}(h:StC P l c K)(hk:K≤K'):StC P l c K':=⟨h.ok,h.small,h.right,Nat.le_trans h.len hk⟩
theorem aCH{P:Int}{x:Cg}(h:eR P x=false):0≤x.s.p∧x.s.p<P∧x.s.t.ok=true:=by
 unfold eR at h
 simp only[Bool.or_eq_false_iff,decide_eq_false_iff_not,Bool.not_eq_false'] at h
 exact⟨by omega,by omega,h.2⟩
theorem StC.add{P:Int}{l:List CE}{c K:Nat}(h:StC P l c K)(r:List Cg):StC P (aT P l c r).2.1 (aT P l c r).2.2 (K+r.length):=by
 unfold aT
 split
 ·exact h.up (Nat.le_add_right _ _)
 split
 ·exact h.up (Nat.le_add_right _ _)
 split
 ·exact h.up (Nat.le_add_right _ _)
 rename_i h1 h2 h3
 obtain⟨q1,q2,q3⟩:=mZ r h.ok
 refine⟨q1,fun y hy=>?_,fun y hy=>?_,by have:=h.len;dsimp only;omega⟩
 ·cases hw:dV y.n with
  |false=>rfl
  |true=>exact absurd (List.any_eq_true.2 ⟨y,hy,hw⟩) h3
 have hg:cC (eF l c r).1 y.s≠0:=by rw[eA q1.key hy];exact q1.nz y hy
 by_cases hr:∃x∈r,x.s=y.s
 ·obtain⟨x,hx,e⟩:=hr
  rw[←e]
  refine aCH ?_
  cases hq:eR P x with
  |false=>rfl
  |true=>exact absurd (List.any_eq_true.2 ⟨x,hx,hq⟩) h1
 rw[q2 y.s] at hg
 have:wT (cC l) r y.s=cC l y.s:=by
  have:∀(r:List Cg) (n:Int),(∀x∈r,x.s≠y.s)→r.foldl (fun n x=>if x.s=y.s then IntKind.i64.wrap (n+x.d) else n) n=n:=by
   intro r
   induction r with
   |nil=>intro n _;rfl
   |cons x r ih=>
    intro n h
    rw[List.foldl_cons,if_neg (h x (by simp))]
    exact ih n fun z hz=>h z (by simp[hz])
  exact this r _ fun x hx e=>hr ⟨x,hx,e⟩
 rw[this] at hg
 obtain⟨z,hz,e⟩:=wY hg
 rw[←e]
 exact h.right z hz
theorem aFs{P:Int}{l:List CE}{c:Nat}{r:List Cg}(h:(aT P l c r).1=0):r.any (eR P)=false∧(∀x∈r,dV x.d=false)∧(aT P l c r).2=eF l c r:=by
 unfold aT at h⊢
 split at h
 ·cases h
 split at h
 ·cases h
 split at h
 ·cases h
 rename_i h1 h2 h3
 rw[if_neg h1,if_neg h2,if_neg h3]
 refine⟨by simpa using h1,fun x hx=>?_,rfl⟩
 cases hw:dV x.d with
 |false=>rfl
 |true=>exact absurd (List.any_eq_true.2 ⟨x,hx,hw⟩) h2
theorem aBz{P:Int}{l:List CE}{c K:Nat}{r:List Cg}(hc:StC P l c K)(h:(aT P l c r).1=0)(hr:r.length≤100000)(s:Sp):cC (aT P l c r).2.1 s=cC l s+oI r s:=by
 obtain⟨_,h2,h3⟩:=aFs h
 rw[h3,(mZ r hc.ok).2.1 s]
 exact vT h2 hr (zC hc.small s)
theorem aHl{P:Int}{l:List CE}{c:Nat}{r:List Cg}(h:(aT P l c r).1≠0):(aT P l c r).2=(l,c):=by
 unfold aT at h⊢
 split
 ·rfl
 split
 ·rfl
 split
 ·rfl
 rename_i h1 h2 h3
 rw[if_neg h1,if_neg h2,if_neg h3] at h
 exact absurd rfl h
theorem aEg{l:List CE}(s:Sp):s∈eC l↔∃y∈l,y.n>0∧y.s=s:=by
 unfold eC
 rw[List.mem_map]
 constructor
 ·rintro⟨y,hy,e⟩
  have:=List.mem_filter.1 hy
  exact⟨y,this.1,by simpa using this.2,e⟩
 rintro⟨y,hy,hp,e⟩
 exact⟨y,List.mem_filter.2 ⟨hy,by simpa using hp⟩,e⟩
theorem yB(t:Tm)(x:Tm):∀l:List Pa,x∈iI t l↔∃p∈l,(p.of t).2=0∧(p.of t).1=x
 | []=>by simp[iI]
 |p::l=>by
  rw[iI,List.mem_append,yB t x l]
  constructor
  ·rintro(h|⟨q,hq,h⟩)
   ·split at h
    ·rename_i h0
     exact⟨p,by simp,h0,(List.mem_singleton.1 h).symm⟩
    cases h
   exact⟨q,by simp[hq],h⟩
  rintro⟨q,hq,h1,h2⟩
  rcases List.mem_cons.1 hq with rfl|hq
  ·left;rw[if_pos h1,h2];simp
  exact .inr ⟨q,hq,h1,h2⟩
end Go.Proofs.YtecepaehmojpgaaGreat
namespace Go.Proofs.YtecepaehmojpgaaGreat
open Go.RowKit Go.Shelf
attribute [local irreducible] IntKind.wrap
set_option maxRecDepth 100000 in
set_option maxHeartbeats 4000000 in
theorem aHe{h':Hp}{nx cb m c:Nat}{P:Int}{wv lv:V}{l:List CE}(hc:dC h' cb m P wv lv l c):
 aW Tryz.prog 39 [.ptr cb (.agg 4) 0 0] h' nx fun v h'' _=>∃cb2 m2,v= .ptr cb2 (.agg 4) 0 0∧nx≤m2∧nx≤cb2∧cb2≠m2∧h''=(h'.set m2 (.mp (l.map CE.me) c)).set cb2 (.arr (.agg 4) [iX P wv lv m2]):=by
 refine aD L.count_Counts_Copy_low fun hd=>?_
 simp only[jL,jM,jA,jB,jN,jO,jP,jQ,V.undef]
 have hcb:=hc.cell
 have hcm:=hc.mp
 have n1:cb<nx:=hd _ _ hcb
 have n2:m<nx:=hd _ _ hcm
 have hwf:=hc.wf
 have hlf:=hc.lf
 refine aus ?_
 refine pS ?_
 obtain⟨X,hX⟩:∃X,X=Blk.mp (l.map CE.me) c:=⟨_,rfl⟩
 obtain⟨F,hF⟩:∃F:(Nat→Bool)→Nat→Nat→List V,∀D m2 b,F D m2 b=[.ptr cb (.agg 4) 0 0, .tup [],if D 15=true then .ptr b (.agg 4) 0 0 else .nilPtr, .ptr cb (.agg 4) 0 0, .bool false,
  if D 0=true then .ptr cb (.agg 4) 0 0 else .tup [],if D 1=true then .ptr cb (.agg 4) 0 0 else .tup [],if D 2=true then .ptr cb (.agg 4) 0 0 else .tup [],if D 3=true then .agg [.int .i64 P,wv] else .tup [],
  if D 4=true then .ptr cb (.agg 4) 0 0 else .tup [],if D 5=true then .ptr cb (.agg 4) 0 0 else .tup [],if D 6=true then .ptr cb (.agg 4) 0 2 else .tup [],if D 7=true then lv else .tup [],
  if D 8=true then .ptr cb (.agg 4) 0 0 else .tup [],if D 9=true then .ptr cb (.agg 4) 0 0 else .tup [],if D 10=true then .ptr cb (.agg 4) 0 3 else .tup [],if D 11=true then .map m else .tup [],
  if D 12=true then .map m2 else .tup [],if D 13=true then iX P wv lv m2 else .tup [],if D 14=true then .ptr b (.agg 4) 0 0 else .tup []]:=⟨_,fun _ _ _=>rfl⟩
 obtain⟨H,hH⟩:∃H:(Nat→Bool)→Nat→Nat→Hp,∀D m2 b,H D m2 b=if D 14=true then (h'.set m2 X).set b (.arr (.agg 4) [iX P wv lv m2]) else if D 12=true then h'.set m2 X else h':=⟨_,fun _ _ _=>rfl⟩
 refine⟨fun D s'=>∃nx' m2 b,s'=⟨F D m2 b,H D m2 b,nx'⟩∧nx≤nx'∧(D 12=true→nx≤m2∧m2<nx')∧(D 14=true→nx≤b∧b≠m2),⟨nx,0,0,by simp[hF,hH,V.undef],Nat.le_refl _,by simp,by simp⟩,?_,?_⟩
 ·rintro D i o deps s' hi hDi hdeps hcl ⟨nx',m2,b,rfl,hnx,k12,k14⟩
  have e14:D 14=true→∀d,d<14→D d=true:=fun h d hd=>hcl 14 _ _ rfl h d (by simp;omega)
  have hcbH:H D m2 b cb=some (.arr (.agg 4) [iX P wv lv m]):=by
   rw[hH]
   split
   ·rename_i h
    have q1:=k14 h
    have q2:=k12 (e14 h 12 (by omega))
    simp only[Hp.set]
    rw[if_neg (by omega),if_neg (by omega)];exact hcb
   split
   ·rename_i h
    have q2:=k12 h
    simp only[Hp.set]
    rw[if_neg (by omega)];exact hcb
   exact hcb
  have hcell:iX P wv lv m= .agg [.int .i64 P,wv,lv, .map m]:=rfl
  have hlp:bY (.agg 2) 0 (iX P wv lv m)= .agg [.int .i64 P,wv]:=rfl
  rcases i with _|_|_|_|_|_|_|_|_|_|_|_|_|_|_|_|i
  all_goals first|(injection hi with hi;injection hi with q1 q2;subst q1;subst q2)|skip
  all_goals try simp only[List.mem_cons,List.not_mem_nil,or_false,forall_eq_or_imp,forall_eq,false_implies,implies_true] at hdeps
  all_goals simp only[aV,LOp.run,bD.sem,aL.ev,hF,hcbH,hcell,List.getD_cons_succ,List.getD_cons_zero,if_true,hdeps]
  all_goals try exact⟨nx',m2,b,by simp[bF,hH],hnx,by simpa using k12,by simpa using k14⟩
  all_goals try exact⟨trivial,by simp,by simp[cJ],nx',m2,b,by simp[bF,hH,bY,V.cell,V.cells],hnx,by simpa using k12,by simpa using k14⟩
  ·have e14':D 14=false:=by
    cases h:D 14 with
    |false=>rfl
    |true=>have:=e14 h 12 (by omega);rw[this] at hDi;cases hDi
   have hm:H D m2 b m=some (.mp (l.map CE.me) c):=by
    rw[hH,if_neg (by simp[e14']),if_neg (by simp[hDi])];exact hcm
   have e13:D 13=false:=by
    cases h:D 13 with
    |false=>rfl
    |true=>have:=hcl 13 _ _ rfl h 12 (by decide);rw[this] at hDi;cases hDi
   refine(oT aJS (by kernel_rfl) m (l.map CE.me) c _ _ hm).mono ?_
   rintro v h3 nx3 hnx3 ⟨rfl,rfl,rfl⟩
   refine⟨_,nx',b,?_,Nat.le_trans hnx hnx3,fun _=>⟨hnx,by omega⟩,by simp[e14']⟩
   simp[bF,hH,e13,e14',hDi,hX]
  ·refine⟨fun p hp=>?_,nx',m2,b,?_,hnx,by simpa [hdeps] using k12,by simpa using k14⟩
   ·simp only[List.mem_cons,List.not_mem_nil,or_false] at hp
    rcases hp with rfl|rfl|rfl
    ·exact⟨by simp[V.fits,hwf,uV],by decide⟩
    ·exact⟨hlf,by decide⟩
    exact⟨rfl,by decide⟩
   have hcl:lv.cells=[lv]:=zT hlf
   simp[bF,hH,hdeps,hcl,aBn,iX,show(V.agg [.int .i64 P,wv]).cells=[.int .i64 P,wv] from rfl,show(V.map m2).cells=[.map m2] from rfl]
  ·refine⟨aHg hwf hlf,nx'+1,m2,nx',?_,by omega,fun _=>?_,fun _=>?_⟩
   ·have e15:D 15=false:=by
     cases h:D 15 with
     |false=>rfl
     |true=>have:=hcl 15 _ _ rfl h 14 (by decide);rw[this] at hDi;cases hDi
    simp[bF,hH,hdeps,hDi,e15,aL.ev]
   ·have:=k12 hdeps.2.2.2.2.2.2.2.2.2.2.2.2.1
    omega
   have:=k12 hdeps.2.2.2.2.2.2.2.2.2.2.2.2.1
   omega
  ·exact⟨nx',m2,b,by simp[bF,hH,hdeps],hnx,by simpa [hdeps] using k12,by simpa [hdeps] using k14⟩
  simp[L.count_Counts_Copy_r3] at hi
 rintro D s' hD ⟨nx',m2,b,rfl,hnx,k12,k14⟩
 have dd:=fun i (h:i<16)=>hD i h
 have q2:=k12 (dd 12 (by omega))
 have q1:=k14 (dd 14 (by omega))
 rw[hF,hH]
 simp only[dd 14 (by omega),dd 15 (by omega),if_true]
 refine au ?_
 exact aG _ (Hp.le_refl _) ⟨b,m2,by simp only[go_sem,reduceIte,jA,jB,jC,jD,reduceCtorEq,jE,jF],q2.1,q1.1,q1.2,by rw[hX]⟩
def eqC(a b:List CE):Bool:=decide (a.length=b.length)&&a.all fun y=>decide (cC b y.s=y.n)
theorem aJy{a b:List CE}{c c':Nat}(h:dQ a c)(h':dQ b c'):eqC a b=true↔aDP a=aDP b:=by
 unfold eqC
 rw[Bool.and_eq_true,decide_eq_true_eq,List.all_eq_true]
 constructor
 ·rintro⟨h1,h2⟩
  have hget:∀y∈a,cC b y.s=y.n:=fun y hy=>by simpa using h2 y hy
  have hsub:∀s∈a.map (·.s),s∈b.map (·.s):=by
   intro s hs
   obtain⟨y,hy,rfl⟩:=List.mem_map.1 hs
   obtain⟨z,hz,e⟩:=wY (l:=b) (s:=y.s) (by rw[hget y hy];exact h.nz y hy)
   exact List.mem_map.2 ⟨z,hz,e⟩
  have hsup:∀s∈b.map (·.s),s∈a.map (·.s):=by
   intro s hs
   apply Classical.byContradiction
   intro hn
   have:=nG (js:=s::a.map (·.s)) (l:=b.map (·.s)) (List.nodup_cons.2 ⟨hn,h.key⟩) (fun t ht=>by
    rcases List.mem_cons.1 ht with rfl|ht
    ·exact hs
    exact hsub t ht)
   simp only[jL,jK] at this
   omega
  refine aDO h h' fun s=>?_
  by_cases hs:s∈a.map (·.s)
  ·obtain⟨y,hy,rfl⟩:=List.mem_map.1 hs
   rw[eA h.key hy,hget y hy]
  rw[eI fun y hy e=>hs (List.mem_map.2 ⟨y,hy,e⟩),eI fun y hy e=>hs (hsup s (List.mem_map.2 ⟨y,hy,e⟩))]
 intro e
 refine⟨by rw[←aDN a,e,aDN],fun y hy=>?_⟩
 rw[decide_eq_true_eq,←aDs h',←e,aDs h,eA h.key hy]
theorem aJr{l:List CE}{c:Nat}(h:dQ l c)(s:Sp):lR true (.int .i64 0) (l.map CE.me) (l.findIdx? fun x=>decide (x.s=s))= .tup [.int .i64 (cC l s), .bool (decide (cC l s≠0))]:=by
 cases hf:l.findIdx? (fun x=>decide (x.s=s)) with
 |none=>
  have hn:∀x∈l,x.s≠s:=fun x hx=>by simpa using List.findIdx?_eq_none_iff.1 hf x hx
  rw[eI hn];rfl
 |some j=>
  obtain⟨hj,h1,h2⟩:=sZ hf
  have:(l.map CE.me).getD j default=CE.me l[j]:=by rw[List.getD_eq_getElem?_getD,List.getElem?_map,List.getElem?_eq_getElem hj];rfl
  have hs:l[j].s=s:=by simpa using h1
  have hg:=eA h.key (List.getElem_mem hj)
  rw[hs] at hg
  have hz:=h.nz l[j] (List.getElem_mem hj)
  simp only[lR,this,if_true,CE.me,hg]
  rw[decide_eq_true hz]
set_option maxRecDepth 100000 in
set_option maxHeartbeats 4000000 in
theorem aAt{h:Hp}{a b:List CE}{c c' m m':Nat}(hok:dQ a c)(hok':dQ b c')(h1:h m=some (.mp (a.map CE.me) c))(h2:h m'=some (.mp (b.map CE.me) c')):
 aZ Tryz.prog 58 [.map m, .map m'] h (.bool (eqC a b)):=by
 refine aU (fun L=>trivial) fun h' nx hh=>aD L.maps_Equal_map_count_Stamp_int_map_count_Stamp_int_count_Stamp_int_low fun hd=>?_
 simp only[jL,jM,jA,jB,jN,jO,jP,jQ,V.undef]
 have c1:=hh _ _ h1 rfl
 have c2:=hh _ _ h2 rfl
 have n1:m<nx:=hd _ _ c1
 have n2:m'<nx:=hd _ _ c2
 have out:∀{x:Bool} {sl:List V} {hp:Hp} {nx2:Nat},eqC a b=x→h'.le hp→sl.getD 4 V.undef= .bool x→mK [aAg.slot 4] (fun v' h'' _=>v'= .bool (eqC a b)∧h''=h') .ret ⟨sl,hp,nx2⟩:=fun e hle e2=>aG h' hle ⟨by rw[e];exact e2,rfl⟩
 by_cases hlen:a.length=b.length
 case neg=>
  have hc:((a.length:Int) != (b.length:Int))=true:=bnt
  refine aue (e4 hc c1 c2 (@jK CE ME)) ?_
  exact out (by simp[eqC,hlen]) (leo hd) rfl
 case pos=>
 have hc:((a.length:Int) != (b.length:Int))=false:=bnf
 refine aue (e4 hc c1 c2 (@jK CE ME)) ?_
 refine yO rfl c1 ?_
 simp only[go_sem,reduceIte,jA,jB,jC,jD,reduceCtorEq,jE,jF]
 refine au ?_
 refine aY (fun _:List CE=>aB 34 0 [(1, .map m'),(15, .ptr nx .leaf 0 0)])
  (fun js hp nx1=>(js.map fun y=>(CE.me y).b).Nodup∧(∀y∈js,y∈a)∧(∀y∈js,cC b y.s=y.n)∧nx+1≤nx1∧aM hp nx1∧Hp.same nx h' hp∧hp nx=some (.mit m c (js.map fun y=>(CE.me y).b) c))
  (fun js=>a.length-js.length) [] ⟨by simp,by simp,by simp,by simp,dmo hd,kep Hp.same.rfl',by simp[Hp.set]⟩ (wkl trivial) ?_
 rintro js hp nx1 ⟨hjn,hjl,hjw,hn1,hdm,hsm,hit⟩
 generalize hQ:bZ _ _ _ _ _=Q0
 have hmp:hp m=some (.mp (a.map CE.me) c):=by rw[hsm m n1];exact c1
 have hmp':hp m'=some (.mp (b.map CE.me) c'):=by rw[hsm m' n2];exact c2
 simp only[aB,go_sem,reduceIte,jA,jB,jC,jD,reduceCtorEq,jE,jF]
 repeat (first|with_reducible refine bI ?_|with_reducible refine cT ?_|with_reducible refine dZ ?_|with_reducible refine aO ?_|with_reducible refine bT ?_|with_reducible refine bN ?_|with_reducible refine dL ?_)
 refine yQ rfl hit hmp (fun x hx=>by obtain⟨y,hy,rfl⟩:=List.mem_map.1 hx;exact hok.lt y hy) (Nat.le_refl _) ?_ ?_
 ·intro x hx hxn
  obtain⟨y,hy,rfl⟩:=List.mem_map.1 hx
  have hmore:=yF (fun y=>(CE.me y).b) hjn hxn
  have hshort:=tX (fun y=>(CE.me y).b) hjn hjl hy hxn
  have hfind:=aCf CE.me hok.num hy
  simp only[go_sem,reduceIte,jA,jB,jC,jD,reduceCtorEq,jE,jF]
  refine au ?_
  refine yR (es:=a.map CE.me) (c:=c) (m:=m) (since:=c) (seen:=(js.map fun y=>(CE.me y).b)++[(CE.me y).b]) rfl ?_ ?_ (b:=(CE.me y).b) (by simp) hfind ?_
  ·simp only[Hp.set_app,reduceIte]
  ·simp only[Hp.set_app];rw[if_neg (by omega)];exact hmp
  have hyn:(CE.me y).v= .int .i64 y.n:=rfl
  have hyk:(CE.me y).k=y.s.v:=rfl
  have hsf:=Sp.fits_v y.s
  have hlp:bY (.agg 3) 0 y.s.v=y.s.v:=rfl
  have hd2:aM (hp.set nx (.mit m c ((js.map fun y=>(CE.me y).b)++[(CE.me y).b]) c)) nx1:=dmo hdm
  have hs2:Hp.same nx h' (hp.set nx (.mit m c ((js.map fun y=>(CE.me y).b)++[(CE.me y).b]) c)):=bJ hsm (Nat.le_refl _) _
  have hit2:(hp.set nx (.mit m c ((js.map fun y=>(CE.me y).b)++[(CE.me y).b]) c)) nx=some (.mit m c ((js++[y]).map fun y=>(CE.me y).b) c):=by simp[Hp.set]
  have hm2:(hp.set nx (.mit m c ((js.map fun y=>(CE.me y).b)++[(CE.me y).b]) c)) m'=some (.mp (b.map CE.me) c'):=by simp only[Hp.set];rw[if_neg (by omega)];exact hmp'
  have hl2:h'.le (hp.set nx (.mit m c ((js.map fun y=>(CE.me y).b)++[(CE.me y).b]) c)):=hs2.le hd (Hp.le_refl _)
  generalize hp.set nx (.mit m c ((js.map fun y=>(CE.me y).b)++[(CE.me y).b]) c)=hp2 at hd2 hs2 hit2 hm2 hl2⊢
  simp only[hyn,hyk,go_sem,reduceIte,jA,jB,jC,jD,reduceCtorEq,jE,jF]
  have n3:m'<nx1+2:=by omega
  have n4:(m'=nx1+5)=False:=fls
  have n5:(m'=nx1+4)=False:=fls
  have n6:(m'=nx1+3)=False:=fls
  have hmf:=iM y.s b
  have hmg:=aJr hok' y.s
  by_cases hg:cC b y.s=y.n
  ·have hz:decide (y.n≠0)=true:=decide_eq_true (hok.nz y hy)
   have hne:(y.n != y.n)=false:=bnf
   rw[hg,hz] at hmg
   refine aue (e10 hsf hlp hm2 n3 n4 n5 n6 hmf hmg hne) ?_
   rw[←hQ]
   refine aI (js++[y]) (by simp only[List.length_append,jL,jM];omega) ⟨hmore,?_,?_,by first|omega|(dsimp only;omega),dmo hd2,kep hs2,?_⟩ (wkl trivial)
   ·intro q hq
    rcases List.mem_append.1 hq with hq|hq
    ·exact hjl q hq
    rw[List.mem_singleton.1 hq];exact hy
   ·intro q hq
    rcases List.mem_append.1 hq with hq|hq
    ·exact hjw q hq
    rw[List.mem_singleton.1 hq];exact hg
   have e1:∀k,(nx=nx1+k)=False:=fun k=>fls
   simp only[Hp.set_app,e1,if_false]
   exact hit2
  have he:eqC a b=false:=by
   unfold eqC
   rw[Bool.and_eq_false_iff]
   right
   rw[List.all_eq_false]
   exact⟨y,hy,by simpa using hg⟩
  by_cases h0:cC b y.s=0
  ·rw[h0] at hmg
   have hz:decide ((0:Int)≠0)=false:=by decide
   rw[hz] at hmg
   refine aue (e9 hsf hlp hm2 n3 n4 n5 n6 hmf hmg) ?_
   rw[←hQ]
   refine au ?_
   exact out he (lef hd hl2) rfl
  have hz:decide (cC b y.s≠0)=true:=decide_eq_true h0
  have hne:(y.n != cC b y.s)=true:=bnt
  rw[hz] at hmg
  refine aue (e10 hsf hlp hm2 n3 n4 n5 n6 hmf hmg hne) ?_
  rw[←hQ]
  refine au ?_
  exact out he (lef hd hl2) rfl
 intro hall
 have hperm:=aBW (fun y=>(CE.me y).b) hok.num hjn hjl (fun y hy=>hall _ (List.mem_map.2 ⟨y,hy,rfl⟩))
 have he:eqC a b=true:=by
  unfold eqC
  rw[Bool.and_eq_true,decide_eq_true_eq,List.all_eq_true]
  exact⟨hlen,fun y hy=>by rw[decide_eq_true_eq];exact hjw y (hperm.mem_iff.2 hy)⟩
 simp only[go_sem,reduceIte,jA,jB,jC,jD,reduceCtorEq,jE,jF]
 refine au ?_
 rw[←hQ]
 refine au ?_
 exact out he (hsm.le hd (Hp.le_refl _)) rfl
theorem aFp{h:Hp}{cb cb' m m' c c':Nat}{P:Int}{o o':Own}{ws:List Wy}{lv lv':V}{a b:List CE}(hc:dC h cb m P (wys o ws) lv a c)(hc':dC h cb' m' P (wys o' ws) lv' b c')(hok:dQ a c)(hok':dQ b c')(hl:ws.length≤100000):
 aZ Tryz.prog 27 [.ptr cb (.agg 4) 0 0, .ptr cb' (.agg 4) 0 0] h (.bool (eqC a b)):=by
 refine aU (fun L=>trivial) fun h' nx hh=>aD L.count_Same_low fun hd=>?_
 simp only[jL,jM,jA,jB,jN,jO,jP,jQ,V.undef]
 have c1:=hh _ _ hc.cell rfl
 have c2:=hh _ _ hc'.cell rfl
 have D1:=fun h=>(aBo Wy.v Wy.fits_v sP aEk o o' ws ws (by omega) h)
 have hq:decide (ws=ws)=true:=decide_eq_true rfl
 have hp:(P==P)=true:=bqt
 rw[hq] at D1
 simp only[iX,wys] at c1 c2
 refine aue (e3 c1 c2 hp) ?_
 refine bL (aAt hok hok' (h:=h') (hh _ _ hc.mp rfl) (hh _ _ hc'.mp rfl)) rfl (aR _) ?_
 simp only[go_sem,reduceIte,jA,jB,jC,jD,reduceCtorEq,jE,jF]
 refine au ?_
 exact aG h' (leo hd) ⟨rfl,rfl⟩
end Go.Proofs.YtecepaehmojpgaaGreat
namespace Go.Proofs.YtecepaehmojpgaaGreat
open Go.RowKit
attribute [local irreducible] IntKind.wrap
def kC(T:Nat→Nat→List Pa)(xs:List Sp)(k:Nat):List V:=(List.range k).map fun b=>lst (.agg 2) ((ofT (frT T b xs)).map Tm.v)
theorem aGT(T:Nat→Nat→List Pa)(xs:List Sp)(k:Nat):kC T xs (k+1)=kC T xs k++[lst (.agg 2) ((ofT (frT T k xs)).map Tm.v)]:=by simp[kC,List.range_succ]
theorem aGU(T:Nat→Nat→List Pa){xs ys:List Sp}(h:xs.Perm ys)(k:Nat):kC T xs k=kC T ys k:=by
 unfold kC
 exact List.map_congr_left fun b _=>by rw[aIa h]
set_option maxRecDepth 100000 in
set_option maxHeartbeats 4000000 in
theorem wF{h:Hp}{cb m c:Nat}{P:Int}{wv:V}{ot:Own}{rows:List V}{l:List CE}(hc:dC h cb m P wv (.sl .leaf ot rows) l c)(hok:dQ l c)(hl:l.length≤900)(T:Nat→Nat→List Pa)(n:Nat)(hP:P=n)(hT:aHq T n rows)(hlen:∀a b,(T a b).length≤1000)
 (hin:∀y∈l,0≤y.s.p∧y.s.p<n) (hn:n≤100000):
 aZ Tryz.prog 46 [.ptr cb (.agg 4) 0 0] h (lst .leaf (kC T (eC l) n)):=by
 refine gN (fun L=>eV (fun L=>cF (fun b=>eV (fun L=>cF (Tm.names_v L) _) L) _) L) fun h' nx hh=>aD L.count_Counts_Fronts_low fun hd=>?_
 simp only[jL,jM,jA,jB,jN,jO,jP,jQ,V.undef]
 have hc':dC h' cb m P wv (.sl .leaf ot rows) l c:=⟨hh _ _ hc.cell rfl,hh _ _ hc.mp rfl,hc.wf,hc.lf⟩
 have hcb:=hc'.cell
 have n1:cb<nx:=hd _ _ hcb
 have n2:m<nx:=hd _ _ hc'.mp
 refine au ?_
 refine aX ((aEf hc' hok (by omega)).dom.mono ?_)
 rintro v h4 nx4 hnx4 ⟨⟨o,xs,rfl,hperm,hacc,hsm⟩,hd4,_⟩
 unfold cR
 simp only[go_sem,reduceIte,jA,jB,jC,jD,reduceCtorEq,jE,jF]
 have hc4:dC h4 cb m P wv (.sl .leaf ot rows) l c:=⟨by rw[hsm cb n1];exact hcb,by rw[hsm m n2];exact hc'.mp,hc.wf,hc.lf⟩
 have hcb4:=hc4.cell
 have hxl:xs.length≤900:=by rw[hperm.length_eq];have:=aAd l;omega
 have hxs:∀s∈xs,0≤s.p∧s.p<n:=fun s hs=>by
  have:=hperm.mem_iff.1 hs
  unfold eC at this
  obtain⟨y,hy,rfl⟩:=List.mem_map.1 this
  exact hin y (List.mem_filter.1 hy).1
 have hle4:h'.le h4:=hsm.le hd (Hp.le_refl _)
 have hn4:nx≤nx4:=hnx4
 clear hnx4 hacc
 rw[←aGU T hperm]
 subst hP
 have hcb5:=hcb4
 simp only[iX] at hcb5
 refine aue hcb5 ?_
 refine aY (fun q:Nat×Own=>aB 27 0 [(0, .ptr cb (.agg 4) 0 0),(3, .sl .leaf q.2 (kC T xs q.1)),(4, .sl (.agg 3) o (xs.map Sp.v)),(14, .int .i64 n),(15, .int .i64 q.1)])
  (fun q hp nx1=>q.1≤n∧nx4≤nx1∧aM hp nx1∧Hp.same nx4 h4 hp∧Acc hp nx4 q.2 (kC T xs q.1))
  (fun q=>n-q.1) (0, .nil) ⟨Nat.zero_le _,Nat.le_refl _,hd4,Hp.same.rfl',Acc.nil⟩ (wke (show kC T xs 0=[] from rfl)) ?_
 rintro⟨i,oo⟩ hp nx1 ⟨hi,hnx,hdm,hsm4,hacc⟩
 generalize hQ:bZ _ _ _ _ _=Q0
 dsimp only at hi hacc
 simp only[aB,go_sem,reduceIte,jA,jB,jC,jD,reduceCtorEq,jE,jF]
 rcases Nat.lt_or_ge i n with hlt|hge
 ·have hc1:decide ((i:Int)<(n:Int))=true:=dct
  have hw:IntKind.i64.wrap ((i:Int)+1)=((i+1:Nat):Int):=wrp
  have hci:dC hp cb m n wv (.sl .leaf ot rows) l c:=⟨by rw[hsm4 cb (by omega)];exact hcb4,by rw[hsm4 m (by omega)];exact hc4.mp,hc.wf,hc.lf⟩
  have hfl:=aBi (.agg 2) ((ofT (frT T i xs)).map Tm.v)
  have hfn:=aGT T xs i
  have hfe:(kC T xs i).length=i:=by simp[kC]
  refine aue (e2 hc1 hw) ?_
  refine aQ (aFf hci T n rfl hT hlen o xs hxl hxs i hlt) rfl (aR _) ?_
  simp only[go_sem,reduceIte,jA,jB,jC,jD,reduceCtorEq,jE,jF]
  refine aue (e3 hw hfl hfe) ?_
  rw[←hQ]
  refine aI (i+1, .tok (nx1+1)) (by dsimp only;omega) ⟨hlt,by first|omega|(dsimp only;omega),dmo hdm,aKN hsm4 hacc,?_⟩ (wke hfn)
  dsimp only
  rw[hfn]
  exact Acc.new _ (by simp) (by omega)
 have hc1:decide ((i:Int)<(n:Int))=false:=dcf
 have hin:i=n:=by omega
 subst hin
 refine aue hc1 ?_
 rw[←hQ]
 refine au ?_
 refine aG h' (Hp.le_trans hle4 (hsm4.le hd4 (Hp.le_refl _))) ⟨?_,Hp.le_refl _⟩
 simp only[go_sem,reduceIte,jA,jB,jC,jD,reduceCtorEq,jE,jF]
 rw[hacc.loose]
 rfl
theorem dC.keep{h h2:Hp}{cb m c:Nat}{P:Int}{wv lv:V}{l:List CE}{nx:Nat}(hc:dC h cb m P wv lv l c)(hd:aM h nx)(hk:∀x,x<nx→h2 x=h x):dC h2 cb m P wv lv l c:=
 ⟨(hk _ (hd _ _ hc.cell)).trans hc.cell,(hk _ (hd _ _ hc.mp)).trans hc.mp,hc.wf,hc.lf⟩
theorem dC.has{h h2:Hp}{cb m c:Nat}{P:Int}{wv lv:V}{l:List CE}(hc:dC h cb m P wv lv l c)(hk:h.has h2):dC h2 cb m P wv lv l c:=⟨hk _ _ hc.cell rfl,hk _ _ hc.mp rfl,hc.wf,hc.lf⟩
end Go.Proofs.YtecepaehmojpgaaGreat
