/-
Texts of this proof,one behind the other. No conditions.
-/
import Derived.Test.YtecepaehmojpgaaGreatKl
import Derived.Test.YtecepaehmojpgaaGreatKd
import Derived.Test.YtecepaehmojpgaaGreatKe
import Derived.Test.YtecepaehmojpgaaGreatKf
set_option linter.unusedSimpArgs false
set_option linter.unusedVariables false
set_option linter.unusedSectionVars false
open Nat renaming reduceAdd→jA,reduceSub→jB,reduceLT→jC,reduceLeDiff→jD,reduceEqDiff→jE
open Int renaming reduceToNat→jF,toNat_natCast→jG,natCast_add→jH,natCast_one→jI,natCast_zero→jJ
open List renaming length_map→jK,length_cons→jL,length_nil→jM,replicate_succ→jN,replicate_zero→jO,cons_append→jP,nil_append→jQ
namespace Go.Proofs.YtecepaehmojpgaaGreat
open Go.RowKit Go.Sort
structure Sp where
 p:Int
 t:Tm
 deriving DecidableEq,Inhabited
structure Cg where
 s:Sp
 d:Int
 deriving DecidableEq,Inhabited
def Sp.less(a b:Sp):Bool:=decide (a.p<b.p)||(decide (a.p=b.p)&&a.t.less b.t)
theorem Sp.less_irrefl(a:Sp):a.less a=false:=by simp[Sp.less,Tm.less_irrefl]
theorem Sp.less_tri(a b:Sp)(h1:a.less b=false)(h2:b.less a=false):a=b:=by
 simp only[Sp.less,Bool.or_eq_false_iff,decide_eq_false_iff_not,Bool.and_eq_false_iff] at h1 h2
 have hp:a.p=b.p:=by omega
 have ht:a.t=b.t:=Tm.less_tri _ _ (h1.2.resolve_left (fun h=>h hp)) (h2.2.resolve_left (fun h=>h hp.symm))
 cases a;cases b;simp_all
theorem Sp.less_trans{a b c:Sp}(h1:a.less b=true)(h2:b.less c=true):a.less c=true:=by
 simp only[Sp.less,Bool.or_eq_true,decide_eq_true_eq,Bool.and_eq_true] at h1 h2⊢
 rcases h1 with h1|⟨h1,h1'⟩<;>rcases h2 with h2|⟨h2,h2'⟩
 ·left;omega
 ·left;omega
 ·left;omega
 right;exact⟨by omega,Tm.less_trans h1' h2'⟩
def tot(l:List Cg)(s:Sp):Int:=l.foldl (fun n x=>if x.s=s then IntKind.i64.wrap (n+x.d) else n) 0
def aHu(f:Sp→Int)(W:List Cg):Prop:=W.Pairwise (fun a b=>a.s.less b.s=true)∧∀x,x∈W↔(x.d=f x.s∧x.d≠0)
theorem aDT{f:Sp→Int}{a b:List Cg}(ha:aHu f a)(hb:aHu f b):a=b:=by
 have nd:∀{l:List Cg},l.Pairwise (fun a b=>a.s.less b.s=true)→l.Nodup:=fun hl=>hl.imp (fun{x y} hxy e=>by subst e;rw[Sp.less_irrefl] at hxy;cases hxy)
 refine List.Perm.eq_of_pairwise (le:=fun(u v:Cg)=>u.s.less v.s=true) (fun x y _ _ h1 h2=>?_) ha.1 hb.1 ((List.perm_ext_iff_of_nodup (nd ha.1) (nd hb.1)).2 fun x=>by rw[ha.2,hb.2])
 have:=Sp.less_trans h1 h2
 rw[Sp.less_irrefl] at this;cases this
theorem aHu.get{f:Sp→Int}{W:List Cg}(h:aHu f W)(s:Sp):((W.find? fun x=>decide (x.s=s)).map (·.d)).getD 0=f s:=by
 cases hf:W.find? fun x=>decide (x.s=s) with
 |none=>
  have hn:=List.find?_eq_none.1 hf
  by_cases h0:f s=0
  ·simp[h0]
  exact absurd ((h.2 ⟨s,f s⟩).2 ⟨rfl,h0⟩) (fun hm=>by simpa using hn _ hm)
 |some x=>
  have hx:=List.find?_some hf
  have hm:=List.mem_of_find?_eq_some hf
  have hs:x.s=s:=by simpa using hx
  have:=((h.2 x).1 hm).1
  simp[this,hs]
structure CE where
 s:Sp
 n:Int
 b:Nat
 deriving DecidableEq,Inhabited
def cC(l:List CE)(s:Sp):Int:=((l.find? fun x=>decide (x.s=s)).map (·.n)).getD 0
structure dQ(l:List CE)(c:Nat):Prop where
 key:(l.map (·.s)).Nodup
 num:(l.map (·.b)).Nodup
 lt:∀x∈l,x.b<c
 nz:∀x∈l,x.n≠0
theorem aBg(c:Nat):dQ [] c:=⟨by simp,by simp,by simp,by simp⟩
theorem eA{l:List CE}(hk:(l.map (·.s)).Nodup){x:CE}(hx:x∈l):cC l x.s=x.n:=by
 induction l with
 |nil=>simp at hx
 |cons y l ih=>
  simp only[List.map_cons,List.nodup_cons] at hk
  unfold cC
  rw[List.find?_cons]
  rcases List.mem_cons.1 hx with rfl|hx
  ·simp
  have hne:y.s≠x.s:=fun e=>hk.1 (e▸List.mem_map_of_mem hx)
  simp only[decide_eq_false hne]
  exact ih hk.2 hx
theorem eI{l:List CE}{s:Sp}(h:∀x∈l,x.s≠s):cC l s=0:=by
 unfold cC
 rw[List.find?_eq_none.2 (fun x hx=>by simpa using h x hx)]
 rfl
def tF(a b:Sp):Int:=orI [jX a.p b.p,mE a.t b.t]
theorem aIN(a b:Sp):tF a b<0↔a.less b=true:=by
 have h1:=mW.1 a.p b.p
 have h2:=mW.2 a.p b.p
 have h3:=aFU a.t b.t
 have e:tF a b=if jX a.p b.p=0 then (if mE a.t b.t=0 then 0 else mE a.t b.t) else jX a.p b.p:=rfl
 rw[e]
 simp only[Sp.less,Tm.less,Bool.or_eq_true,decide_eq_true_eq,Bool.and_eq_true]
 split
 ·rename_i h0
  have:=h2.1 h0
  split
  ·omega
  rw[h3];omega
 rename_i h0
 have:a.p≠b.p:=fun e=>h0 (h2.2 e)
 rw[h1];omega
theorem nJ(a b:Sp):ltOf tF a b=a.less b:=by
 unfold ltOf
 rw[Bool.eq_iff_iff]
 simp[aIN]
theorem aGj:SWO (ltOf tF):=by
 refine⟨fun x=>?_,fun x y z=>?_,fun x y z=>?_⟩
 ·rw[nJ];exact Sp.less_irrefl x
 ·simp only[nJ];exact Sp.less_trans
 simp only[nJ]
 intro h1 h2
 cases h:x.less z with
 |false=>rfl
 |true=>
  exfalso
  cases hxy:y.less x with
  |true=>have:=Sp.less_trans hxy h;rw[this] at h2;cases h2
  |false=>
   have:=Sp.less_tri _ _ h1 hxy
   subst this
   rw[h] at h2;cases h2
theorem aEu{l:List CE}{c:Nat}(h:dQ l c):aHu (cC l) ((dF tF (l.map (·.s))).map fun s=>⟨s,cC l s⟩):=by
 have hp:=dE tF (l.map (·.s))
 refine⟨?_,fun x=>?_⟩
 ·rw[List.pairwise_map]
  have hs:=gJ aGj (l.map (·.s))
  have hnd:(dF tF (l.map (·.s))).Nodup:=hp.symm.nodup h.key
  have hb:=List.pairwise_and_iff.2 ⟨hs,hnd⟩
  refine hb.imp fun{a b} hab=>?_
  have h1:=hab.1
  rw[nJ] at h1
  cases hl:a.less b with
  |true=>rfl
  |false=>exact absurd (Sp.less_tri _ _ hl h1) hab.2
 rw[List.mem_map]
 constructor
 ·rintro⟨s,hs,rfl⟩
  obtain⟨y,hy,rfl⟩:=List.mem_map.1 (hp.mem_iff.1 hs)
  exact⟨rfl,by rw[eA h.key hy];exact h.nz y hy⟩
 rintro⟨h1,h2⟩
 refine⟨x.s,hp.mem_iff.2 ?_,by cases x;simp_all⟩
 apply Classical.byContradiction
 intro hn
 exact h2 (by rw[h1];exact eI fun y hy e=>hn (List.mem_map.2 ⟨y,hy,e⟩))
end Go.Proofs.YtecepaehmojpgaaGreat
namespace Go.Proofs.YtecepaehmojpgaaGreat
open Go.RowKit
def Sp.v(s:Sp):V:= .agg [.int .i64 s.p, .int .i64 s.t.e, .int .i64 s.t.r]
def Cg.v(x:Cg):V:= .agg [.int .i64 x.s.p, .int .i64 x.s.t.e, .int .i64 x.s.t.r, .int .i64 x.d]
def CE.me(x:CE):ME:=⟨x.s.v, .int .i64 x.n,x.b⟩
theorem Sp.fits_v(s:Sp):s.v.fits (.agg 3)=true:=rfl
theorem Cg.fits_v(s:Cg):s.v.fits (.agg 4)=true:=rfl
theorem aHx(a b:Sp):veq (.plain (.agg 3) [.int, .int, .int]) a.v b.v=some (decide (a=b)):=by
 obtain⟨p,e,r⟩:=a
 obtain⟨p',e',r'⟩:=b
 have h:veq (.plain (.agg 3) [.int, .int, .int]) (Sp.v ⟨p,e,r⟩) (Sp.v ⟨p',e',r'⟩)=some ((p==p')&&((e==e')&&(r==r'))):=rfl
 rw[h]
 congr 1
 rw[Bool.eq_iff_iff]
 simp
theorem iM(s:Sp):∀l:List CE,eJ (.plain (.agg 3) [.int, .int, .int]) s.v (l.map CE.me)=some (l.findIdx? fun x=>decide (x.s=s))
 | []=>rfl
 |x::l=>by
  rw[List.map_cons,eJ,List.findIdx?_cons]
  simp only[CE.me,aHx]
  by_cases h:s=x.s
  ·simp[h]
  have h':¬x.s=s:=fun e=>h e.symm
  have ih:=iM s l
  simp[h,h',ih]
def aKr(l:List CE)(c:Nat)(s:Sp):List CE×Nat×Nat:=match l.findIdx? (fun x=>decide (x.s=s)) with
 |some j=>(l,j,c)
 |none=>(l++[⟨s,0,c⟩],l.length,c+1)
def tM(l:List CE)(c:Nat)(s:Sp)(d:Int):List CE×Nat:=
 let (l1,j,c1):=aKr l c s
 let n:=IntKind.i64.wrap (cC l s+d)
 if n=0 then (l1.eraseIdx j,c1) else (l1.set j ⟨s,n,(l1.getD j default).b⟩,c1)
theorem sZ{α:Type}{p:α→Bool}{l:List α}{j:Nat}(h:l.findIdx? p=some j):∃hj:j<l.length,p l[j]=true∧l.find? p=some l[j]:=by
 induction l generalizing j with
 |nil=>simp at h
 |cons a l ih=>
  rw[List.findIdx?_cons] at h
  by_cases ha:p a=true
  ·rw[if_pos ha] at h
   injection h with h;subst h
   exact⟨by simp,ha,by simp[List.find?_cons,ha]⟩
  rw[if_neg ha] at h
  obtain⟨j',h',rfl⟩:=Option.map_eq_some_iff.1 h
  obtain⟨h1,h2,h3⟩:=ih h'
  refine⟨by simpa using h1,by simpa using h2,?_⟩
  rw[List.find?_cons]
  simp only[Bool.not_eq_true] at ha
  simp only[ha]
  simpa using h3
theorem aBp{l:List CE}{c:Nat}(h:dQ l c)(s:Sp):∃l1 j c1,aKr l c s=(l1,j,c1)∧∃hj:j<l1.length,l1[j].s=s∧l1[j].n=cC l s∧(l1.map (·.s)).Nodup∧(l1.map (·.b)).Nodup∧(∀x∈l1,x.b<c1)∧c≤c1∧(∀x∈l1,x.n≠0∨x.s=s)∧
 ((l.findIdx? (fun x=>decide (x.s=s))=some j∧l1=l∧c1=c)∨(l.findIdx? (fun x=>decide (x.s=s))=none∧l1=l++[⟨s,0,c⟩]∧j=l.length∧c1=c+1∧cC l s=0))∧(∀t,t≠s→cC l1 t=cC l t):=by
 unfold aKr
 cases hf:l.findIdx? (fun x=>decide (x.s=s)) with
 |some j=>
  obtain⟨hj,h1,h2⟩:=sZ hf
  refine⟨l,j,c,rfl,hj,by simpa using h1,?_,h.key,h.num,h.lt,Nat.le_refl _,fun x hx=> .inl (h.nz x hx), .inl ⟨rfl,rfl,rfl⟩,fun _ _=>rfl⟩
  unfold cC
  rw[h2];rfl
 |none=>
  have hn:∀x∈l,x.s≠s:=by
   intro x hx
   have:=List.findIdx?_eq_none_iff.1 hf x hx
   simpa using this
  have h0:cC l s=0:=eI hn
  refine⟨_,_,_,rfl,by simp,by simp,by simp[h0],?_,?_,?_,Nat.le_succ _,?_, .inr ⟨rfl,rfl,rfl,rfl,h0⟩,?_⟩
  ·rw[List.map_append,List.nodup_append]
   refine⟨h.key,by simp,fun a ha b hb hab=>?_⟩
   obtain⟨x,hx,rfl⟩:=List.mem_map.1 ha
   simp only[List.map_cons,List.map_nil,List.mem_singleton] at hb
   exact hn x hx (hab.trans hb)
  ·rw[List.map_append,List.nodup_append]
   refine⟨h.num,by simp,fun a ha b hb hab=>?_⟩
   obtain⟨x,hx,rfl⟩:=List.mem_map.1 ha
   simp only[List.map_cons,List.map_nil,List.mem_singleton] at hb
   have:=h.lt x hx
   omega
  ·intro x hx
   rcases List.mem_append.1 hx with hx|hx
   ·have:=h.lt x hx;omega
   rw[List.mem_singleton.1 hx];exact Nat.lt_succ_self _
  ·intro x hx
   rcases List.mem_append.1 hx with hx|hx
   ·exact .inl (h.nz x hx)
   rw[List.mem_singleton.1 hx];exact .inr rfl
  intro t ht
  unfold cC
  rw[List.find?_append]
  cases l.find? (fun x=>decide (x.s=t)) with
  |some x=>rfl
  |none=>
   have:¬s=t:=fun e=>ht e.symm
   simp[this]
theorem aKp{l:List CE}(hn:(l.map (·.b)).Nodup){j:Nat}(hj:j<l.length):(l.map CE.me).findIdx? (fun e=>((e.b:Nat):Int)==(l[j].b:Int))=some j:=by
 induction l generalizing j with
 |nil=>simp at hj
 |cons a l ih=>
  rw[List.map_cons,List.nodup_cons] at hn
  rw[List.map_cons,List.findIdx?_cons]
  cases j with
  |zero=>simp[CE.me]
  |succ j=>
   have hj':j<l.length:=by simpa using hj
   have hne:¬a.b=l[j].b:=fun e=>hn.1 (List.mem_map.2 ⟨l[j],List.getElem_mem _,e.symm⟩)
   have hb:(((CE.me a).b:Int)==(((a::l)[j+1]).b:Int))=false:=by
    simp only[List.getElem_cons_succ,CE.me,beq_eq_false_iff_ne,ne_eq]
    omega
   rw[hb]
   have:=ih hn.2 hj'
   simp only[List.getElem_cons_succ]
   rw[this];rfl
theorem sK(l:List CE)(s:Sp):lR false (.int .i64 0) (l.map CE.me) (l.findIdx? fun x=>decide (x.s=s))= .int .i64 (cC l s):=by
 cases hf:l.findIdx? (fun x=>decide (x.s=s)) with
 |none=>
  have hn:∀x∈l,x.s≠s:=fun x hx=>by simpa using List.findIdx?_eq_none_iff.1 hf x hx
  rw[eI hn];rfl
 |some j=>
  obtain⟨hj,h1,h2⟩:=sZ hf
  have:(l.map CE.me).getD j default=CE.me l[j]:=by rw[List.getD_eq_getElem?_getD,List.getElem?_map,List.getElem?_eq_getElem hj];rfl
  simp only[lR,this]
  unfold cC
  rw[h2];rfl
theorem zF{l:List CE}(hk:(l.map (·.s)).Nodup){j:Nat}(hj:j<l.length):l.findIdx? (fun x=>decide (x.s=l[j].s))=some j:=by
 induction l generalizing j with
 |nil=>simp at hj
 |cons a l ih=>
  rw[List.map_cons,List.nodup_cons] at hk
  rw[List.findIdx?_cons]
  cases j with
  |zero=>simp
  |succ j=>
   have hj':j<l.length:=by simpa using hj
   have hne:¬a.s=l[j].s:=fun e=>hk.1 (List.mem_map.2 ⟨l[j],List.getElem_mem _,e.symm⟩)
   have:=ih hk.2 hj'
   simp only[List.getElem_cons_succ,hne,decide_false,Bool.false_eq_true,if_false,this]
   rfl
theorem aEy{l:List CE}{j:Nat}(hj:j<l.length):(l.map CE.me).set j ⟨l[j].s.v,((l.map CE.me).getD j default).v,((l.map CE.me).getD j default).b⟩=l.map CE.me:=by
 have:(l.map CE.me).getD j default=CE.me l[j]:=by rw[List.getD_eq_getElem?_getD,List.getElem?_map,List.getElem?_eq_getElem hj];rfl
 rw[this]
 apply List.ext_getElem
 ·simp
 intro i h1 h2
 rw[List.getElem_set]
 split
 ·rename_i e;subst e;rw[List.getElem_map];rfl
 rfl
theorem aJh{l:List CE}{j:Nat}(hj:j<l.length){s:Sp}(hs:l[j].s=s)(n:Int):(l.map CE.me).set j ⟨((l.map CE.me).getD j default).k, .int .i64 n,((l.map CE.me).getD j default).b⟩=(l.set j ⟨s,n,l[j].b⟩).map CE.me:=by
 have:(l.map CE.me).getD j default=CE.me l[j]:=by rw[List.getD_eq_getElem?_getD,List.getElem?_map,List.getElem?_eq_getElem hj];rfl
 rw[this,List.map_set]
 simp only[CE.me,hs]
theorem Hp.set_set(h:Hp)(n:Nat)(a b:Blk):(h.set n a).set n b=h.set n b:=by
 funext m
 simp only[Hp.set]
 split<;>rfl
theorem Hp.set_comm(h:Hp){n m:Nat}(hne:n≠m)(a b:Blk):(h.set n a).set m b=(h.set m b).set n a:=by
 funext q
 simp only[Hp.set]
 split
 ·rename_i e;subst e;rw[if_neg (fun e=>hne e.symm)]
 rfl
attribute [local irreducible] IntKind.wrap
set_option maxRecDepth 100000 in
theorem aIT(l:List CE)(c:Nat)(h:dQ l c)(s:Sp)(d:Int)(m:Nat)(h':Hp)(nx:Nat)(hm:h' m=some (.mp (l.map CE.me) c)):
 aW Tryz.prog 71 [.map m,s.v, .int .i64 d] h' nx fun v h'' _=>h''=h'.set m (.mp ((tM l c s d).1.map CE.me) (tM l c s d).2):=by
 refine aD L.count_add_low fun hd=>?_
 simp only[List.length_cons,List.length_nil,Nat.reduceAdd,Nat.reduceSub,List.replicate_succ,List.replicate_zero,List.cons_append,List.nil_append,V.undef]
 obtain⟨l1,j,c1,he,hj,hjs,hjn,hk1,hb1,hlt1,hcc,hnz1,hcase,hoth⟩:=aBp h s
 have hmn:m<nx:=hd _ _ hm
 have hsf:=Sp.fits_v s
 have ha:tM l c s d=if IntKind.i64.wrap (cC l s+d)=0 then (l1.eraseIdx j,c1) else (l1.set j ⟨s,IntKind.i64.wrap (cC l s+d),(l1.getD j default).b⟩,c1):=by
  unfold tM;rw[he]
 have hgj:l1.getD j default=l1[j]:=by rw[List.getD_eq_getElem?_getD,List.getElem?_eq_getElem hj];rfl
 rw[hgj] at ha
 have hg1:cC l1 s=cC l s:=by rw[←hjn,←hjs];exact eA hk1 (List.getElem_mem _)
 refine bI (bN ?_)
 refine eW rfl (by simp only[hsf,go_sem,reduceIte,Nat.reduceAdd,Nat.reduceSub,Nat.reduceLT,Nat.reduceLeDiff,reduceCtorEq,Nat.reduceEqDiff,Int.reduceToNat];try omega) ?_
 simp only[hsf,go_sem,reduceIte,Nat.reduceAdd,Nat.reduceSub,Nat.reduceLT,Nat.reduceLeDiff,reduceCtorEq,Nat.reduceEqDiff,Int.reduceToNat]
 refine aO (bI (pS ?_))
 obtain⟨n,hn⟩:∃n,n=IntKind.i64.wrap (cC l s+d):=⟨_,rfl⟩
 obtain⟨H0,hH0⟩:∃H0,H0=h'.set nx (.arr (.agg 3) [s.v]):=⟨_,rfl⟩
 obtain⟨F,hF⟩:∃F:(Nat→Bool)→List V,∀D,F D=[.map m,s.v, .int .i64 d, .tup [], .ptr nx (.agg 3) 0 0, .tup [],if D 0=true then .map m else .tup [],if D 1=true then s.v else .tup [],if D 2=true then .int .i64 (cC l s) else .tup [],if D 3=true then .int .i64 d else .tup [],if D 4=true then .int .i64 n else .tup [],
  if D 5=true then .tup [.int .i64 (cC l s), .int .i64 l1[j].b] else .tup [],if D 6=true then .int .i64 l1[j].b else .tup [], .tup [], .tup [], .tup [], .tup [], .tup [], .tup []]:=⟨_,fun _=>rfl⟩
 obtain⟨H,hH⟩:∃H:(Nat→Bool)→Hp,∀D,H D=if D 7=true then H0.set m (.mp ((l1.set j ⟨s,n,l1[j].b⟩).map CE.me) c1) else if D 5=true then H0.set m (.mp (l1.map CE.me) c1) else H0:=⟨_,fun _=>rfl⟩
 refine⟨fun D s'=>∃nx',s'=⟨F D,H D,nx'⟩∧nx+1≤nx',⟨nx+1,by simp[hF,hH,hH0],Nat.le_refl _⟩,?_,?_⟩
 ·rintro D i o deps s' hi hDi hdeps hcl ⟨nx',rfl,hnx⟩
  have hne:nx≠m:=by omega
  have hbox:H D nx=some (.arr (.agg 3) [s.v]):=by
   rw[hH,hH0]
   split
   ·simp[Hp.set,hne]
   split<;>simp[Hp.set,hne]
  have h7:D 7=true→D 0=true∧D 1=true∧D 2=true∧D 3=true∧D 4=true∧D 5=true∧D 6=true:=fun h=>by
   have:=hcl 7 _ _ rfl h
   exact⟨this 0 (by decide),this 1 (by decide),this 2 (by decide),this 3 (by decide),this 4 (by decide),this 5 (by decide),this 6 (by decide)⟩
  rcases i with _|_|_|_|_|_|_|_|i
  all_goals first|(injection hi with hi;injection hi with q1 q2;subst q1;subst q2)|skip
  ·simp[aV,LOp.run,bD.sem,aL.ev,bF,V.undef,hF,hH,hnx]
  ·simp[aV,LOp.run,bD.sem,aL.ev,bF,V.undef,hF,hbox,jU,(rfl:bY (.agg 3) 0 s.v=s.v),V.fits,hnx]
   simp[hH]
   first|omega|exact hnx|exact⟨_,rfl,hnx⟩|exact⟨_,⟨rfl,rfl⟩,hnx⟩
  ·have d0:=hdeps 0 (by decide)
   have d1:=hdeps 1 (by decide)
   have d7:D 7=false:=by
    cases h:D 7 with
    |false=>rfl
    |true=>have:=(h7 h).2.2.1;rw[this] at hDi;cases hDi
   cases h5:D 5 with
   |true=>
    have hHm:H D m=some (.mp (l1.map CE.me) c1):=by rw[hH,if_neg (by simp[d7]),if_pos h5];simp[Hp.set]
    simp[aV,LOp.run,bD.sem,aL.ev,bF,V.undef,hF,d0,d1,hsf,hHm,iM,sK,hg1,hnx]
    simp[hH]<;>omega
   |false=>
    have hHm:H D m=some (.mp (l.map CE.me) c):=by rw[hH,if_neg (by simp[d7]),if_neg (by simp[h5]),hH0];simp[Hp.set,Ne.symm hne,hm]
    simp[aV,LOp.run,bD.sem,aL.ev,bF,V.undef,hF,d0,d1,hsf,hHm,iM,sK,hg1,hnx]
    simp[hH]<;>omega
  ·simp[aV,LOp.run,bD.sem,aL.ev,bF,V.undef,hF,hH,hnx]
  ·have d2:=hdeps 2 (by decide)
   have d3:=hdeps 3 (by decide)
   simp[aV,LOp.run,bD.sem,aL.ev,bF,V.undef,hF,d2,d3,aGP,←hn,hnx]
   simp[hH]<;>omega
  ·have d0:=hdeps 0 (by decide)
   have d1:=hdeps 1 (by decide)
   have d7:D 7=false:=by
    cases h:D 7 with
    |false=>rfl
    |true=>have:=(h7 h).2.2.2.2.2.1;rw[this] at hDi;cases hDi
   have hHm:H D m=some (.mp (l.map CE.me) c):=by rw[hH,if_neg (by simp[d7]),if_neg (by simp[hDi]),hH0];simp[Hp.set,Ne.symm hne,hm]
   have hHD:H D=H0:=by rw[hH,if_neg (by simp[d7]),if_neg (by simp[hDi])]
   have hgo:∀R:V→Hp→Prop,R (.tup [.int .i64 (cC l s), .int .i64 l1[j].b]) (H0.set m (.mp (l1.map CE.me) c1))→(MOp.ent (.agg 3) [.int, .int, .int] (.int .i64 0) (.slot 6) (.slot 7)).sem (F D) (H D) nx' R:=by
    intro R hR
    simp only[MOp.sem,aL.ev,hF,List.getD_cons_succ,List.getD_cons_zero,d0,d1,if_true,hsf,hHm,iM,true_and]
    rw[hHD]
    rcases hcase with⟨e1,rfl,rfl⟩|⟨e1,rfl,rfl,rfl,e0⟩
    ·simp only[e1]
     have hg:(l1.map CE.me).getD j default=CE.me l1[j]:=by rw[List.getD_eq_getElem?_getD,List.getElem?_map,List.getElem?_eq_getElem hj];rfl
     have:=aEy hj
     rw[hjs] at this
     rw[this,hg]
     simp only[CE.me,hjn]
     exact hR
    simp only[e1]
    simp only[e0,List.map_append,List.map_cons,List.map_nil] at hR
    simpa [CE.me] using hR
   show(MOp.ent (.agg 3) [.int, .int, .int] (.int .i64 0) (.slot 6) (.slot 7)).sem (F D) (H D) nx' (fun v h'=>aV Tryz.prog [] _ ⟨bF (F D) (some 11) v,h',nx'+1⟩)
   refine hgo _ ?_
   simp[aV,bF,hF,hH,d7]<;>omega
  ·have d5:=hdeps 5 (by decide)
   simp[aV,LOp.run,bD.sem,aL.ev,bF,V.undef,hF,d5,hnx]
   simp[hH]<;>omega
  ·have d0:=hdeps 0 (by decide)
   have d4:=hdeps 4 (by decide)
   have d5:=hdeps 5 (by decide)
   have d6:=hdeps 6 (by decide)
   have hHD:H D=H0.set m (.mp (l1.map CE.me) c1):=by rw[hH,if_neg (by simp[hDi]),if_pos d5]
   have hHm:H D m=some (.mp (l1.map CE.me) c1):=by rw[hHD];simp[Hp.set]
   have hgo:∀R:V→Hp→Prop,R V.undef (H0.set m (.mp ((l1.set j ⟨s,n,l1[j].b⟩).map CE.me) c1))→(MOp.est (.slot 6) (.slot 12) (.slot 10)).sem (F D) (H D) nx' R:=by
    intro R hR
    simp only[MOp.sem,aL.ev,hF,List.getD_cons_succ,List.getD_cons_zero,d0,d4,d6,if_true,hHm]
    refine⟨j,aKp hb1 hj,?_⟩
    rw[hHD,Hp.set_set,aJh hj hjs]
    exact hR
   show(MOp.est (.slot 6) (.slot 12) (.slot 10)).sem (F D) (H D) nx' (fun v h'=>aV Tryz.prog [] _ ⟨bF (F D) none v,h',nx'+1⟩)
   refine hgo _ ?_
   simp[aV,bF,hF,hH]<;>omega
  simp[L.count_add_r1] at hi
 rintro D s' hD ⟨nx',rfl,hnx⟩
 have dd:=fun i (h:i<8)=>hD i h
 have hFD:F D=[.map m,s.v, .int .i64 d, .tup [], .ptr nx (.agg 3) 0 0, .tup [], .map m,s.v, .int .i64 (cC l s), .int .i64 d, .int .i64 n, .tup [.int .i64 (cC l s), .int .i64 l1[j].b], .int .i64 l1[j].b, .tup [], .tup [], .tup [], .tup [], .tup [], .tup []]:=by
  rw[hF];simp[dd 0,dd 1,dd 2,dd 3,dd 4,dd 5,dd 6]
 have hHD:H D=H0.set m (.mp ((l1.set j ⟨s,n,l1[j].b⟩).map CE.me) c1):=by rw[hH,if_pos (dd 7 (by decide))]
 rw[hFD,hHD]
 obtain⟨l2,hl2⟩:∃l2,l2=l1.set j ⟨s,n,l1[j].b⟩:=⟨_,rfl⟩
 rw[←hl2]
 have hj2:j<l2.length:=by rw[hl2];simpa using hj
 have hat:l2[j]=⟨s,n,l1[j].b⟩:=by simp[hl2]
 have hks:l2.map (·.s)=l1.map (·.s):=by
  rw[hl2,List.map_set]
  have:(l1.map (·.s)).set j s=(l1.map (·.s)).set j ((l1.map (·.s))[j]'(by simpa using hj)):=by simp[hjs]
  rw[this,List.set_getElem_self]
 have hk2:(l2.map (·.s)).Nodup:=by rw[hks];exact hk1
 have hg2:cC l2 s=n:=by
  have:=eA hk2 (List.getElem_mem hj2)
  rw[hat] at this
  exact this
 have hf2:l2.findIdx? (fun x=>decide (x.s=s))=some j:=by
  have:=zF hk2 hj2
  rw[hat] at this
  exact this
 have hne:¬nx=m:=by omega
 have hne':¬m=nx:=by omega
 have hb2:(H0.set m (.mp (l2.map CE.me) c1)) nx=some (.arr (.agg 3) [s.v]):=by rw[hH0];simp[Hp.set,hne]
 have hm2:(H0.set m (.mp (l2.map CE.me) c1)) m=some (.mp (l2.map CE.me) c1):=by simp[Hp.set]
 have hle:∀X:Blk,(h'.set m X).le (H0.set m X):=fun X=>by
  rw[hH0,Hp.set_comm _ hne]
  exact kB (Hp.le_refl _) (by simp only[Hp.set];rw[if_neg hne];exact aM.none hd (Nat.le_refl _)) _
 have hset:∀X,(H0.set m (.mp (l2.map CE.me) c1)).set m X=H0.set m X:=fun X=>Hp.set_set _ _ _ _
 have h2le:=hle (.mp (l2.map CE.me) c1)
 generalize H0.set m (.mp (l2.map CE.me) c1)=h2 at hb2 hm2 hset h2le⊢
 show qB _ _ cD.normal _
 refine aO ?_
 by_cases h0:n=0
 ·rw[if_pos (by rw[←hn];exact h0)] at ha
  have hc0:(n==0)=true:=by simp[h0]
  rw[ha]
  have her:(l2.map CE.me).eraseIdx j=(l1.eraseIdx j).map CE.me:=by
   rw[hl2]
   apply List.ext_getElem
   ·simp[List.length_eraseIdx]
   intro i h1 h2
   simp only[List.getElem_eraseIdx,List.getElem_set,List.getElem_map]
   split
   ·rw[if_neg (by omega)]
   rw[if_neg (by omega)]
  refine aue (ee7 hb2 hm2 iM sK hg2 hc0 hsf) ?_
  refine aDh hsf rfl hm2 (by rw[show aL.ev _ _=s.v from rfl,iM,hf2]) ?_
  rw[her,hset]
  refine au ?_
  exact⟨_,hle _,rfl⟩
 rw[if_neg (by rw[←hn];exact h0),←hn,←hl2] at ha
 have hc0:(n==0)=false:=by simp[h0]
 rw[ha]
 refine aue (ee7 hb2 hm2 iM sK hg2 hc0 hsf) ?_
 exact⟨_,h2le,rfl⟩
theorem aBf{α:Type}{l:List α}{j:Nat}{x:α}:x∈l.eraseIdx j↔∃(i:Nat) (h:i<l.length),i≠j∧l[i]=x:=by
 rw[List.mem_eraseIdx_iff_getElem]
theorem aIn{l:List CE}(hk:(l.map (·.s)).Nodup){i j:Nat}(hi:i<l.length)(hj:j<l.length)(h:l[i].s=l[j].s):i=j:=by
 have h1:=zF hk hi
 have h2:=zF hk hj
 rw[h,h2] at h1
 injection h1 with h1
 exact h1.symm
theorem aJL{l:List CE}{c:Nat}(h:dQ l c)(s:Sp)(d:Int):
 dQ (tM l c s d).1 (tM l c s d).2∧(∀t,cC (tM l c s d).1 t=if t=s then IntKind.i64.wrap (cC l s+d) else cC l t)∧(tM l c s d).1.length≤l.length+1:=by
 obtain⟨l1,j,c1,he,hj,hjs,hjn,hk1,hb1,hlt1,hcc,hnz1,hcase,hoth⟩:=aBp h s
 have hgj:l1.getD j default=l1[j]:=by rw[List.getD_eq_getElem?_getD,List.getElem?_eq_getElem hj];rfl
 have hlen:l1.length≤l.length+1:=by
  rcases hcase with⟨_,rfl,_⟩|⟨_,rfl,_⟩
  ·omega
  simp
 have ha:tM l c s d=if IntKind.i64.wrap (cC l s+d)=0 then (l1.eraseIdx j,c1) else (l1.set j ⟨s,IntKind.i64.wrap (cC l s+d),l1[j].b⟩,c1):=by
  unfold tM;rw[he];simp only[hgj]
 generalize IntKind.i64.wrap (cC l s+d)=n at ha⊢
 by_cases h0:n=0
 ·rw[if_pos h0] at ha
  rw[ha]
  have hmem:∀{x},x∈l1.eraseIdx j→x∈l1∧x.s≠s:=by
   intro x hx
   obtain⟨i,hi,hne,rfl⟩:=aBf.1 hx
   refine⟨List.getElem_mem _,fun e=>hne (aIn hk1 hi hj (e.trans hjs.symm))⟩
  have hsub:((l1.eraseIdx j).map (·.s)).Nodup:=(List.Sublist.map _ (List.eraseIdx_sublist _ _)).nodup hk1
  refine⟨⟨hsub,(List.Sublist.map _ (List.eraseIdx_sublist _ _)).nodup hb1,fun x hx=>hlt1 x (hmem hx).1,fun x hx=>(hnz1 x (hmem hx).1).resolve_right (hmem hx).2⟩,fun t=>?_,?_⟩
  ·split
   ·rename_i e
    subst e
    rw[eI (fun x hx=>(hmem hx).2),h0]
   rename_i e
   rw[←hoth t e]
   by_cases hex:∃x∈l1,x.s=t
   ·obtain⟨x,hx,rfl⟩:=hex
    have hx':x∈l1.eraseIdx j:=by
     obtain⟨i,hi,rfl⟩:=List.mem_iff_getElem.1 hx
     exact aBf.2 ⟨i,hi,fun e2=>e (by subst e2;exact hjs),rfl⟩
    rw[eA hsub hx',eA hk1 hx]
   rw[eI (fun x hx e2=>hex ⟨x,(hmem hx).1,e2⟩),eI (fun x hx e2=>hex ⟨x,hx,e2⟩)]
  have:=List.length_eraseIdx_le l1 j
  show(l1.eraseIdx j).length≤_
  omega
 rw[if_neg h0] at ha
 rw[ha]
 obtain⟨l2,hl2⟩:∃l2,l2=l1.set j ⟨s,n,l1[j].b⟩:=⟨_,rfl⟩
 rw[←hl2]
 have hj2:j<l2.length:=by rw[hl2];simpa using hj
 have hat:l2[j]=⟨s,n,l1[j].b⟩:=by simp[hl2]
 have hks:l2.map (·.s)=l1.map (·.s):=by
  rw[hl2,List.map_set]
  have:(l1.map (·.s)).set j s=(l1.map (·.s)).set j ((l1.map (·.s))[j]'(by simpa using hj)):=by simp[hjs]
  rw[this,List.set_getElem_self]
 have hbs:l2.map (·.b)=l1.map (·.b):=by
  rw[hl2,List.map_set]
  have:(l1.map (·.b)).set j l1[j].b=(l1.map (·.b)).set j ((l1.map (·.b))[j]'(by simpa using hj)):=by simp
  rw[this,List.set_getElem_self]
 have hk2:(l2.map (·.s)).Nodup:=by rw[hks];exact hk1
 have hmem:∀{x},x∈l2→x=⟨s,n,l1[j].b⟩∨(x∈l1∧x.s≠s):=by
  intro x hx
  obtain⟨i,hi,rfl⟩:=List.mem_iff_getElem.1 hx
  have hi1:i<l1.length:=by rw[hl2] at hi;simpa using hi
  by_cases e:i=j
  ·subst e;exact .inl hat
  right
  have:l2[i]=l1[i]:=by simp[hl2,List.getElem_set,Ne.symm e]
  rw[this]
  exact⟨List.getElem_mem _,fun e2=>e (aIn hk1 hi1 hj (e2.trans hjs.symm))⟩
 refine⟨⟨hk2,by rw[hbs];exact hb1,fun x hx=>?_,fun x hx=>?_⟩,fun t=>?_,?_⟩
 ·rcases hmem hx with rfl|hx
  ·exact hlt1 l1[j] (List.getElem_mem _)
  exact hlt1 x hx.1
 ·rcases hmem hx with rfl|hx
  ·exact h0
  exact(hnz1 x hx.1).resolve_right hx.2
 ·split
  ·rename_i e
   subst e
   have:=eA hk2 (List.getElem_mem hj2)
   rw[hat] at this
   exact this
  rename_i e
  rw[←hoth t e]
  by_cases hex:∃x∈l1,x.s=t
  ·obtain⟨x,hx,rfl⟩:=hex
   have hx':x∈l2:=by
    obtain⟨i,hi,rfl⟩:=List.mem_iff_getElem.1 hx
    have hne:i≠j:=fun e2=>e (by subst e2;exact hjs)
    have:l2[i]'(by rw[hl2];simpa using hi)=l1[i]:=by simp[hl2,List.getElem_set,Ne.symm hne]
    rw[←this];exact List.getElem_mem _
   rw[eA hk2 hx',eA hk1 hx]
  refine(eI fun x hx e2=>?_).trans (eI fun x hx e2=>hex ⟨x,hx,e2⟩).symm
  rcases hmem hx with rfl|hx
  ·exact e e2.symm
  exact hex ⟨x,hx.1,e2⟩
 show l2.length≤_
 rw[hl2,List.length_set];exact hlen
def eF:List CE→Nat→List Cg→List CE×Nat
 |l,c,[]=>(l,c)
 |l,c,x::r=>eF (tM l c x.s x.d).1 (tM l c x.s x.d).2 r
theorem wK(x:Cg):∀(r:List Cg) (l:List CE) (c:Nat),eF l c (r++[x])=tM (eF l c r).1 (eF l c r).2 x.s x.d
 | [],_,_=>rfl
 |y::r,l,c=>wK x r _ _
def wT(f:Sp→Int)(l:List Cg)(s:Sp):Int:=l.foldl (fun n x=>if x.s=s then IntKind.i64.wrap (n+x.d) else n) (f s)
theorem mZ:∀(r:List Cg) {l:List CE} {c:Nat},dQ l c→dQ (eF l c r).1 (eF l c r).2∧(∀t,cC (eF l c r).1 t=wT (cC l) r t)∧(eF l c r).1.length≤l.length+r.length
 | [],l,c,h=>⟨h,fun _=>rfl,by simp[eF]⟩
 |x::r,l,c,h=>by
  obtain⟨h1,h2,h3⟩:=aJL h x.s x.d
  obtain⟨q1,q2,q3⟩:=mZ r h1
  refine⟨q1,fun t=>?_,?_⟩
  ·rw[eF,q2 t]
   unfold wT
   rw[List.foldl_cons,h2 t]
   congr 1
   by_cases e:x.s=t
   ·subst e;simp
   rw[if_neg e,if_neg (fun e2=>e e2.symm)]
  rw[eF,List.length_cons]
  omega
end Go.Proofs.YtecepaehmojpgaaGreat
namespace Go.Proofs.YtecepaehmojpgaaGreat
open Go.Proofs.YtecepaehmojpgaaGreat renaming gW→uA,fK→uB,cU→uC,cV→uD,cK→uE,gX→uF,dI→uG,cW→uH,cX→uI,cL→uJ,dH→uK,dN→uL,fL→uM,gY→uN,eG→uO,bQ→uP,kN→uQ,iP→uR,eU→uS
open Go.RowKit
attribute [local irreducible] IntKind.wrap
theorem Cg.names_v(L:Nat→Prop)(s:Cg):s.v.names L:=by simp[Cg.v,V.names,bP]
def cgs(o:Own)(l:List Cg):V:= .sl (.agg 4) o (l.map Cg.v)
theorem tB(n:Int)(h:Hp):aZ Tryz.prog 68 [.int .i64 n] h (.bool (decide (-1000000≤n)&&decide (n≤1000000))):=by
 refine aU (fun L=>trivial) fun h' nx hh=>aD L.count_within_low fun hd=>?_
 simp only[jL,jM,jA,jB,jN,jO,jP,jQ,V.undef]
 by_cases h0:-1000000≤n
 all_goals
  have hc:=decide_eq_true h0
  (repeat' (first|(with_reducible first|refine stp ?_|refine uP (by decide) ?_|refine uQ (fun _=>?_) (fun _=>?_))|((first|(with_reducible refine uA ?_;first|refine uB rfl ?_ ?_|(first|refine uC rfl ?_|refine uD rfl ?_)|refine uE rfl ?_)|(with_reducible refine uF ?_;first|refine uG rfl ?_ ?_|(first|refine uH rfl ?_|refine uI rfl ?_)|refine uJ rfl ?_|refine uK (uL ?_)|refine uK (uM ?_))|(with_reducible refine uN ?_;refine uO rfl ?_))<;>try simp only[hc,go_sem,reduceIte,jA,jB,jC,jD,reduceCtorEq,jE,jF])|(with_reducible refine uR ?_;refine uS rfl ?_)|omega))
  all_goals refine aG h' (by repeat (first|exact Hp.le_refl _|refine aJ hd ?_ (by omega) _|refine aK hd ?_ (by omega))) ⟨?_,rfl⟩
  all_goals ((try simp_all [hc])<;>(try omega))
theorem dM{α:Type}(f:α→V)(d:V)(l:List α)(i:Nat)(h:i<l.length):(l.map f).getD i d=f l[i]:=by
 rw[List.getD_eq_getElem?_getD,List.getElem?_map,List.getElem?_eq_getElem h];rfl
def aLd(l:List Cg)(s:Sp):Int:=((l.find? fun x=>decide (x.s=s)).map (·.d)).getD 0
end Go.Proofs.YtecepaehmojpgaaGreat
namespace Go.Proofs.YtecepaehmojpgaaGreat
open Go.RowKit
attribute [local irreducible] IntKind.wrap
noncomputable def aKe(l:List CE):List Sp:=dF tF (l.map (·.s))
noncomputable def aDP(l:List CE):List Cg:=(aKe l).map fun s=>⟨s,cC l s⟩
theorem aHW(l:List CE):(aKe l).length=l.length:=by
 unfold aKe
 rw[(dE tF (l.map (·.s))).length_eq,List.length_map]
end Go.Proofs.YtecepaehmojpgaaGreat
namespace Go.Proofs.YtecepaehmojpgaaGreat
open Go.Proofs.YtecepaehmojpgaaGreat renaming gW→uA,fK→uB,cU→uC,cV→uD,cK→uE,gX→uF,dI→uG,cW→uH,cX→uI,cL→uJ,dH→uK,dN→uL,fL→uM,gY→uN,eG→uO,bQ→uP,kN→uQ,iP→uR,eU→uS
open Go.RowKit
attribute [local irreducible] IntKind.wrap
end Go.Proofs.YtecepaehmojpgaaGreat
