/-
Texts of this proof,one behind the other. No conditions.
-/
import Derived.Test.YtemjhgboialjpaaGreatKl
import Derived.Test.YtemjhgboialjpaaGreatKd
import Derived.Test.YtemjhgboialjpaaGreatKe
import Derived.Test.YtemjhgboialjpaaGreatKf
set_option linter.unusedSimpArgs false
set_option linter.unusedVariables false
set_option linter.unusedSectionVars false
open Nat renaming reduceAdd→jA,reduceSub→jB,reduceLT→jC,reduceLeDiff→jD,reduceEqDiff→jE
open Int renaming reduceToNat→jF,toNat_natCast→jG,natCast_add→jH,natCast_one→jI,natCast_zero→jJ
open List renaming length_map→jK,length_cons→jL,length_nil→jM,replicate_succ→jN,replicate_zero→jO,cons_append→jP,nil_append→jQ
namespace Go.Proofs.YtemjhgboialjpaaGreat
open Go.RowKit Go.Sort
structure Sp where
 p:Int
 t:Tm
 deriving DecidableEq,Inhabited
structure Cg where
 s:Sp
 d:Int
 deriving DecidableEq,Inhabited
def Sp.less(a b:Sp):Bool:=decide (a.p<b.p)||(decide (a.p=b.p)&&a.t.less b.t)
theorem Sp.less_irrefl(a:Sp):a.less a=false:=by simp[Sp.less,Tm.less_irrefl]
theorem Sp.less_tri(a b:Sp)(h1:a.less b=false)(h2:b.less a=false):a=b:=by
 simp only[Sp.less,Bool.or_eq_false_iff,decide_eq_false_iff_not,Bool.and_eq_false_iff] at h1 h2
 have hp:a.p=b.p:=by omega
 have ht:a.t=b.t:=Tm.less_tri _ _ (h1.2.resolve_left (fun h=>h hp)) (h2.2.resolve_left (fun h=>h hp.symm))
 cases a;cases b;simp_all
theorem Sp.less_trans{a b c:Sp}(h1:a.less b=true)(h2:b.less c=true):a.less c=true:=by
 simp only[Sp.less,Bool.or_eq_true,decide_eq_true_eq,Bool.and_eq_true] at h1 h2⊢
 rcases h1 with h1|⟨h1,h1'⟩<;>rcases h2 with h2|⟨h2,h2'⟩
 ·left;omega
 ·left;omega
 ·left;omega
 right;exact⟨by omega,Tm.less_trans h1' h2'⟩
def tot(l:List Cg)(s:Sp):Int:=l.foldl (fun n x=>if x.s=s then IntKind.i64.wrap (n+x.d) else n) 0
theorem aJT(s:Sp):tot [] s=0:=rfl
theorem aIE(l:List Cg)(x:Cg)(s:Sp):tot (l++[x]) s=if x.s=s then IntKind.i64.wrap (tot l s+x.d) else tot l s:=by simp[tot,List.foldl_append]
theorem aIG{l:List Cg}{s:Sp}(h:∀x∈l,x.s≠s):tot l s=0:=by
 unfold tot
 have:∀(l:List Cg) (n:Int),(∀x∈l,x.s≠s)→l.foldl (fun n x=>if x.s=s then IntKind.i64.wrap (n+x.d) else n) n=n:=by
  intro l
  induction l with
  |nil=>intro n _;rfl
  |cons x l ih=>
   intro n h
   rw[List.foldl_cons,if_neg (h x (by simp))]
   exact ih n fun y hy=>h y (by simp[hy])
 exact this l 0 h
def aGL(f:Sp→Int)(W:List Cg):Prop:=W.Pairwise (fun a b=>a.s.less b.s=true)∧∀x,x∈W↔(x.d=f x.s∧x.d≠0)
theorem yF{f:Sp→Int}{a b:List Cg}(ha:aGL f a)(hb:aGL f b):a=b:=by
 have nd:∀{l:List Cg},l.Pairwise (fun a b=>a.s.less b.s=true)→l.Nodup:=fun hl=>hl.imp (fun{x y} hxy e=>by subst e;rw[Sp.less_irrefl] at hxy;cases hxy)
 refine List.Perm.eq_of_pairwise (le:=fun(u v:Cg)=>u.s.less v.s=true) (fun x y _ _ h1 h2=>?_) ha.1 hb.1 ((List.perm_ext_iff_of_nodup (nd ha.1) (nd hb.1)).2 fun x=>by rw[ha.2,hb.2])
 have:=Sp.less_trans h1 h2
 rw[Sp.less_irrefl] at this;cases this
theorem aGL.get{f:Sp→Int}{W:List Cg}(h:aGL f W)(s:Sp):((W.find? fun x=>decide (x.s=s)).map (·.d)).getD 0=f s:=by
 cases hf:W.find? fun x=>decide (x.s=s) with
 |none=>
  have hn:=List.find?_eq_none.1 hf
  by_cases h0:f s=0
  ·simp[h0]
  exact absurd ((h.2 ⟨s,f s⟩).2 ⟨rfl,h0⟩) (fun hm=>by simpa using hn _ hm)
 |some x=>
  have hx:=List.find?_some hf
  have hm:=List.mem_of_find?_eq_some hf
  have hs:x.s=s:=by simpa using hx
  have:=((h.2 x).1 hm).1
  simp[this,hs]
def nH(l:List Cg)(i:Nat):Bool:=(l.take i).all fun x=>decide (x.s≠(l.getD i default).s)
def aBz(out:List Cg)(x:Cg):List Cg:=out.takeWhile (fun y=>y.s.less x.s)++x::out.dropWhile (fun y=>y.s.less x.s)
def cH(l:List Cg):Nat→List Cg
 |0=>[]
 |i+1=>if nH l i=true∧tot l (l.getD i default).s≠0 then aBz (cH l i) ⟨(l.getD i default).s,tot l (l.getD i default).s⟩ else cH l i
def wJ(l:List Cg):List Cg:=cH l l.length
theorem aFa(out:List Cg)(t x:Cg):x∈aBz out t↔x=t∨x∈out:=by
 unfold aBz
 conv=>rhs;rw[←List.takeWhile_append_dropWhile (p:=fun y:Cg=>y.s.less t.s) (l:=out)]
 simp only[List.mem_append,List.mem_cons]
 constructor
 ·rintro(h|h|h)<;>simp[h]
 rintro(h|h|h)<;>simp[h]
theorem aJb(out:List Cg)(t:Cg):(aBz out t).length=out.length+1:=by
 have:=congrArg List.length (List.takeWhile_append_dropWhile (p:=fun y:Cg=>y.s.less t.s) (l:=out))
 simp only[List.length_append] at this
 simp only[aBz,List.length_append,List.length_cons]
 omega
theorem aEZ{out:List Cg}{t:Cg}(hs:out.Pairwise fun a b=>a.s.less b.s=true)(hn:∀y∈out,y.s≠t.s):(aBz out t).Pairwise fun a b=>a.s.less b.s=true:=by
 induction out with
 |nil=>simp[aBz]
 |cons a out ih=>
  have hs':=List.pairwise_cons.1 hs
  have ih:=ih hs'.2 fun y hy=>hn y (by simp[hy])
  unfold aBz
  cases ha:a.s.less t.s with
  |true=>
   simp only[List.takeWhile_cons,List.dropWhile_cons,ha,if_true,List.cons_append]
   refine List.pairwise_cons.2 ⟨fun y hy=>?_,ih⟩
   rcases(aFa out t y).1 hy with rfl|hy
   ·exact ha
   exact hs'.1 y hy
  |false=>
   simp only[List.takeWhile_cons,List.dropWhile_cons,ha,Bool.false_eq_true,if_false,List.nil_append]
   have hta:t.s.less a.s=true:=by
    cases h:t.s.less a.s with
    |true=>rfl
    |false=>exact absurd (Sp.less_tri _ _ h ha).symm (hn a (by simp))
   refine List.pairwise_cons.2 ⟨fun y hy=>?_,hs⟩
   rcases List.mem_cons.1 hy with rfl|hy
   ·exact hta
   exact Sp.less_trans hta (hs'.1 y hy)
theorem aBX(l:List Cg):∀i,i≤l.length→(cH l i).Pairwise (fun a b=>a.s.less b.s=true)∧∀x,x∈cH l i↔((∃y∈l.take i,y.s=x.s)∧x.d=tot l x.s∧x.d≠0)
 |0,_=>⟨by simp[cH],fun x=>by simp[cH]⟩
 |i+1,hi=>by
  obtain⟨h1,h2⟩:=aBX l i (by omega)
  have hlt:i<l.length:=hi
  have hg:l.getD i default=l[i]:=by rw[List.getD_eq_getElem?_getD,List.getElem?_eq_getElem hlt];rfl
  have htk:l.take (i+1)=l.take i++[l[i]]:=List.take_succ_eq_append_getElem hlt
  unfold cH
  rw[hg]
  split
  ·rename_i hc
   obtain⟨hf,ht⟩:=hc
   have hf':∀x∈l.take i,x.s≠l[i].s:=by
    unfold nH at hf
    rw[hg,List.all_eq_true] at hf
    exact fun x hx=>by simpa using hf x hx
   refine⟨aEZ h1 fun y hy=>?_,fun x=>?_⟩
   ·obtain⟨⟨z,hz,hzs⟩,_⟩:=(h2 y).1 hy
    rw[←hzs];exact hf' z hz
   rw[aFa,h2,htk]
   constructor
   ·rintro(rfl|⟨⟨y,hy,hys⟩,h3⟩)
    ·exact⟨⟨l[i],List.mem_append.2 (.inr (List.mem_singleton.2 rfl)),rfl⟩,rfl,ht⟩
    exact⟨⟨y,List.mem_append.2 (.inl hy),hys⟩,h3⟩
   rintro⟨⟨y,hy,hys⟩,h3,h4⟩
   rcases List.mem_append.1 hy with hy|hy
   ·exact .inr ⟨⟨y,hy,hys⟩,h3,h4⟩
   left
   have:y=l[i]:=by simpa using hy
   subst this
   cases x
   simp only at hys h3
   subst hys
   rw[h3]
  rename_i hc
  refine⟨h1,fun x=>?_⟩
  rw[h2,htk]
  constructor
  ·rintro⟨⟨y,hy,hys⟩,h3⟩
   exact⟨⟨y,List.mem_append.2 (.inl hy),hys⟩,h3⟩
  rintro⟨⟨y,hy,hys⟩,h3,h4⟩
  refine⟨?_,h3,h4⟩
  rcases List.mem_append.1 hy with hy|hy
  ·exact⟨y,hy,hys⟩
  have:y=l[i]:=by simpa using hy
  subst this
  by_cases hf:nH l i=true
  ·exact absurd ⟨hf,by rw[hys,←h3];exact h4⟩ hc
  have hf2:(nH l i)=false:=by simpa using hf
  unfold nH at hf2
  rw[hg,List.all_eq_false] at hf2
  obtain⟨z,hz,hzs⟩:=hf2
  exact⟨z,hz,by have:z.s=l[i].s:=by simpa using hzs
                rw[this,hys]⟩
theorem wI(l:List Cg):∀i,(cH l i).length≤i
 |0=>by simp[cH]
 |i+1=>by
  have:=wI l i
  unfold cH
  split
  ·rw[aJb];omega
  omega
theorem aIJ(l:List Cg):(wJ l).length≤l.length:=wI l _
theorem aIK(l:List Cg):aGL (tot l) (wJ l):=by
 obtain⟨h1,h2⟩:=aBX l l.length (Nat.le_refl _)
 refine⟨h1,fun x=>?_⟩
 rw[show wJ l=cH l l.length from rfl,h2,List.take_length]
 constructor
 ·exact fun h=>h.2
 intro h
 refine⟨?_,h⟩
 apply Classical.byContradiction
 intro hn
 exact h.2 (by rw[h.1];exact aIG fun y hy e=>hn ⟨y,hy,e⟩)
structure CE where
 s:Sp
 n:Int
 b:Nat
 deriving DecidableEq,Inhabited
def cV(l:List CE)(s:Sp):Int:=((l.find? fun x=>decide (x.s=s)).map (·.n)).getD 0
structure dQ(l:List CE)(c:Nat):Prop where
 key:(l.map (·.s)).Nodup
 num:(l.map (·.b)).Nodup
 lt:∀x∈l,x.b<c
 nz:∀x∈l,x.n≠0
theorem aCp(c:Nat):dQ [] c:=⟨by simp,by simp,by simp,by simp⟩
theorem eU{l:List CE}(hk:(l.map (·.s)).Nodup){x:CE}(hx:x∈l):cV l x.s=x.n:=by
 induction l with
 |nil=>simp at hx
 |cons y l ih=>
  simp only[List.map_cons,List.nodup_cons] at hk
  unfold cV
  rw[List.find?_cons]
  rcases List.mem_cons.1 hx with rfl|hx
  ·simp
  have hne:y.s≠x.s:=fun e=>hk.1 (e▸List.mem_map_of_mem hx)
  simp only[decide_eq_false hne]
  exact ih hk.2 hx
theorem eP{l:List CE}{s:Sp}(h:∀x∈l,x.s≠s):cV l s=0:=by
 unfold cV
 rw[List.find?_eq_none.2 (fun x hx=>by simpa using h x hx)]
 rfl
def nY(a b:Sp):Int:=orI [kH a.p b.p,mN a.t b.t]
theorem aJz(a b:Sp):nY a b<0↔a.less b=true:=by
 have h1:=nZ.1 a.p b.p
 have h2:=nZ.2 a.p b.p
 have h3:=aHh a.t b.t
 have e:nY a b=if kH a.p b.p=0 then (if mN a.t b.t=0 then 0 else mN a.t b.t) else kH a.p b.p:=rfl
 rw[e]
 simp only[Sp.less,Tm.less,Bool.or_eq_true,decide_eq_true_eq,Bool.and_eq_true]
 split
 ·rename_i h0
  have:=h2.1 h0
  split
  ·omega
  rw[h3];omega
 rename_i h0
 have:a.p≠b.p:=fun e=>h0 (h2.2 e)
 rw[h1];omega
theorem lX(a b:Sp):ltOf nY a b=a.less b:=by
 unfold ltOf
 rw[Bool.eq_iff_iff]
 simp[aJz]
theorem aBW:SWO (ltOf nY):=by
 refine⟨fun x=>?_,fun x y z=>?_,fun x y z=>?_⟩
 ·rw[lX];exact Sp.less_irrefl x
 ·simp only[lX];exact Sp.less_trans
 simp only[lX]
 intro h1 h2
 cases h:x.less z with
 |false=>rfl
 |true=>
  exfalso
  cases hxy:y.less x with
  |true=>have:=Sp.less_trans hxy h;rw[this] at h2;cases h2
  |false=>
   have:=Sp.less_tri _ _ h1 hxy
   subst this
   rw[h] at h2;cases h2
theorem aHn(x y:Sp)(h1:ltOf nY x y=false)(h2:ltOf nY y x=false):x=y:=by
 rw[lX] at h1 h2
 exact Sp.less_tri x y h1 h2
theorem aFR{l:List CE}{c:Nat}(h:dQ l c):aGL (cV l) ((dD nY (l.map (·.s))).map fun s=>⟨s,cV l s⟩):=by
 have hp:=dH nY (l.map (·.s))
 refine⟨?_,fun x=>?_⟩
 ·rw[List.pairwise_map]
  have hs:=fZ aBW (l.map (·.s))
  have hnd:(dD nY (l.map (·.s))).Nodup:=hp.symm.nodup h.key
  have hb:=List.pairwise_and_iff.2 ⟨hs,hnd⟩
  refine hb.imp fun{a b} hab=>?_
  have h1:=hab.1
  rw[lX] at h1
  cases hl:a.less b with
  |true=>rfl
  |false=>exact absurd (Sp.less_tri _ _ hl h1) hab.2
 rw[List.mem_map]
 constructor
 ·rintro⟨s,hs,rfl⟩
  obtain⟨y,hy,rfl⟩:=List.mem_map.1 (hp.mem_iff.1 hs)
  exact⟨rfl,by rw[eU h.key hy];exact h.nz y hy⟩
 rintro⟨h1,h2⟩
 refine⟨x.s,hp.mem_iff.2 ?_,by cases x;simp_all⟩
 apply Classical.byContradiction
 intro hn
 exact h2 (by rw[h1];exact eP fun y hy e=>hn (List.mem_map.2 ⟨y,hy,e⟩))
end Go.Proofs.YtemjhgboialjpaaGreat
namespace Go.Proofs.YtemjhgboialjpaaGreat
open Go.RowKit
def Sp.v(s:Sp):V:= .agg [.int .i64 s.p, .int .i64 s.t.e, .int .i64 s.t.r]
def Cg.v(x:Cg):V:= .agg [.int .i64 x.s.p, .int .i64 x.s.t.e, .int .i64 x.s.t.r, .int .i64 x.d]
def CE.me(x:CE):ME:=⟨x.s.v, .int .i64 x.n,x.b⟩
theorem Sp.fits_v(s:Sp):s.v.fits (.agg 3)=true:=rfl
theorem Cg.fits_v(s:Cg):s.v.fits (.agg 4)=true:=rfl
theorem aCU(a b:Sp):veq (.plain (.agg 3) [.int, .int, .int]) a.v b.v=some (decide (a=b)):=by
 obtain⟨p,e,r⟩:=a
 obtain⟨p',e',r'⟩:=b
 have h:veq (.plain (.agg 3) [.int, .int, .int]) (Sp.v ⟨p,e,r⟩) (Sp.v ⟨p',e',r'⟩)=some ((p==p')&&((e==e')&&(r==r'))):=rfl
 rw[h]
 congr 1
 rw[Bool.eq_iff_iff]
 simp
theorem iC(s:Sp):∀l:List CE,gU (.plain (.agg 3) [.int, .int, .int]) s.v (l.map CE.me)=some (l.findIdx? fun x=>decide (x.s=s))
 | []=>rfl
 |x::l=>by
  rw[List.map_cons,gU,List.findIdx?_cons]
  simp only[CE.me,aCU]
  by_cases h:s=x.s
  ·simp[h]
  have h':¬x.s=s:=fun e=>h e.symm
  have ih:=iC s l
  simp[h,h',ih]
def aKV(l:List CE)(c:Nat)(s:Sp):List CE×Nat×Nat:=match l.findIdx? (fun x=>decide (x.s=s)) with
 |some j=>(l,j,c)
 |none=>(l++[⟨s,0,c⟩],l.length,c+1)
def vW(l:List CE)(c:Nat)(s:Sp)(d:Int):List CE×Nat:=
 let (l1,j,c1):=aKV l c s
 let n:=IntKind.i64.wrap (cV l s+d)
 if n=0 then (l1.eraseIdx j,c1) else (l1.set j ⟨s,n,(l1.getD j default).b⟩,c1)
theorem aDr{α:Type}{p:α→Bool}{l:List α}{j:Nat}(h:l.findIdx? p=some j):∃hj:j<l.length,p l[j]=true∧l.find? p=some l[j]:=by
 induction l generalizing j with
 |nil=>simp at h
 |cons a l ih=>
  rw[List.findIdx?_cons] at h
  by_cases ha:p a=true
  ·rw[if_pos ha] at h
   injection h with h;subst h
   exact⟨by simp,ha,by simp[List.find?_cons,ha]⟩
  rw[if_neg ha] at h
  obtain⟨j',h',rfl⟩:=Option.map_eq_some_iff.1 h
  obtain⟨h1,h2,h3⟩:=ih h'
  refine⟨by simpa using h1,by simpa using h2,?_⟩
  rw[List.find?_cons]
  simp only[Bool.not_eq_true] at ha
  simp only[ha]
  simpa using h3
theorem aCE{l:List CE}{c:Nat}(h:dQ l c)(s:Sp):∃l1 j c1,aKV l c s=(l1,j,c1)∧∃hj:j<l1.length,l1[j].s=s∧l1[j].n=cV l s∧(l1.map (·.s)).Nodup∧(l1.map (·.b)).Nodup∧(∀x∈l1,x.b<c1)∧c≤c1∧(∀x∈l1,x.n≠0∨x.s=s)∧
 ((l.findIdx? (fun x=>decide (x.s=s))=some j∧l1=l∧c1=c)∨(l.findIdx? (fun x=>decide (x.s=s))=none∧l1=l++[⟨s,0,c⟩]∧j=l.length∧c1=c+1∧cV l s=0))∧(∀t,t≠s→cV l1 t=cV l t):=by
 unfold aKV
 cases hf:l.findIdx? (fun x=>decide (x.s=s)) with
 |some j=>
  obtain⟨hj,h1,h2⟩:=aDr hf
  refine⟨l,j,c,rfl,hj,by simpa using h1,?_,h.key,h.num,h.lt,Nat.le_refl _,fun x hx=> .inl (h.nz x hx), .inl ⟨rfl,rfl,rfl⟩,fun _ _=>rfl⟩
  unfold cV
  rw[h2];rfl
 |none=>
  have hn:∀x∈l,x.s≠s:=by
   intro x hx
   have:=List.findIdx?_eq_none_iff.1 hf x hx
   simpa using this
  have h0:cV l s=0:=eP hn
  refine⟨_,_,_,rfl,by simp,by simp,by simp[h0],?_,?_,?_,Nat.le_succ _,?_, .inr ⟨rfl,rfl,rfl,rfl,h0⟩,?_⟩
  ·rw[List.map_append,List.nodup_append]
   refine⟨h.key,by simp,fun a ha b hb hab=>?_⟩
   obtain⟨x,hx,rfl⟩:=List.mem_map.1 ha
   simp only[List.map_cons,List.map_nil,List.mem_singleton] at hb
   exact hn x hx (hab.trans hb)
  ·rw[List.map_append,List.nodup_append]
   refine⟨h.num,by simp,fun a ha b hb hab=>?_⟩
   obtain⟨x,hx,rfl⟩:=List.mem_map.1 ha
   simp only[List.map_cons,List.map_nil,List.mem_singleton] at hb
   have:=h.lt x hx
   omega
  ·intro x hx
   rcases List.mem_append.1 hx with hx|hx
   ·have:=h.lt x hx;omega
   rw[List.mem_singleton.1 hx];exact Nat.lt_succ_self _
  ·intro x hx
   rcases List.mem_append.1 hx with hx|hx
   ·exact .inl (h.nz x hx)
   rw[List.mem_singleton.1 hx];exact .inr rfl
  intro t ht
  unfold cV
  rw[List.find?_append]
  cases l.find? (fun x=>decide (x.s=t)) with
  |some x=>rfl
  |none=>
   have:¬s=t:=fun e=>ht e.symm
   simp[this]
theorem aKT{l:List CE}(hn:(l.map (·.b)).Nodup){j:Nat}(hj:j<l.length):(l.map CE.me).findIdx? (fun e=>((e.b:Nat):Int)==(l[j].b:Int))=some j:=by
 induction l generalizing j with
 |nil=>simp at hj
 |cons a l ih=>
  rw[List.map_cons,List.nodup_cons] at hn
  rw[List.map_cons,List.findIdx?_cons]
  cases j with
  |zero=>simp[CE.me]
  |succ j=>
   have hj':j<l.length:=by simpa using hj
   have hne:¬a.b=l[j].b:=fun e=>hn.1 (List.mem_map.2 ⟨l[j],List.getElem_mem _,e.symm⟩)
   have hb:(((CE.me a).b:Int)==(((a::l)[j+1]).b:Int))=false:=by
    simp only[List.getElem_cons_succ,CE.me,beq_eq_false_iff_ne,ne_eq]
    omega
   rw[hb]
   have:=ih hn.2 hj'
   simp only[List.getElem_cons_succ]
   rw[this];rfl
theorem rE(l:List CE)(s:Sp):xR false (.int .i64 0) (l.map CE.me) (l.findIdx? fun x=>decide (x.s=s))= .int .i64 (cV l s):=by
 cases hf:l.findIdx? (fun x=>decide (x.s=s)) with
 |none=>
  have hn:∀x∈l,x.s≠s:=fun x hx=>by simpa using List.findIdx?_eq_none_iff.1 hf x hx
  rw[eP hn];rfl
 |some j=>
  obtain⟨hj,h1,h2⟩:=aDr hf
  have:(l.map CE.me).getD j default=CE.me l[j]:=by rw[List.getD_eq_getElem?_getD,List.getElem?_map,List.getElem?_eq_getElem hj];rfl
  simp only[xR,this]
  unfold cV
  rw[h2];rfl
theorem aAE{l:List CE}(hk:(l.map (·.s)).Nodup){j:Nat}(hj:j<l.length):l.findIdx? (fun x=>decide (x.s=l[j].s))=some j:=by
 induction l generalizing j with
 |nil=>simp at hj
 |cons a l ih=>
  rw[List.map_cons,List.nodup_cons] at hk
  rw[List.findIdx?_cons]
  cases j with
  |zero=>simp
  |succ j=>
   have hj':j<l.length:=by simpa using hj
   have hne:¬a.s=l[j].s:=fun e=>hk.1 (List.mem_map.2 ⟨l[j],List.getElem_mem _,e.symm⟩)
   have:=ih hk.2 hj'
   simp only[List.getElem_cons_succ,hne,decide_false,Bool.false_eq_true,if_false,this]
   rfl
theorem aFW{l:List CE}{j:Nat}(hj:j<l.length):(l.map CE.me).set j ⟨l[j].s.v,((l.map CE.me).getD j default).v,((l.map CE.me).getD j default).b⟩=l.map CE.me:=by
 have:(l.map CE.me).getD j default=CE.me l[j]:=by rw[List.getD_eq_getElem?_getD,List.getElem?_map,List.getElem?_eq_getElem hj];rfl
 rw[this]
 apply List.ext_getElem
 ·simp
 intro i h1 h2
 rw[List.getElem_set]
 split
 ·rename_i e;subst e;rw[List.getElem_map];rfl
 rfl
theorem aJX{l:List CE}{j:Nat}(hj:j<l.length){s:Sp}(hs:l[j].s=s)(n:Int):(l.map CE.me).set j ⟨((l.map CE.me).getD j default).k, .int .i64 n,((l.map CE.me).getD j default).b⟩=(l.set j ⟨s,n,l[j].b⟩).map CE.me:=by
 have:(l.map CE.me).getD j default=CE.me l[j]:=by rw[List.getD_eq_getElem?_getD,List.getElem?_map,List.getElem?_eq_getElem hj];rfl
 rw[this,List.map_set]
 simp only[CE.me,hs]
theorem Hp.set_set(h:Hp)(n:Nat)(a b:Blk):(h.set n a).set n b=h.set n b:=by
 funext m
 simp only[Hp.set]
 split<;>rfl
theorem Hp.set_comm(h:Hp){n m:Nat}(hne:n≠m)(a b:Blk):(h.set n a).set m b=(h.set m b).set n a:=by
 funext q
 simp only[Hp.set]
 split
 ·rename_i e;subst e;rw[if_neg (fun e=>hne e.symm)]
 rfl
attribute [local irreducible] IntKind.wrap
set_option maxRecDepth 100000 in
theorem aJK(l:List CE)(c:Nat)(h:dQ l c)(s:Sp)(d:Int)(m:Nat)(h':Hp)(nx:Nat)(hm:h' m=some (.mp (l.map CE.me) c)):
 aX Tryz.prog 77 [.map m,s.v, .int .i64 d] h' nx fun v h'' _=>h''=h'.set m (.mp ((vW l c s d).1.map CE.me) (vW l c s d).2):=by
 refine aD L.count_add_low fun hd=>?_
 simp only[List.length_cons,List.length_nil,Nat.reduceAdd,Nat.reduceSub,List.replicate_succ,List.replicate_zero,List.cons_append,List.nil_append,V.undef]
 obtain⟨l1,j,c1,he,hj,hjs,hjn,hk1,hb1,hlt1,hcc,hnz1,hcase,hoth⟩:=aCE h s
 have hmn:m<nx:=hd _ _ hm
 have hsf:=Sp.fits_v s
 have ha:vW l c s d=if IntKind.i64.wrap (cV l s+d)=0 then (l1.eraseIdx j,c1) else (l1.set j ⟨s,IntKind.i64.wrap (cV l s+d),(l1.getD j default).b⟩,c1):=by
  unfold vW;rw[he]
 have hgj:l1.getD j default=l1[j]:=by rw[List.getD_eq_getElem?_getD,List.getElem?_eq_getElem hj];rfl
 rw[hgj] at ha
 have hg1:cV l1 s=cV l s:=by rw[←hjn,←hjs];exact eU hk1 (List.getElem_mem _)
 refine bC (bD ?_)
 refine eH rfl (by simp only[hsf,go_sem,reduceIte,Nat.reduceAdd,Nat.reduceSub,Nat.reduceLT,Nat.reduceLeDiff,reduceCtorEq,Nat.reduceEqDiff,Int.reduceToNat];try omega) ?_
 simp only[hsf,go_sem,reduceIte,Nat.reduceAdd,Nat.reduceSub,Nat.reduceLT,Nat.reduceLeDiff,reduceCtorEq,Nat.reduceEqDiff,Int.reduceToNat]
 refine aJ (bC (aCr ?_))
 obtain⟨n,hn⟩:∃n,n=IntKind.i64.wrap (cV l s+d):=⟨_,rfl⟩
 obtain⟨H0,hH0⟩:∃H0,H0=h'.set nx (.arr (.agg 3) [s.v]):=⟨_,rfl⟩
 obtain⟨F,hF⟩:∃F:(Nat→Bool)→List V,∀D,F D=[.map m,s.v, .int .i64 d, .tup [], .ptr nx (.agg 3) 0 0, .tup [],if D 0=true then .map m else .tup [],if D 1=true then s.v else .tup [],if D 2=true then .int .i64 (cV l s) else .tup [],if D 3=true then .int .i64 d else .tup [],if D 4=true then .int .i64 n else .tup [],
  if D 5=true then .tup [.int .i64 (cV l s), .int .i64 l1[j].b] else .tup [],if D 6=true then .int .i64 l1[j].b else .tup [], .tup [], .tup [], .tup [], .tup [], .tup [], .tup []]:=⟨_,fun _=>rfl⟩
 obtain⟨H,hH⟩:∃H:(Nat→Bool)→Hp,∀D,H D=if D 7=true then H0.set m (.mp ((l1.set j ⟨s,n,l1[j].b⟩).map CE.me) c1) else if D 5=true then H0.set m (.mp (l1.map CE.me) c1) else H0:=⟨_,fun _=>rfl⟩
 refine⟨fun D s'=>∃nx',s'=⟨F D,H D,nx'⟩∧nx+1≤nx',⟨nx+1,by simp[hF,hH,hH0],Nat.le_refl _⟩,?_,?_⟩
 ·rintro D i o deps s' hi hDi hdeps hcl ⟨nx',rfl,hnx⟩
  have hne:nx≠m:=by omega
  have hbox:H D nx=some (.arr (.agg 3) [s.v]):=by
   rw[hH,hH0]
   split
   ·simp[Hp.set,hne]
   split<;>simp[Hp.set,hne]
  have h7:D 7=true→D 0=true∧D 1=true∧D 2=true∧D 3=true∧D 4=true∧D 5=true∧D 6=true:=fun h=>by
   have:=hcl 7 _ _ rfl h
   exact⟨this 0 (by decide),this 1 (by decide),this 2 (by decide),this 3 (by decide),this 4 (by decide),this 5 (by decide),this 6 (by decide)⟩
  rcases i with _|_|_|_|_|_|_|_|i
  all_goals first|(injection hi with hi;injection hi with q1 q2;subst q1;subst q2)|skip
  ·simp[aY,LOp.run,bK.sem,aN.ev,bL,V.undef,hF,hH,hnx]
  ·simp[aY,LOp.run,bK.sem,aN.ev,bL,V.undef,hF,hbox,iU,(rfl:bZ (.agg 3) 0 s.v=s.v),V.fits,hnx]
   simp[hH]
   first|omega|exact hnx|exact⟨_,rfl,hnx⟩|exact⟨_,⟨rfl,rfl⟩,hnx⟩
  ·have d0:=hdeps 0 (by decide)
   have d1:=hdeps 1 (by decide)
   have d7:D 7=false:=by
    cases h:D 7 with
    |false=>rfl
    |true=>have:=(h7 h).2.2.1;rw[this] at hDi;cases hDi
   cases h5:D 5 with
   |true=>
    have hHm:H D m=some (.mp (l1.map CE.me) c1):=by rw[hH,if_neg (by simp[d7]),if_pos h5];simp[Hp.set]
    simp[aY,LOp.run,bK.sem,aN.ev,bL,V.undef,hF,d0,d1,hsf,hHm,iC,rE,hg1,hnx]
    simp[hH]<;>omega
   |false=>
    have hHm:H D m=some (.mp (l.map CE.me) c):=by rw[hH,if_neg (by simp[d7]),if_neg (by simp[h5]),hH0];simp[Hp.set,Ne.symm hne,hm]
    simp[aY,LOp.run,bK.sem,aN.ev,bL,V.undef,hF,d0,d1,hsf,hHm,iC,rE,hg1,hnx]
    simp[hH]<;>omega
  ·simp[aY,LOp.run,bK.sem,aN.ev,bL,V.undef,hF,hH,hnx]
  ·have d2:=hdeps 2 (by decide)
   have d3:=hdeps 3 (by decide)
   simp[aY,LOp.run,bK.sem,aN.ev,bL,V.undef,hF,d2,d3,aHU,←hn,hnx]
   simp[hH]<;>omega
  ·have d0:=hdeps 0 (by decide)
   have d1:=hdeps 1 (by decide)
   have d7:D 7=false:=by
    cases h:D 7 with
    |false=>rfl
    |true=>have:=(h7 h).2.2.2.2.2.1;rw[this] at hDi;cases hDi
   have hHm:H D m=some (.mp (l.map CE.me) c):=by rw[hH,if_neg (by simp[d7]),if_neg (by simp[hDi]),hH0];simp[Hp.set,Ne.symm hne,hm]
   have hHD:H D=H0:=by rw[hH,if_neg (by simp[d7]),if_neg (by simp[hDi])]
   have hgo:∀R:V→Hp→Prop,R (.tup [.int .i64 (cV l s), .int .i64 l1[j].b]) (H0.set m (.mp (l1.map CE.me) c1))→(MOp.ent (.agg 3) [.int, .int, .int] (.int .i64 0) (.slot 6) (.slot 7)).sem (F D) (H D) nx' R:=by
    intro R hR
    simp only[MOp.sem,aN.ev,hF,List.getD_cons_succ,List.getD_cons_zero,d0,d1,if_true,hsf,hHm,iC,true_and]
    rw[hHD]
    rcases hcase with⟨e1,rfl,rfl⟩|⟨e1,rfl,rfl,rfl,e0⟩
    ·simp only[e1]
     have hg:(l1.map CE.me).getD j default=CE.me l1[j]:=by rw[List.getD_eq_getElem?_getD,List.getElem?_map,List.getElem?_eq_getElem hj];rfl
     have:=aFW hj
     rw[hjs] at this
     rw[this,hg]
     simp only[CE.me,hjn]
     exact hR
    simp only[e1]
    simp only[e0,List.map_append,List.map_cons,List.map_nil] at hR
    simpa [CE.me] using hR
   show(MOp.ent (.agg 3) [.int, .int, .int] (.int .i64 0) (.slot 6) (.slot 7)).sem (F D) (H D) nx' (fun v h'=>aY Tryz.prog [] _ ⟨bL (F D) (some 11) v,h',nx'+1⟩)
   refine hgo _ ?_
   simp[aY,bL,hF,hH,d7]<;>omega
  ·have d5:=hdeps 5 (by decide)
   simp[aY,LOp.run,bK.sem,aN.ev,bL,V.undef,hF,d5,hnx]
   simp[hH]<;>omega
  ·have d0:=hdeps 0 (by decide)
   have d4:=hdeps 4 (by decide)
   have d5:=hdeps 5 (by decide)
   have d6:=hdeps 6 (by decide)
   have hHD:H D=H0.set m (.mp (l1.map CE.me) c1):=by rw[hH,if_neg (by simp[hDi]),if_pos d5]
   have hHm:H D m=some (.mp (l1.map CE.me) c1):=by rw[hHD];simp[Hp.set]
   have hgo:∀R:V→Hp→Prop,R V.undef (H0.set m (.mp ((l1.set j ⟨s,n,l1[j].b⟩).map CE.me) c1))→(MOp.est (.slot 6) (.slot 12) (.slot 10)).sem (F D) (H D) nx' R:=by
    intro R hR
    simp only[MOp.sem,aN.ev,hF,List.getD_cons_succ,List.getD_cons_zero,d0,d4,d6,if_true,hHm]
    refine⟨j,aKT hb1 hj,?_⟩
    rw[hHD,Hp.set_set,aJX hj hjs]
    exact hR
   show(MOp.est (.slot 6) (.slot 12) (.slot 10)).sem (F D) (H D) nx' (fun v h'=>aY Tryz.prog [] _ ⟨bL (F D) none v,h',nx'+1⟩)
   refine hgo _ ?_
   simp[aY,bL,hF,hH]<;>omega
  simp[L.count_add_r1] at hi
 rintro D s' hD ⟨nx',rfl,hnx⟩
 have dd:=fun i (h:i<8)=>hD i h
 have hFD:F D=[.map m,s.v, .int .i64 d, .tup [], .ptr nx (.agg 3) 0 0, .tup [], .map m,s.v, .int .i64 (cV l s), .int .i64 d, .int .i64 n, .tup [.int .i64 (cV l s), .int .i64 l1[j].b], .int .i64 l1[j].b, .tup [], .tup [], .tup [], .tup [], .tup [], .tup []]:=by
  rw[hF];simp[dd 0,dd 1,dd 2,dd 3,dd 4,dd 5,dd 6]
 have hHD:H D=H0.set m (.mp ((l1.set j ⟨s,n,l1[j].b⟩).map CE.me) c1):=by rw[hH,if_pos (dd 7 (by decide))]
 rw[hFD,hHD]
 obtain⟨l2,hl2⟩:∃l2,l2=l1.set j ⟨s,n,l1[j].b⟩:=⟨_,rfl⟩
 rw[←hl2]
 have hj2:j<l2.length:=by rw[hl2];simpa using hj
 have hat:l2[j]=⟨s,n,l1[j].b⟩:=by simp[hl2]
 have hks:l2.map (·.s)=l1.map (·.s):=by
  rw[hl2,List.map_set]
  have:(l1.map (·.s)).set j s=(l1.map (·.s)).set j ((l1.map (·.s))[j]'(by simpa using hj)):=by simp[hjs]
  rw[this,List.set_getElem_self]
 have hk2:(l2.map (·.s)).Nodup:=by rw[hks];exact hk1
 have hg2:cV l2 s=n:=by
  have:=eU hk2 (List.getElem_mem hj2)
  rw[hat] at this
  exact this
 have hf2:l2.findIdx? (fun x=>decide (x.s=s))=some j:=by
  have:=aAE hk2 hj2
  rw[hat] at this
  exact this
 have hne:¬nx=m:=by omega
 have hne':¬m=nx:=by omega
 have hb2:(H0.set m (.mp (l2.map CE.me) c1)) nx=some (.arr (.agg 3) [s.v]):=by rw[hH0];simp[Hp.set,hne]
 have hm2:(H0.set m (.mp (l2.map CE.me) c1)) m=some (.mp (l2.map CE.me) c1):=by simp[Hp.set]
 have hle:∀X:Blk,(h'.set m X).le (H0.set m X):=fun X=>by
  rw[hH0,Hp.set_comm _ hne]
  exact dW (Hp.le_refl _) (by simp only[Hp.set];rw[if_neg hne];exact aH.none hd (Nat.le_refl _)) _
 have hset:∀X,(H0.set m (.mp (l2.map CE.me) c1)).set m X=H0.set m X:=fun X=>Hp.set_set _ _ _ _
 have h2le:=hle (.mp (l2.map CE.me) c1)
 generalize H0.set m (.mp (l2.map CE.me) c1)=h2 at hb2 hm2 hset h2le⊢
 show yL _ _ cB.normal _
 refine aJ ?_
 by_cases h0:n=0
 ·rw[if_pos (by rw[←hn];exact h0)] at ha
  have hc0:(n==0)=true:=by simp[h0]
  rw[ha]
  have her:(l2.map CE.me).eraseIdx j=(l1.eraseIdx j).map CE.me:=by
   rw[hl2]
   apply List.ext_getElem
   ·simp[List.length_eraseIdx]
   intro i h1 h2
   simp only[List.getElem_eraseIdx,List.getElem_set,List.getElem_map]
   split
   ·rw[if_neg (by omega)]
   rw[if_neg (by omega)]
  refine aue (ee7 hb2 hm2 iC rE hg2 hc0 hsf) ?_
  refine aIV hsf rfl hm2 (by rw[show aN.ev _ _=s.v from rfl,iC,hf2]) ?_
  rw[her,hset]
  refine au ?_
  exact⟨_,hle _,rfl⟩
 rw[if_neg (by rw[←hn];exact h0),←hn,←hl2] at ha
 have hc0:(n==0)=false:=by simp[h0]
 rw[ha]
 refine aue (ee7 hb2 hm2 iC rE hg2 hc0 hsf) ?_
 exact⟨_,h2le,rfl⟩
theorem aCo{α:Type}{l:List α}{j:Nat}{x:α}:x∈l.eraseIdx j↔∃(i:Nat) (h:i<l.length),i≠j∧l[i]=x:=by
 rw[List.mem_eraseIdx_iff_getElem]
theorem aIY{l:List CE}(hk:(l.map (·.s)).Nodup){i j:Nat}(hi:i<l.length)(hj:j<l.length)(h:l[i].s=l[j].s):i=j:=by
 have h1:=aAE hk hi
 have h2:=aAE hk hj
 rw[h,h2] at h1
 injection h1 with h1
 exact h1.symm
theorem aKx{l:List CE}{c:Nat}(h:dQ l c)(s:Sp)(d:Int):
 dQ (vW l c s d).1 (vW l c s d).2∧(∀t,cV (vW l c s d).1 t=if t=s then IntKind.i64.wrap (cV l s+d) else cV l t)∧(vW l c s d).1.length≤l.length+1:=by
 obtain⟨l1,j,c1,he,hj,hjs,hjn,hk1,hb1,hlt1,hcc,hnz1,hcase,hoth⟩:=aCE h s
 have hgj:l1.getD j default=l1[j]:=by rw[List.getD_eq_getElem?_getD,List.getElem?_eq_getElem hj];rfl
 have hlen:l1.length≤l.length+1:=by
  rcases hcase with⟨_,rfl,_⟩|⟨_,rfl,_⟩
  ·omega
  simp
 have ha:vW l c s d=if IntKind.i64.wrap (cV l s+d)=0 then (l1.eraseIdx j,c1) else (l1.set j ⟨s,IntKind.i64.wrap (cV l s+d),l1[j].b⟩,c1):=by
  unfold vW;rw[he];simp only[hgj]
 generalize IntKind.i64.wrap (cV l s+d)=n at ha⊢
 by_cases h0:n=0
 ·rw[if_pos h0] at ha
  rw[ha]
  have hmem:∀{x},x∈l1.eraseIdx j→x∈l1∧x.s≠s:=by
   intro x hx
   obtain⟨i,hi,hne,rfl⟩:=aCo.1 hx
   refine⟨List.getElem_mem _,fun e=>hne (aIY hk1 hi hj (e.trans hjs.symm))⟩
  have hsub:((l1.eraseIdx j).map (·.s)).Nodup:=(List.Sublist.map _ (List.eraseIdx_sublist _ _)).nodup hk1
  refine⟨⟨hsub,(List.Sublist.map _ (List.eraseIdx_sublist _ _)).nodup hb1,fun x hx=>hlt1 x (hmem hx).1,fun x hx=>(hnz1 x (hmem hx).1).resolve_right (hmem hx).2⟩,fun t=>?_,?_⟩
  ·split
   ·rename_i e
    subst e
    rw[eP (fun x hx=>(hmem hx).2),h0]
   rename_i e
   rw[←hoth t e]
   by_cases hex:∃x∈l1,x.s=t
   ·obtain⟨x,hx,rfl⟩:=hex
    have hx':x∈l1.eraseIdx j:=by
     obtain⟨i,hi,rfl⟩:=List.mem_iff_getElem.1 hx
     exact aCo.2 ⟨i,hi,fun e2=>e (by subst e2;exact hjs),rfl⟩
    rw[eU hsub hx',eU hk1 hx]
   rw[eP (fun x hx e2=>hex ⟨x,(hmem hx).1,e2⟩),eP (fun x hx e2=>hex ⟨x,hx,e2⟩)]
  have:=List.length_eraseIdx_le l1 j
  show(l1.eraseIdx j).length≤_
  omega
 rw[if_neg h0] at ha
 rw[ha]
 obtain⟨l2,hl2⟩:∃l2,l2=l1.set j ⟨s,n,l1[j].b⟩:=⟨_,rfl⟩
 rw[←hl2]
 have hj2:j<l2.length:=by rw[hl2];simpa using hj
 have hat:l2[j]=⟨s,n,l1[j].b⟩:=by simp[hl2]
 have hks:l2.map (·.s)=l1.map (·.s):=by
  rw[hl2,List.map_set]
  have:(l1.map (·.s)).set j s=(l1.map (·.s)).set j ((l1.map (·.s))[j]'(by simpa using hj)):=by simp[hjs]
  rw[this,List.set_getElem_self]
 have hbs:l2.map (·.b)=l1.map (·.b):=by
  rw[hl2,List.map_set]
  have:(l1.map (·.b)).set j l1[j].b=(l1.map (·.b)).set j ((l1.map (·.b))[j]'(by simpa using hj)):=by simp
  rw[this,List.set_getElem_self]
 have hk2:(l2.map (·.s)).Nodup:=by rw[hks];exact hk1
 have hmem:∀{x},x∈l2→x=⟨s,n,l1[j].b⟩∨(x∈l1∧x.s≠s):=by
  intro x hx
  obtain⟨i,hi,rfl⟩:=List.mem_iff_getElem.1 hx
  have hi1:i<l1.length:=by rw[hl2] at hi;simpa using hi
  by_cases e:i=j
  ·subst e;exact .inl hat
  right
  have:l2[i]=l1[i]:=by simp[hl2,List.getElem_set,Ne.symm e]
  rw[this]
  exact⟨List.getElem_mem _,fun e2=>e (aIY hk1 hi1 hj (e2.trans hjs.symm))⟩
 refine⟨⟨hk2,by rw[hbs];exact hb1,fun x hx=>?_,fun x hx=>?_⟩,fun t=>?_,?_⟩
 ·rcases hmem hx with rfl|hx
  ·exact hlt1 l1[j] (List.getElem_mem _)
  exact hlt1 x hx.1
 ·rcases hmem hx with rfl|hx
  ·exact h0
  exact(hnz1 x hx.1).resolve_right hx.2
 ·split
  ·rename_i e
   subst e
   have:=eU hk2 (List.getElem_mem hj2)
   rw[hat] at this
   exact this
  rename_i e
  rw[←hoth t e]
  by_cases hex:∃x∈l1,x.s=t
  ·obtain⟨x,hx,rfl⟩:=hex
   have hx':x∈l2:=by
    obtain⟨i,hi,rfl⟩:=List.mem_iff_getElem.1 hx
    have hne:i≠j:=fun e2=>e (by subst e2;exact hjs)
    have:l2[i]'(by rw[hl2];simpa using hi)=l1[i]:=by simp[hl2,List.getElem_set,Ne.symm hne]
    rw[←this];exact List.getElem_mem _
   rw[eU hk2 hx',eU hk1 hx]
  refine(eP fun x hx e2=>?_).trans (eP fun x hx e2=>hex ⟨x,hx,e2⟩).symm
  rcases hmem hx with rfl|hx
  ·exact e e2.symm
  exact hex ⟨x,hx.1,e2⟩
 show l2.length≤_
 rw[hl2,List.length_set];exact hlen
def eM:List CE→Nat→List Cg→List CE×Nat
 |l,c,[]=>(l,c)
 |l,c,x::r=>eM (vW l c x.s x.d).1 (vW l c x.s x.d).2 r
theorem yG(x:Cg):∀(r:List Cg) (l:List CE) (c:Nat),eM l c (r++[x])=vW (eM l c r).1 (eM l c r).2 x.s x.d
 | [],_,_=>rfl
 |y::r,l,c=>yG x r _ _
def qW(f:Sp→Int)(l:List Cg)(s:Sp):Int:=l.foldl (fun n x=>if x.s=s then IntKind.i64.wrap (n+x.d) else n) (f s)
theorem oE:∀(r:List Cg) {l:List CE} {c:Nat},dQ l c→dQ (eM l c r).1 (eM l c r).2∧(∀t,cV (eM l c r).1 t=qW (cV l) r t)∧(eM l c r).1.length≤l.length+r.length
 | [],l,c,h=>⟨h,fun _=>rfl,by simp[eM]⟩
 |x::r,l,c,h=>by
  obtain⟨h1,h2,h3⟩:=aKx h x.s x.d
  obtain⟨q1,q2,q3⟩:=oE r h1
  refine⟨q1,fun t=>?_,?_⟩
  ·rw[eM,q2 t]
   unfold qW
   rw[List.foldl_cons,h2 t]
   congr 1
   by_cases e:x.s=t
   ·subst e;simp
   rw[if_neg e,if_neg (fun e2=>e e2.symm)]
  rw[eM,List.length_cons]
  omega
end Go.Proofs.YtemjhgboialjpaaGreat
namespace Go.Proofs.YtemjhgboialjpaaGreat
open Go.Proofs.YtemjhgboialjpaaGreat renaming fE→uA,dU→uB,cM→uC,cN→uD,bV→uE,fF→uF,bQ→uG,cO→uH,cP→uI,bW→uJ,bX→uK,cG→uL,dP→uM,fG→uN,dG→uO,aZ→uP,gR→uQ,fS→uR,dA→uS
open Go.RowKit
attribute [local irreducible] IntKind.wrap
theorem Sp.names_v(s:Sp)(L:Nat→Prop):s.v.names L:=by simp[Sp.v,V.names,bP]
theorem Cg.names_v(L:Nat→Prop)(s:Cg):s.v.names L:=by simp[Cg.v,V.names,bP]
def cgs(o:Own)(l:List Cg):V:= .sl (.agg 4) o (l.map Cg.v)
theorem vO(n:Int)(h:Hp):aW Tryz.prog 75 [.int .i64 n] h (.bool (decide (-1000000≤n)&&decide (n≤1000000))):=by
 refine aR (fun L=>trivial) fun h' nx hh=>aD L.count_within_low fun hd=>?_
 simp only[jL,jM,jA,jB,jN,jO,jP,jQ,V.undef]
 by_cases h0:-1000000≤n
 all_goals
  have hc:=decide_eq_true h0
  (repeat' (first|(with_reducible first|refine stp ?_|refine uP (by decide) ?_|refine uQ (fun _=>?_) (fun _=>?_))|((first|(with_reducible refine uA ?_;first|refine uB rfl ?_ ?_|(first|refine uC rfl ?_|refine uD rfl ?_)|refine uE rfl ?_)|(with_reducible refine uF ?_;first|refine uG rfl ?_ ?_|(first|refine uH rfl ?_|refine uI rfl ?_)|refine uJ rfl ?_|refine uK (uL ?_)|refine uK (uM ?_))|(with_reducible refine uN ?_;refine uO rfl ?_))<;>try simp only[hc,go_sem,reduceIte,jA,jB,jC,jD,reduceCtorEq,jE,jF])|(with_reducible refine uR ?_;refine uS rfl ?_)|omega))
  all_goals refine aF h' (by repeat (first|exact Hp.le_refl _|refine aK hd ?_ (by omega) _|refine aL hd ?_ (by omega))) ⟨?_,rfl⟩
  all_goals ((try simp_all [hc])<;>(try omega))
theorem aGD(a b:Sp):aW Tryz.prog 146 [a.v,b.v] Hp.none (.int .i64 (nY a b)):=by
 refine aR (fun L=>trivial) fun h' nx hh=>aD L.count_Compare_low fun hd=>?_
 simp only[jL,jM,jA,jB,jN,jO,jP,jQ,V.undef]
 (repeat' (first|(with_reducible first|refine stp ?_|refine uP (by decide) ?_|refine uQ (fun _=>?_) (fun _=>?_))|((first|(with_reducible refine uA ?_;first|refine uB rfl ?_ ?_|(first|refine uC rfl ?_|refine uD rfl ?_)|refine uE rfl ?_)|(with_reducible refine uF ?_;first|refine uG rfl ?_ ?_|refine bF (oZ oO yV a.p b.p Hp.none) rfl (bH _) ?_|refine bF (aCK a.t b.t) rfl (bH _) ?_|refine bF (wN wR _ [kH a.p b.p,mN a.t b.t] (by simp) Hp.none) rfl (bH _) ?_|(first|refine uH rfl ?_|refine uI rfl ?_)|refine uJ rfl ?_|refine uK (uL ?_)|refine uK (uM ?_))|(with_reducible refine uN ?_;refine uO rfl ?_))<;>try simp only[Sp.v,go_sem,reduceIte,jA,jB,jC,jD,reduceCtorEq,jE,jF])|(with_reducible refine uR ?_;refine uS rfl ?_)|omega))
 exact aF h' (by repeat (first|exact Hp.le_refl _|refine aK hd ?_ (by omega) _|refine aL hd ?_ (by omega))) ⟨rfl,rfl⟩
theorem aDY(a b:Sp)(h:Hp):aW Tryz.prog 142 [a.v,b.v] h (.bool (a.less b)):=by
 refine aR (fun L=>trivial) fun h' nx hh=>aD L.corollaryref23_less_low fun hd=>?_
 simp only[jL,jM,jA,jB,jN,jO,jP,jQ,V.undef]
 by_cases h0:a.p=b.p
 ·have hc:(a.p != b.p)=false:=by simp[h0]
  have hl:a.less b=a.t.less b.t:=by simp[Sp.less,h0]
  have C1:=fun h=>zX a.t b.t h
  refine aue (ee2 Sp.v.eq_1 hc) ?_
  rw[hl]
  exact aF h' (by repeat (first|exact Hp.le_refl _|refine aK hd ?_ (by omega) _|refine aL hd ?_ (by omega))) ⟨rfl,rfl⟩
 have hc:(a.p != b.p)=true:=by simp[h0]
 have hl:a.less b=decide (a.p<b.p):=by simp[Sp.less,h0]
 refine aue (ee2 Sp.v.eq_1 hc) ?_
 rw[hl]
 exact aF h' (by repeat (first|exact Hp.le_refl _|refine aK hd ?_ (by omega) _|refine aL hd ?_ (by omega))) ⟨rfl,rfl⟩
theorem qC(a:Sp)(h:Hp):aW Tryz.prog 45 [a.v] h a.v:=by
 refine aR (fun L=>a.names_v L) fun h' nx hh=>aD L.corollarylaw23_Stamp_low fun hd=>?_
 simp only[jL,jM,jA,jB,jN,jO,jP,jQ,V.undef]
 have ht:∀h,aW Tryz.prog 103 [.agg [.int .i64 a.t.e, .int .i64 a.t.r]] h (.agg [.int .i64 a.t.e, .int .i64 a.t.r]):=fun h=>sI a.t h
 have D1:=fun h=>ht h
 refine aue Sp.v.eq_1 ?_
 refine pV (by simp only[go_sem,reduceIte,jA,jB,jC,jD,reduceCtorEq,jE,jF]) h' (by repeat (first|exact Hp.le_refl _|refine aK hd ?_ (by omega) _|refine aL hd ?_ (by omega))) ⟨?_,rfl⟩
 simp only[go_sem,reduceIte,jA,jB,jC,jD,reduceCtorEq,jE,jF]
theorem eB{α:Type}(f:α→V)(d:V)(l:List α)(i:Nat)(h:i<l.length):(l.map f).getD i d=f l[i]:=by
 rw[List.getD_eq_getElem?_getD,List.getElem?_map,List.getElem?_eq_getElem h];rfl
def aDp(l:List Cg)(s:Sp):Int:=((l.find? fun x=>decide (x.s=s)).map (·.d)).getD 0
theorem aHs(o:Own)(l:List Cg)(s:Sp)(hl:l.length≤1000000)(h:Hp):aW Tryz.prog 81 [cgs o l,s.v] h (.int .i64 (aDp l s)):=by
 have hlp:bZ (.agg 3) 0 s.v=s.v:=rfl
 refine aR (fun L=>trivial) fun h' nx hh=>aD L.corollaryref23_Get_low fun hd=>?_
 simp only[jL,jM,jA,jB,jN,jO,jP,jQ,V.undef]
 have hsf:=Sp.fits_v s
 refine aue hsf ?_
 refine aP (fun i:Nat=>aB 24 0 [(0,cgs o l),(3, .ptr nx (.agg 3) 0 0),(5, .int .i64 i)])
  (fun i hp nx1=>i≤l.length∧nx+1≤nx1∧aH hp nx1∧Hp.same (nx+1) (h'.set nx (.arr (.agg 3) [s.v])) hp∧∀x∈l.take i,x.s≠s)
  (fun i=>l.length-i) 0 ⟨Nat.zero_le _,by simp,(by(try dsimp only);repeat (first|exact aH.up hd (by omega)|refine aH.set2 ?_ (by omega) _|refine aH.del ?_|refine aH.delO ?_ _)),Hp.same.rfl',by simp⟩ ?_ ?_
 ·simp only[WkL,aB,jH,jI,jJ,cgs,go_sem,reduceIte,jA,jB,jC,jD,reduceCtorEq,jE,jF]
 rintro i hp nx1 ⟨hi,hnx,hdm,hsm,hno⟩
 generalize hQ:bG _ _ _ _ _=Q0
 have c1:hp nx=some (.arr (.agg 3) [s.v]):=by rw[hsm nx (by omega)];simp only[go_sem,reduceIte,jA,jB,jC,jD,reduceCtorEq,jE,jF]
 simp only[aB,cgs,go_sem,reduceIte,jA,jB,jC,jD,reduceCtorEq,jE,jF]
 rcases Nat.lt_or_ge i l.length with hlt|hge
 ·have hc:decide ((i:Int)<(l.length:Int))=true:=decide_eq_true (by omega)
  have hg:(l.map Cg.v).getD i (.tup [])= .agg [.int .i64 l[i].s.p, .int .i64 l[i].s.t.e, .int .i64 l[i].s.t.r, .int .i64 l[i].d]:=eB Cg.v _ l i hlt
  have hw:IntKind.i64.wrap ((i:Int)+1)=((i+1:Nat):Int):=by rw[aV]<;>omega
  have hq:veq (.plain (.agg 3) [.int, .int, .int]) (.agg [.int .i64 l[i].s.p, .int .i64 l[i].s.t.e, .int .i64 l[i].s.t.r]) s.v=some (decide (l[i].s=s)):=aCU l[i].s s
  by_cases he:l[i].s=s
  ·have hb:=decide_eq_true he
   have hres:aDp l s=l[i].d:=by
    unfold aDp
    have:l.find? (fun x=>decide (x.s=s))=some l[i]:=by
     rw[List.find?_eq_some_iff_append]
     refine⟨hb,l.take i,l.drop (i+1),?_,fun x hx=>by simpa using hno x hx⟩
     rw[←List.drop_eq_getElem_cons hlt,List.take_append_drop]
    rw[this];rfl
   rw[hb] at hq
   refine aue (ee7 c1 hc hg hlt hw hq hlp) ?_
   rw[←hQ]
   refine au ?_
   exact aF h' (hsm.le (fun m b e=>by have:=hd m b e;omega) (by repeat (first|exact Hp.le_refl _|refine aK hd ?_ (by omega) _|refine aL hd ?_ (by omega)))) ⟨by rw[hres];rfl,rfl⟩
  have hb:=decide_eq_false he
  rw[hb] at hq
  refine aue (ee7 c1 hc hg hlt hw hq hlp) ?_
  rw[←hQ]
  refine aC (i+1) (by omega) ⟨hlt,by omega,(by(try dsimp only);repeat (first|exact aH.up hdm (by omega)|refine aH.set2 ?_ (by omega) _|refine aH.del ?_|refine aH.delO ?_ _)),(by(try dsimp only);repeat (first|exact hsm|refine aS ?_ (by omega) _|refine aT ?_ (by omega))),?_⟩ ?_
  ·intro x hx
   rw[List.take_succ_eq_append_getElem hlt] at hx
   rcases List.mem_append.1 hx with hx|hx
   ·exact hno x hx
   rw[List.mem_singleton.1 hx];exact he
  simp only[WkL,aB,jH,jI,jJ,cgs,go_sem,reduceIte,jA,jB,jC,jD,reduceCtorEq,jE,jF]
 have hc:decide ((i:Int)<(l.length:Int))=false:=decide_eq_false (by omega)
 have hres:aDp l s=0:=by
  unfold aDp
  rw[List.find?_eq_none.2 (fun x hx=>by
   rw[List.take_of_length_le (by omega)] at hno
   simpa using hno x hx)]
  rfl
 refine aue hc ?_
 rw[←hQ]
 refine au ?_
 exact aF h' (hsm.le (fun m b e=>by have:=hd m b e;omega) (by repeat (first|exact Hp.le_refl _|refine aK hd ?_ (by omega) _|refine aL hd ?_ (by omega)))) ⟨by rw[hres];rfl,rfl⟩
end Go.Proofs.YtemjhgboialjpaaGreat
namespace Go.Proofs.YtemjhgboialjpaaGreat
open Go.RowKit
attribute [local irreducible] IntKind.wrap
set_option maxRecDepth 100000 in
theorem aDB(o:Own)(l:List Cg)(hl:l.length≤100000)(h:Hp):aW Tryz.prog 24 [cgs o l] h (lst (.agg 4) (l.map Cg.v)):=by
 refine cK (fun L=>cE (fun L=>bI (Cg.names_v L) _) L) fun h' nx hh=>aD L.corollarylaw23_Changes_low fun hd=>?_
 simp only[jL,jM,jA,jB,jN,jO,jP,jQ,V.undef]
 refine aue cgs.eq_1 ?_
 refine aP (fun q:Nat×Own=>aB 23 0 [(3,cgs q.2 (l.take q.1)),(6,cgs o l),(7, .int .i64 l.length),(8, .int .i64 q.1)])
  (fun q hp nx1=>q.1≤l.length∧nx≤nx1∧aH hp nx1∧Hp.same nx h' hp∧Acc hp nx q.2 ((l.take q.1).map Cg.v))
  (fun q=>l.length-q.1) (0, .nil) ⟨Nat.zero_le _,Nat.le_refl _,hd,Hp.same.rfl',Acc.nil⟩ ?_ ?_
 ·simp only[WkL,aB,jH,jI,jJ,cgs,List.take_zero,List.map_nil,go_sem,reduceIte,jA,jB,jC,jD,reduceCtorEq,jE,jF]
 rintro⟨i,oo⟩ hp nx1 ⟨hi,hnx,hdm,hsm,hacc⟩
 generalize hQ:bG _ _ _ _ _=Q0
 dsimp only at hi hacc
 simp only[aB,cgs,go_sem,reduceIte,jA,jB,jC,jD,reduceCtorEq,jE,jF]
 rcases Nat.lt_or_ge i l.length with hlt|hge
 ·have hc:decide ((i:Int)<(l.length:Int))=true:=decide_eq_true (by omega)
  have hg:(l.map Cg.v).getD i (.tup [])= .agg [.int .i64 l[i].s.p, .int .i64 l[i].s.t.e, .int .i64 l[i].s.t.r, .int .i64 l[i].d]:=eB Cg.v _ l i hlt
  have hw:IntKind.i64.wrap ((i:Int)+1)=((i+1:Nat):Int):=by rw[aV]<;>omega
  have htk:(l.take (i+1)).map Cg.v=(l.take i).map Cg.v++[.agg [.int .i64 l[i].s.p, .int .i64 l[i].s.t.e, .int .i64 l[i].s.t.r, .int .i64 l[i].d]]:=by
   rw[List.take_succ_eq_append_getElem hlt,List.map_append];rfl
  have hlen:((l.take i).map Cg.v).length=i:=by simp;omega
  have hb1:(i+1)*32≤140737488355328:=by omega
  have hrp:∀h,aW Tryz.prog 45 [.agg [.int .i64 l[i].s.p, .int .i64 l[i].s.t.e, .int .i64 l[i].s.t.r]] h (.agg [.int .i64 l[i].s.p, .int .i64 l[i].s.t.e, .int .i64 l[i].s.t.r]):=fun h=>qC l[i].s h
  rcases hacc with⟨he,rfl⟩|⟨hne,id,hid,rfl,htip⟩
  ·have hi0:i=0:=by rw[he] at hlen;simpa using hlen.symm
   have D1:=fun h=>hrp h
   refine aue (ee5 hc hg hlt hw he) ?_
   rw[←hQ]
   refine aC (i+1, .tok (nx1+10)) (by dsimp only;omega) ⟨hlt,by omega,(by(try dsimp only);repeat (first|exact aH.up hdm (by omega)|refine aH.set2 ?_ (by omega) _|refine aH.del ?_|refine aH.delO ?_ _)),(by(try dsimp only);repeat (first|exact hsm|refine aS ?_ (by omega) _|refine aT ?_ (by omega))),?_⟩ ?_
   ·dsimp only;rw[htk];exact Acc.new _ (by simp) (by omega)
   simp only[WkL,aB,jH,jI,jJ,cgs,htk,he,go_sem,reduceIte,jA,jB,jC,jD,reduceCtorEq,jE,jF]
  have hidn:id<nx1:=hdm id _ htip
  have e1:(id=nx1)=False:=eq_false (by omega)
  have ca:iV ((hp.set nx1 (Blk.arr (Sh.agg 4) [V.agg [V.int IntKind.i64 0,V.int IntKind.i64 0,V.int IntKind.i64 0,V.int IntKind.i64 0]])).set nx1 (Blk.arr (Sh.agg 4) [V.agg [V.int IntKind.i64 l[i].s.p,V.int IntKind.i64 l[i].s.t.e,V.int IntKind.i64 l[i].s.t.r,V.int IntKind.i64 l[i].d]])) (nx1+2) [0,1,2,3,4,5,6,7] [none,none,none,none,none,none,none,some Blk.tip] [none,none,none,none,none,none,none,none] id Blk.tip:=
   ⟨by simp[cJ], .inl ⟨by omega,by simp only[htip,e1,go_sem,reduceIte,jA,jB,jC,jD,reduceCtorEq,jE,jF]⟩⟩
  have D1:=fun h=>hrp h
  refine aue (ee9 hc hg hlt hw hlen htip hidn hb1 ca) ?_
  rw[←hQ]
  refine aC (i+1, .tok (nx1+10)) (by dsimp only;omega) ⟨hlt,by omega,(by(try dsimp only);repeat (first|exact aH.up hdm (by omega)|refine aH.set2 ?_ (by omega) _|refine aH.del ?_|refine aH.delO ?_ _)),(by(try dsimp only);repeat (first|exact hsm|refine aS ?_ (by omega) _|refine aT ?_ (by omega))),?_⟩ ?_
  ·dsimp only;rw[htk];exact(Acc.new _ (by simp) (by omega)).del (fun e=>by injection e;omega)
  simp only[WkL,aB,jH,jI,jJ,cgs,htk,go_sem,reduceIte,jA,jB,jC,jD,reduceCtorEq,jE,jF]
 have hc:decide ((i:Int)<(l.length:Int))=false:=decide_eq_false (by omega)
 refine aue hc ?_
 rw[←hQ]
 refine au ?_
 have htl:l.take i=l:=List.take_of_length_le (by omega)
 rw[htl] at hacc
 refine aF h' (hsm.le hd (Hp.le_refl _)) ⟨?_,Hp.le_refl _⟩
 simp only[htl,go_sem,reduceIte,jA,jB,jC,jD,reduceCtorEq,jE,jF]
 rw[hacc.loose]
 rfl
end Go.Proofs.YtemjhgboialjpaaGreat
namespace Go.Proofs.YtemjhgboialjpaaGreat
open Go.RowKit
attribute [local irreducible] IntKind.wrap
theorem uW:aG Tryz.prog 144=some (LB.SortedFunc (.agg 3) 189 190):=by kernel_rfl
theorem aAn:aG Tryz.prog 189=some (LB.Collect (.agg 3) 220):=by kernel_rfl
theorem wU:aG Tryz.prog 220=some (LB.AppendSeq (.agg 3) (.agg [.int .i64 0, .int .i64 0, .int .i64 0]) 24):=by kernel_rfl
theorem aEL:aG Tryz.prog 145=some (LB.Keys 191):=by kernel_rfl
theorem aDm:aG Tryz.prog 191=some (LB.Keys1 (.agg 3) (.agg [.int .i64 0, .int .i64 0, .int .i64 0])):=by kernel_rfl
noncomputable def nP(l:List CE):List Sp:=dD nY (l.map (·.s))
def aCz(m cp:Nat)(l:List CE)(c:Nat):Hp:=(Hp.none.set m (.mp (l.map CE.me) c)).set cp (.arr .leaf [.map m])
theorem aHO{m cp:Nat}{l:List CE}{c:Nat}{h:Hp}(h1:h m=some (.mp (l.map CE.me) c))(h2:h cp=some (.arr .leaf [.map m])):(aCz m cp l c).has h:=by
 intro n b hb _
 unfold aCz at hb
 simp only[Hp.set] at hb
 split at hb
 ·rename_i e;rw[e,←hb];exact h2
 split at hb
 ·rename_i e;rw[e,←hb];exact h1
 cases hb
theorem aHw(l:List CE)(c:Nat)(hok:dQ l c)(hl:l.length≤1000000)(m cp:Nat)(hne:m≠cp):
 aW Tryz.prog 144 [.fn (.func 191) [] [.ptr cp .leaf 0 0], .fn (.func 146) [] []] (aCz m cp l c) (lst (.agg 3) ((nP l).map Sp.v)):=by
 have hlk:(l.map (·.s)).length=l.length:=by simp
 exact wL Sp.v aKJ Sp.fits_v (fun x L=>x.names_v L) (by intro w;exact Tryz.isAgg75 w) (by intro w;exact Tryz.sizeOf75 w) (by kernel_rfl) uW aAn wU rfl (by omega) rfl _ _ _ (l.map (·.s)) _
  (aGq aDm rfl CE.me (·.s) Sp.v Sp.fits_v (fun _=>rfl) l hok.num c hok.lt m cp (aCz m cp l c) (by simp[aCz,Hp.set]) (by simp[aCz,Hp.set,hne]))
  (fun xs x h=>by have:=h.2;omega) (by omega) nY aBW aHn _ [] (fun x y=>by simpa using aGD x y)
noncomputable def cY(l:List CE):List Cg:=(nP l).map fun s=>⟨s,cV l s⟩
theorem pY(l:List CE):(nP l).length=l.length:=by
 unfold nP
 rw[(dH nY (l.map (·.s))).length_eq,List.length_map]
end Go.Proofs.YtemjhgboialjpaaGreat
namespace Go.Proofs.YtemjhgboialjpaaGreat
open Go.Proofs.YtemjhgboialjpaaGreat renaming fE→uA,dU→uB,cM→uC,cN→uD,bV→uE,fF→uF,bQ→uG,cO→uH,cP→uI,bW→uJ,bX→uK,cG→uL,dP→uM,fG→uN,dG→uO,aZ→uP,gR→uQ,fS→uR,dA→uS
open Go.RowKit
attribute [local irreducible] IntKind.wrap
def kZ(l:List Cg)(i:Nat)(s:Sp):Nat→Bool
 |0=>true
 |k+1=>if (l.getD k default).s=s then (kZ l i s k&&decide (i≤k)) else kZ l i s k
theorem aFg(l:List Cg)(i:Nat)(s:Sp):∀k,k≤l.length→kZ l i s k=((l.take (min k i)).all fun x=>decide (x.s≠s))
 |0,_=>by simp[kZ]
 |k+1,hk=>by
  have hlt:k<l.length:=hk
  have hg:l.getD k default=l[k]:=by rw[List.getD_eq_getElem?_getD,List.getElem?_eq_getElem hlt];rfl
  rw[kZ,hg,aFg l i s k (by omega)]
  rcases Nat.lt_or_ge k i with hki|hki
  ·rw[Nat.min_eq_left (by omega:k≤i),Nat.min_eq_left (by omega:k+1≤i),List.take_succ_eq_append_getElem hlt,List.all_append]
   have hd:decide (i≤k)=false:=decide_eq_false (by omega)
   by_cases he:l[k].s=s
   ·simp[he,hd]
   simp[he]
  rw[Nat.min_eq_right (by omega:i≤k),Nat.min_eq_right (by omega:i≤k+1)]
  have hd:decide (i≤k)=true:=decide_eq_true (by omega)
  by_cases he:l[k].s=s
  ·rw[if_pos he,hd,Bool.and_true]
  rw[if_neg he]
theorem aHY{l:List Cg}{i:Nat}(hi:i<l.length):kZ l i (l.getD i default).s l.length=nH l i:=by
 rw[aFg l i _ _ (Nat.le_refl _),Nat.min_eq_right (by omega)]
 rfl
theorem aID{l:List Cg}{k:Nat}(hk:k<l.length)(s:Sp):tot (l.take (k+1)) s=if l[k].s=s then IntKind.i64.wrap (tot (l.take k) s+l[k].d) else tot (l.take k) s:=by
 rw[List.take_succ_eq_append_getElem hk,aIE]
set_option maxRecDepth 100000 in
set_option maxHeartbeats 4000000 in
theorem aHq(own:Own)(l:List Cg)(hl:l.length≤100000)(h:Hp):aW Tryz.prog 79 [cgs own l] h (lst (.agg 4) ((wJ l).map Cg.v)):=by
 refine cK (fun L=>cE (fun L=>bI (Cg.names_v L) _) L) fun h' nx hh=>aD L.corollaryref23_Sum_low fun hd=>?_
 simp only[jL,jM,jA,jB,jN,jO,jP,jQ,V.undef]
 (repeat' (first|(with_reducible first|refine stp ?_|refine uP (by decide) ?_|refine uQ (fun _=>?_) (fun _=>?_))|((first|(with_reducible refine uA ?_;first|refine uB rfl ?_ ?_|(first|refine uC rfl ?_|refine uD rfl ?_)|refine uE rfl ?_)|(with_reducible refine uF ?_;first|refine uG rfl ?_ ?_|(first|refine uH rfl ?_|refine uI rfl ?_)|refine uJ rfl ?_|refine uK (uL ?_)|refine uK (uM ?_))|(with_reducible refine uN ?_;refine uO rfl ?_))<;>try simp only[ go_sem,reduceIte,jA,jB,jC,jD,reduceCtorEq,jE,jF])|(with_reducible refine uR ?_;refine uS rfl ?_)|omega))
 refine aP (fun q:Nat×Own=>aB 89 0 [(0,cgs own l),(3,cgs q.2 (cH l q.1)),(4, .int .i64 q.1)])
  (fun q hp nx1=>q.1≤l.length∧nx≤nx1∧aH hp nx1∧Hp.same nx h' hp∧Acc hp nx q.2 ((cH l q.1).map Cg.v))
  (fun q=>l.length-q.1) (0, .nil) ⟨Nat.zero_le _,Nat.le_refl _,hd,Hp.same.rfl',Acc.nil⟩ ?_ ?_
 ·simp only[WkL,aB,jH,jI,jJ,cgs,cH,List.map_nil,go_sem,reduceIte,jA,jB,jC,jD,reduceCtorEq,jE,jF]
 rintro⟨i,o⟩ hp nx1 ⟨hi,hnx,hdm,hsm,hacc⟩
 generalize hQ:bG _ _ _ _ _=Q0
 dsimp only at hi hacc
 simp only[aB,cgs,go_sem,reduceIte,jA,jB,jC,jD,reduceCtorEq,jE,jF]
 rcases Nat.lt_or_ge i l.length with hlt|hge
 ·have hc:decide ((i:Int)<(l.length:Int))=true:=decide_eq_true (by omega)
  have hgi:l.getD i default=l[i]:=by rw[List.getD_eq_getElem?_getD,List.getElem?_eq_getElem hlt];rfl
  have hg:(l.map Cg.v).getD i (.tup [])= .agg [.int .i64 l[i].s.p, .int .i64 l[i].s.t.e, .int .i64 l[i].s.t.r, .int .i64 l[i].d]:=eB Cg.v _ l i hlt
  have hw:IntKind.i64.wrap ((i:Int)+1)=((i+1:Nat):Int):=by rw[aV]<;>omega
  (repeat' (first|(with_reducible first|refine stp ?_|refine uP (by decide) ?_|refine uQ (fun _=>?_) (fun _=>?_))|((first|(with_reducible refine uA ?_;first|refine uB rfl ?_ ?_|(first|refine uC rfl ?_|refine uD rfl ?_)|refine uE rfl ?_)|(with_reducible refine uF ?_;first|refine uG rfl ?_ ?_|(first|refine uH rfl ?_|refine uI rfl ?_)|refine uJ rfl ?_|refine uK (uL ?_)|refine uK (uM ?_))|(with_reducible refine uN ?_;refine uO rfl ?_))<;>try simp only[hc,jK,go_sem,reduceIte,jA,jB,jC,jD,reduceCtorEq,jE,jF])|(with_reducible refine uR ?_;refine uS rfl ?_)|omega))
  refine aP (fun k:Nat=>aB 89 0 [(0,cgs own l),(3,cgs o (cH l i)),(4, .int .i64 i),(5, .bool (kZ l i l[i].s k)),(6, .int .i64 (tot (l.take k) l[i].s)),(7, .int .i64 k)])
   (fun k h2 nx2=>k≤l.length∧h2=hp∧nx1≤nx2) (fun k=>l.length-k) 0 ⟨Nat.zero_le _,rfl,by simp⟩ ?_ ?_
  ·simp only[WkL,aB,jH,jI,jJ,cgs,kZ,List.take_zero,aJT,go_sem,reduceIte,jA,jB,jC,jD,reduceCtorEq,jE,jF]
  rintro k h2 nx2 ⟨hk,rfl,hnx2⟩
  generalize hQ2:bG _ _ _ _ _=Q2
  simp only[aB,cgs,go_sem,reduceIte,jA,jB,jC,jD,reduceCtorEq,jE,jF]
  rcases Nat.lt_or_ge k l.length with hltk|hgek
  ·have hck:decide ((k:Int)<(l.length:Int))=true:=decide_eq_true (by omega)
   have hgk':l.getD k default=l[k]:=by rw[List.getD_eq_getElem?_getD,List.getElem?_eq_getElem hltk];rfl
   have hgk:(l.map Cg.v).getD k (.tup [])= .agg [.int .i64 l[k].s.p, .int .i64 l[k].s.t.e, .int .i64 l[k].s.t.r, .int .i64 l[k].d]:=eB Cg.v _ l k hltk
   have hwk:IntKind.i64.wrap ((k:Int)+1)=((k+1:Nat):Int):=by rw[aV]<;>omega
   have hq:veq (.plain (.agg 3) [.int, .int, .int]) (.agg [.int .i64 l[k].s.p, .int .i64 l[k].s.t.e, .int .i64 l[k].s.t.r]) (.agg [.int .i64 l[i].s.p, .int .i64 l[i].s.t.e, .int .i64 l[i].s.t.r])=some (decide (l[k].s=l[i].s)):=aCU l[k].s l[i].s
   have ht:=aID hltk l[i].s
   by_cases he:l[k].s=l[i].s
   ·rw[decide_eq_true he] at hq
    rw[if_pos he] at ht
    have hf:kZ l i l[i].s (k+1)=(kZ l i l[i].s k&&decide (i≤k)):=by rw[kZ,hgk',if_pos he]
    have hge2:decide ((k:Int)≥(i:Int))=decide (i≤k):=by rw[Bool.eq_iff_iff];simp
    have hge3:decide ((i:Int)≤(k:Int))=decide (i≤k):=by rw[Bool.eq_iff_iff];simp
    cases hfk:kZ l i l[i].s k with
    |true=>
     rw[hfk,Bool.true_and] at hf
     (repeat' (first|(with_reducible first|refine stp ?_|refine uP (by decide) ?_|refine uQ (fun _=>?_) (fun _=>?_))|((first|(with_reducible refine uA ?_;first|refine uB rfl ?_ ?_|(first|refine uC rfl ?_|refine uD rfl ?_)|refine uE rfl ?_)|(with_reducible refine uF ?_;first|refine uG rfl ?_ ?_|(first|refine uH rfl ?_|refine uI rfl ?_)|refine uJ rfl ?_|refine uK (uL ?_)|refine uK (uM ?_))|(with_reducible refine uN ?_;refine uO rfl ?_))<;>try simp only[hck,hg,hgk,hlt,hltk,hwk,hq,hfk,hge2,hge3,←ht,jK,jG,go_sem,reduceIte,jA,jB,jC,jD,reduceCtorEq,jE,jF])|(with_reducible refine uR ?_;refine uS rfl ?_)|omega))
     rw[←hQ2]
     refine aC (k+1) (by omega) ⟨hltk,rfl,by first|omega|(dsimp only;omega)⟩ ?_
     simp only[WkL,aB,jH,jI,jJ,cgs,hf,go_sem,reduceIte,jA,jB,jC,jD,reduceCtorEq,jE,jF]
    |false=>
     rw[hfk,Bool.false_and] at hf
     (repeat' (first|(with_reducible first|refine stp ?_|refine uP (by decide) ?_|refine uQ (fun _=>?_) (fun _=>?_))|((first|(with_reducible refine uA ?_;first|refine uB rfl ?_ ?_|(first|refine uC rfl ?_|refine uD rfl ?_)|refine uE rfl ?_)|(with_reducible refine uF ?_;first|refine uG rfl ?_ ?_|(first|refine uH rfl ?_|refine uI rfl ?_)|refine uJ rfl ?_|refine uK (uL ?_)|refine uK (uM ?_))|(with_reducible refine uN ?_;refine uO rfl ?_))<;>try simp only[hck,hg,hgk,hlt,hltk,hwk,hq,hfk,hge2,hge3,←ht,jK,jG,go_sem,reduceIte,jA,jB,jC,jD,reduceCtorEq,jE,jF])|(with_reducible refine uR ?_;refine uS rfl ?_)|omega))
     rw[←hQ2]
     refine aC (k+1) (by omega) ⟨hltk,rfl,by first|omega|(dsimp only;omega)⟩ ?_
     simp only[WkL,aB,jH,jI,jJ,cgs,hf,go_sem,reduceIte,jA,jB,jC,jD,reduceCtorEq,jE,jF]
   rw[decide_eq_false he] at hq
   rw[if_neg he] at ht
   have hf:kZ l i l[i].s (k+1)=kZ l i l[i].s k:=by rw[kZ,hgk',if_neg he]
   (repeat' (first|(with_reducible first|refine stp ?_|refine uP (by decide) ?_|refine uQ (fun _=>?_) (fun _=>?_))|((first|(with_reducible refine uA ?_;first|refine uB rfl ?_ ?_|(first|refine uC rfl ?_|refine uD rfl ?_)|refine uE rfl ?_)|(with_reducible refine uF ?_;first|refine uG rfl ?_ ?_|(first|refine uH rfl ?_|refine uI rfl ?_)|refine uJ rfl ?_|refine uK (uL ?_)|refine uK (uM ?_))|(with_reducible refine uN ?_;refine uO rfl ?_))<;>try simp only[hck,hg,hgk,hlt,hltk,hwk,hq,jK,jG,go_sem,reduceIte,jA,jB,jC,jD,reduceCtorEq,jE,jF])|(with_reducible refine uR ?_;refine uS rfl ?_)|omega))
   rw[←hQ2]
   refine aC (k+1) (by omega) ⟨hltk,rfl,by first|omega|(dsimp only;omega)⟩ ?_
   simp only[WkL,aB,jH,jI,jJ,cgs,hf,ht,go_sem,reduceIte,jA,jB,jC,jD,reduceCtorEq,jE,jF]
  have hck:decide ((k:Int)<(l.length:Int))=false:=decide_eq_false (by omega)
  have hkl:l.take k=l:=List.take_of_length_le hgek
  have hke:k=l.length:=by omega
  have hfa:kZ l i l[i].s k=nH l i:=by rw[hke,←hgi];exact aHY hlt
  rw[hkl,hfa]
  have hsucc:cH l (i+1)=if nH l i=true∧tot l l[i].s≠0 then aBz (cH l i) ⟨l[i].s,tot l l[i].s⟩ else cH l i:=by rw[cH,hgi]
  by_cases hft:nH l i=true∧tot l l[i].s≠0
  case neg=>
   rw[if_neg hft] at hsucc
   cases hfb:nH l i with
   |false=>
    (repeat' (first|(with_reducible first|refine stp ?_|refine uP (by decide) ?_|refine uQ (fun _=>?_) (fun _=>?_))|((first|(with_reducible refine uA ?_;first|refine uB rfl ?_ ?_|(first|refine uC rfl ?_|refine uD rfl ?_)|refine uE rfl ?_)|(with_reducible refine uF ?_;first|refine uG rfl ?_ ?_|(first|refine uH rfl ?_|refine uI rfl ?_)|refine uJ rfl ?_|refine uK (uL ?_)|refine uK (uM ?_))|(with_reducible refine uN ?_;refine uO rfl ?_))<;>try simp only[hck,hfb,hw,jK,go_sem,reduceIte,jA,jB,jC,jD,reduceCtorEq,jE,jF])|(with_reducible refine uR ?_;refine uS rfl ?_)|omega))
    rw[←hQ2]
    clear hQ2 Q2
    (repeat' (first|(with_reducible first|refine stp ?_|refine uP (by decide) ?_|refine uQ (fun _=>?_) (fun _=>?_))|((first|(with_reducible refine uA ?_;first|refine uB rfl ?_ ?_|(first|refine uC rfl ?_|refine uD rfl ?_)|refine uE rfl ?_)|(with_reducible refine uF ?_;first|refine uG rfl ?_ ?_|(first|refine uH rfl ?_|refine uI rfl ?_)|refine uJ rfl ?_|refine uK (uL ?_)|refine uK (uM ?_))|(with_reducible refine uN ?_;refine uO rfl ?_))<;>try simp only[hfb,hw,go_sem,reduceIte,jA,jB,jC,jD,reduceCtorEq,jE,jF])|(with_reducible refine uR ?_;refine uS rfl ?_)|omega))
    rw[←hQ]
    refine aC (i+1,o) (by dsimp only;omega) ⟨hlt,by first|omega|(dsimp only;omega),(by(try dsimp only);repeat (first|exact aH.up hdm (by omega)|refine aH.set2 ?_ (by omega) _|refine aH.del ?_|refine aH.delO ?_ _)),hsm,by dsimp only;rw[hsucc];exact hacc⟩ ?_
    simp only[WkL,aB,jH,jI,jJ,cgs,hsucc,go_sem,reduceIte,jA,jB,jC,jD,reduceCtorEq,jE,jF]
   |true=>
    have h0:tot l l[i].s=0:=by
     by_cases h0:tot l l[i].s=0
     ·exact h0
     exact absurd ⟨hfb,h0⟩ hft
    have hz:(tot l l[i].s==0)=true:=by simp[h0]
    (repeat' (first|(with_reducible first|refine stp ?_|refine uP (by decide) ?_|refine uQ (fun _=>?_) (fun _=>?_))|((first|(with_reducible refine uA ?_;first|refine uB rfl ?_ ?_|(first|refine uC rfl ?_|refine uD rfl ?_)|refine uE rfl ?_)|(with_reducible refine uF ?_;first|refine uG rfl ?_ ?_|(first|refine uH rfl ?_|refine uI rfl ?_)|refine uJ rfl ?_|refine uK (uL ?_)|refine uK (uM ?_))|(with_reducible refine uN ?_;refine uO rfl ?_))<;>try simp only[hck,hfb,hw,hz,jK,go_sem,reduceIte,jA,jB,jC,jD,reduceCtorEq,jE,jF])|(with_reducible refine uR ?_;refine uS rfl ?_)|omega))
    rw[←hQ2]
    clear hQ2 Q2
    (repeat' (first|(with_reducible first|refine stp ?_|refine uP (by decide) ?_|refine uQ (fun _=>?_) (fun _=>?_))|((first|(with_reducible refine uA ?_;first|refine uB rfl ?_ ?_|(first|refine uC rfl ?_|refine uD rfl ?_)|refine uE rfl ?_)|(with_reducible refine uF ?_;first|refine uG rfl ?_ ?_|(first|refine uH rfl ?_|refine uI rfl ?_)|refine uJ rfl ?_|refine uK (uL ?_)|refine uK (uM ?_))|(with_reducible refine uN ?_;refine uO rfl ?_))<;>try simp only[hfb,hw,hz,go_sem,reduceIte,jA,jB,jC,jD,reduceCtorEq,jE,jF])|(with_reducible refine uR ?_;refine uS rfl ?_)|omega))
    rw[←hQ]
    refine aC (i+1,o) (by dsimp only;omega) ⟨hlt,by first|omega|(dsimp only;omega),(by(try dsimp only);repeat (first|exact aH.up hdm (by omega)|refine aH.set2 ?_ (by omega) _|refine aH.del ?_|refine aH.delO ?_ _)),hsm,by dsimp only;rw[hsucc];exact hacc⟩ ?_
    simp only[WkL,aB,jH,jI,jJ,cgs,hsucc,go_sem,reduceIte,jA,jB,jC,jD,reduceCtorEq,jE,jF]
  case pos=>
   rw[if_pos hft] at hsucc
   have hfb:=hft.1
   have hz:(tot l l[i].s==0)=false:=by simp[hft.2]
   (repeat' (first|(with_reducible first|refine stp ?_|refine uP (by decide) ?_|refine uQ (fun _=>?_) (fun _=>?_))|((first|(with_reducible refine uA ?_;first|refine uB rfl ?_ ?_|(first|refine uC rfl ?_|refine uD rfl ?_)|refine uE rfl ?_)|(with_reducible refine uF ?_;first|refine uG rfl ?_ ?_|(first|refine uH rfl ?_|refine uI rfl ?_)|refine uJ rfl ?_|refine uK (uL ?_)|refine uK (uM ?_))|(with_reducible refine uN ?_;refine uO rfl ?_))<;>try simp only[hck,hfb,hw,hz,jK,go_sem,reduceIte,jA,jB,jC,jD,reduceCtorEq,jE,jF])|(with_reducible refine uR ?_;refine uS rfl ?_)|omega))
   rw[←hQ2]
   clear hQ2 Q2
   (repeat' (first|(with_reducible first|refine stp ?_|refine uP (by decide) ?_|refine uQ (fun _=>?_) (fun _=>?_))|((first|(with_reducible refine uA ?_;first|refine uB rfl ?_ ?_|(first|refine uC rfl ?_|refine uD rfl ?_)|refine uE rfl ?_)|(with_reducible refine uF ?_;first|refine uG rfl ?_ ?_|(first|refine uH rfl ?_|refine uI rfl ?_)|refine uJ rfl ?_|refine uK (uL ?_)|refine uK (uM ?_))|(with_reducible refine uN ?_;refine uO rfl ?_))<;>try simp only[hfb,hw,hz,go_sem,reduceIte,jA,jB,jC,jD,reduceCtorEq,jE,jF])|(with_reducible refine uR ?_;refine uS rfl ?_)|omega))
   have hlenO:(cH l i).length≤i:=wI l i
   refine aP (fun a:Nat=>aB 89 0 [(0,cgs own l),(3,cgs o (cH l i)),(4, .int .i64 i),(6, .int .i64 (tot l l[i].s)),(8, .int .i64 a)])
    (fun a h2' nx3=>a≤(cH l i).length∧(∀x∈(cH l i).take a,x.s.less l[i].s=true)∧h2'=h2∧nx1≤nx3) (fun a=>(cH l i).length-a) 0 ⟨Nat.zero_le _,by simp,rfl,by first|omega|(dsimp only;omega)⟩ ?_ ?_
   ·simp only[WkL,aB,jH,jI,jJ,cgs,go_sem,reduceIte,jA,jB,jC,jD,reduceCtorEq,jE,jF]
   rintro a h3 nx3 ⟨ha,hless,rfl,hnx3⟩
   generalize hQ3:bG _ _ _ _ _=Q3
   simp only[aB,cgs,go_sem,reduceIte,jA,jB,jC,jD,reduceCtorEq,jE,jF]
   have fin:∀nx4,nx1≤nx4→(cH l i).takeWhile (fun y=>y.s.less l[i].s)=(cH l i).take a→(cH l i).dropWhile (fun y=>y.s.less l[i].s)=(cH l i).drop a→
    lwp Tryz.prog (.draw 18 L.corollaryref23_Sum_r15 L.corollaryref23_Sum_r15t) (fA 1 (yL (lwp Tryz.prog (.ops L.corollaryref23_Sum_r16)) Q0)) ⟨aB 89 0 [(0,cgs own l),(3,cgs o (cH l i)),(4, .int .i64 i),(6, .int .i64 (tot l l[i].s)),(8, .int .i64 a)],h3,nx4⟩:=by
    intro nx4 hnx4 w1 w2
    have hins:cH l (i+1)=(cH l i).take a++⟨l[i].s,tot l l[i].s⟩::(cH l i).drop a:=by rw[hsucc];unfold aBz;rw[w1,w2]
    simp only[aB,cgs,go_sem,reduceIte,jA,jB,jC,jD,reduceCtorEq,jE,jF]
    refine uS rfl ?_
    refine uG rfl (by simp only[hg,cgs,jK,List.length_take,List.length_drop,List.length_append,jG,go_sem,reduceIte,jA,jB,jC,jD,reduceCtorEq,jE,jF];try omega) ?_
    simp only[hg,cgs,jK,List.length_take,List.length_drop,List.length_append,jG,go_sem,reduceIte,jA,jB,jC,jD,reduceCtorEq,jE,jF]
    have htk:(List.map Cg.v (cH l i)).take (cH l i).length=List.map Cg.v (cH l i):=by
     rw[List.take_of_length_le (by simp)]
    refine uK (uM ?_)
    simp only[go_sem,reduceIte,jA,jB,jC,jD,reduceCtorEq,jE,jF]
    (repeat' (first|(with_reducible first|refine stp ?_|refine uP (by decide) ?_|refine uQ (fun _=>?_) (fun _=>?_))|((first|(with_reducible refine uA ?_;first|refine uB rfl ?_ ?_|(first|refine uC rfl ?_|refine uD rfl ?_)|refine uE rfl ?_)|(with_reducible refine uF ?_;first|refine uG rfl ?_ ?_|(first|refine uH rfl ?_|refine uI rfl ?_)|refine uJ rfl ?_|refine uK (uL ?_)|refine uK (uM ?_))|(with_reducible refine uN ?_;refine uO rfl ?_))<;>try simp only[hw,go_sem,reduceIte,jA,jB,jC,jD,reduceCtorEq,jE,jF])|(with_reducible refine uR ?_;refine uS rfl ?_)|omega))
    rw[←hQ]
    refine aC (i+1, .tok (nx4+17)) (by dsimp only;omega) ⟨hlt,by first|omega|(dsimp only;omega),?_,?_,?_⟩ ?_
    ·have hdm:=hdm.up hnx4
     exact(by(try dsimp only);repeat (first|exact aH.up hdm (by omega)|refine aH.set2 ?_ (by omega) _|refine aH.del ?_|refine aH.delO ?_ _))
    ·exact(by(try dsimp only);repeat (first|exact hsm|refine aS ?_ (by omega) _|refine aT ?_ (by omega)))
    ·dsimp only;rw[hins];exact .inr ⟨by simp,nx4+17,by omega,rfl,by simp only[go_sem,reduceIte,jA,jB,jC,jD,reduceCtorEq,jE,jF]⟩
    simp only[WkL,aB,jH,jI,jJ,cgs,hins,htk,Cg.v,List.map_append,List.map_cons,List.map_take,List.map_drop,List.append_assoc,go_sem,reduceIte,jA,jB,jC,jD,reduceCtorEq,jE,jF]
   rcases Nat.lt_or_ge a (cH l i).length with hal|hal
   ·have hal':decide ((a:Int)<((cH l i).length:Int))=true:=decide_eq_true (by omega)
    have hga:((cH l i).map Cg.v).getD a (.tup [])= .agg [.int .i64 (cH l i)[a].s.p, .int .i64 (cH l i)[a].s.t.e, .int .i64 (cH l i)[a].s.t.r, .int .i64 (cH l i)[a].d]:=eB Cg.v _ (cH l i) a hal
    have hwa:IntKind.i64.wrap ((a:Int)+1)=((a+1:Nat):Int):=by rw[aV]<;>omega
    have hsp:∀h,aW Tryz.prog 142 [.agg [.int .i64 (cH l i)[a].s.p, .int .i64 (cH l i)[a].s.t.e, .int .i64 (cH l i)[a].s.t.r], .agg [.int .i64 l[i].s.p, .int .i64 l[i].s.t.e, .int .i64 l[i].s.t.r]] h (.bool ((cH l i)[a].s.less l[i].s)):=fun h=>aDY _ _ h
    cases hls:(cH l i)[a].s.less l[i].s with
    |true=>
     rw[hls] at hsp
     (repeat' (first|(with_reducible first|refine stp ?_|refine uP (by decide) ?_|refine uQ (fun _=>?_) (fun _=>?_))|((first|(with_reducible refine uA ?_;first|refine uB rfl ?_ ?_|(first|refine uC rfl ?_|refine uD rfl ?_)|refine uE rfl ?_)|(with_reducible refine uF ?_;first|refine uG rfl ?_ ?_|refine bF (hsp _) rfl (bH _) ?_|(first|refine uH rfl ?_|refine uI rfl ?_)|refine uJ rfl ?_|refine uK (uL ?_)|refine uK (uM ?_))|(with_reducible refine uN ?_;refine uO rfl ?_))<;>try simp only[hal',hga,hg,hal,hlt,hwa,jK,jG,go_sem,reduceIte,jA,jB,jC,jD,reduceCtorEq,jE,jF])|(with_reducible refine uR ?_;refine uS rfl ?_)|omega))
     rw[←hQ3]
     refine aC (a+1) (by omega) ⟨by omega,?_,rfl,by first|omega|(dsimp only;omega)⟩ ?_
     ·intro x hx
      rw[List.take_succ_eq_append_getElem hal,List.mem_append,List.mem_singleton] at hx
      rcases hx with hx|rfl
      ·exact hless x hx
      exact hls
     simp only[WkL,aB,jH,jI,jJ,cgs,go_sem,reduceIte,jA,jB,jC,jD,reduceCtorEq,jE,jF]
    |false=>
     rw[hls] at hsp
     (repeat' (first|(with_reducible first|refine stp ?_|refine uP (by decide) ?_|refine uQ (fun _=>?_) (fun _=>?_))|((first|(with_reducible refine uA ?_;first|refine uB rfl ?_ ?_|(first|refine uC rfl ?_|refine uD rfl ?_)|refine uE rfl ?_)|(with_reducible refine uF ?_;first|refine uG rfl ?_ ?_|refine bF (hsp _) rfl (bH _) ?_|(first|refine uH rfl ?_|refine uI rfl ?_)|refine uJ rfl ?_|refine uK (uL ?_)|refine uK (uM ?_))|(with_reducible refine uN ?_;refine uO rfl ?_))<;>try simp only[hal',hga,hg,hal,hlt,hwa,jK,jG,go_sem,reduceIte,jA,jB,jC,jD,reduceCtorEq,jE,jF])|(with_reducible refine uR ?_;refine uS rfl ?_)|omega))
     obtain⟨w1,w2⟩:=tJ (fun y:Cg=>y.s.less l[i].s) (cH l i) a ha hless (fun _=>hls)
     rw[←hQ3]
     refine cT ?_
     refine cF ?_
     refine qX _ (iY ?_ (Hp.le_refl _) (Nat.le_refl _)) (fin _ (by first|omega|(dsimp only;omega)) w1 w2)
     simp only[WkL,aB,jH,jI,jJ,cgs,go_sem,reduceIte,jA,jB,jC,jD,reduceCtorEq,jE,jF]
   have hal':decide ((a:Int)<((cH l i).length:Int))=false:=decide_eq_false (by omega)
   (repeat' (first|(with_reducible first|refine stp ?_|refine uP (by decide) ?_|refine uQ (fun _=>?_) (fun _=>?_))|((first|(with_reducible refine uA ?_;first|refine uB rfl ?_ ?_|(first|refine uC rfl ?_|refine uD rfl ?_)|refine uE rfl ?_)|(with_reducible refine uF ?_;first|refine uG rfl ?_ ?_|(first|refine uH rfl ?_|refine uI rfl ?_)|refine uJ rfl ?_|refine uK (uL ?_)|refine uK (uM ?_))|(with_reducible refine uN ?_;refine uO rfl ?_))<;>try simp only[hal',hg,hlt,jK,jG,go_sem,reduceIte,jA,jB,jC,jD,reduceCtorEq,jE,jF])|(with_reducible refine uR ?_;refine uS rfl ?_)|omega))
   obtain⟨w1,w2⟩:=tJ (fun y:Cg=>y.s.less l[i].s) (cH l i) a ha hless (fun h=>absurd h (by omega))
   rw[←hQ3]
   refine cT ?_
   refine cF ?_
   refine qX _ (iY ?_ (Hp.le_refl _) (Nat.le_refl _)) (fin _ (by first|omega|(dsimp only;omega)) w1 w2)
   simp only[WkL,aB,jH,jI,jJ,cgs,go_sem,reduceIte,jA,jB,jC,jD,reduceCtorEq,jE,jF]
 have hc:decide ((i:Int)<(l.length:Int))=false:=decide_eq_false (by omega)
 have hil:i=l.length:=by omega
 (repeat' (first|(with_reducible first|refine stp ?_|refine uP (by decide) ?_|refine uQ (fun _=>?_) (fun _=>?_))|((first|(with_reducible refine uA ?_;first|refine uB rfl ?_ ?_|(first|refine uC rfl ?_|refine uD rfl ?_)|refine uE rfl ?_)|(with_reducible refine uF ?_;first|refine uG rfl ?_ ?_|(first|refine uH rfl ?_|refine uI rfl ?_)|refine uJ rfl ?_|refine uK (uL ?_)|refine uK (uM ?_))|(with_reducible refine uN ?_;refine uO rfl ?_))<;>try simp only[hc,jK,go_sem,reduceIte,jA,jB,jC,jD,reduceCtorEq,jE,jF])|(with_reducible refine uR ?_;refine uS rfl ?_)|omega))
 rw[←hQ]
 (repeat' (first|(with_reducible first|refine stp ?_|refine uP (by decide) ?_|refine uQ (fun _=>?_) (fun _=>?_))|((first|(with_reducible refine uA ?_;first|refine uB rfl ?_ ?_|(first|refine uC rfl ?_|refine uD rfl ?_)|refine uE rfl ?_)|(with_reducible refine uF ?_;first|refine uG rfl ?_ ?_|(first|refine uH rfl ?_|refine uI rfl ?_)|refine uJ rfl ?_|refine uK (uL ?_)|refine uK (uM ?_))|(with_reducible refine uN ?_;refine uO rfl ?_))<;>try simp only[ go_sem,reduceIte,jA,jB,jC,jD,reduceCtorEq,jE,jF])|(with_reducible refine uR ?_;refine uS rfl ?_)|omega))
 subst hil
 refine aF h' (hsm.le hd (Hp.le_refl _)) ⟨?_,Hp.le_refl _⟩
 simp only[go_sem,reduceIte,jA,jB,jC,jD,reduceCtorEq,jE,jF]
 rw[hacc.loose]
 rfl
end Go.Proofs.YtemjhgboialjpaaGreat
