/-
Texts of this proof,one behind the other. No conditions.
-/
import Derived.Test.YthikfnmcjipobaaGreatKl
import Derived.Test.YthikfnmcjipobaaGreatKe
import Derived.Test.YthikfnmcjipobaaGreatKf
/-
Counts as data:changes,what they come to,their order. Plain laws. No conditions.
-/
namespace Go.Proofs.YthikfnmcjipobaaGreat
set_option linter.unusedSimpArgs false
set_option linter.unusedVariables false
set_option linter.unusedSectionVars false
open Go.RowKit Go.Sort
structure Sp where
 p:Int
 t:Tm
 deriving DecidableEq,Inhabited
structure Cg where
 s:Sp
 d:Int
 deriving DecidableEq,Inhabited
def Sp.less(a b:Sp):Bool:=decide (a.p<b.p)||(decide (a.p=b.p)&&a.t.less b.t)
theorem Sp.less_irrefl(a:Sp):a.less a=false:=by simp[Sp.less,Tm.less_irrefl]
theorem Sp.less_tri(a b:Sp)(h1:a.less b=false)(h2:b.less a=false):a=b:=by
 simp only[Sp.less,Bool.or_eq_false_iff,decide_eq_false_iff_not,Bool.and_eq_false_iff] at h1 h2
 have hp:a.p=b.p:=by omega
 have ht:a.t=b.t:=Tm.less_tri _ _ (h1.2.resolve_left (fun h=>h hp)) (h2.2.resolve_left (fun h=>h hp.symm))
 cases a;cases b;simp_all
theorem Sp.less_trans{a b c:Sp}(h1:a.less b=true)(h2:b.less c=true):a.less c=true:=by
 simp only[Sp.less,Bool.or_eq_true,decide_eq_true_eq,Bool.and_eq_true] at h1 h2⊢
 rcases h1 with h1|⟨h1,h1'⟩<;>rcases h2 with h2|⟨h2,h2'⟩
 ·left;omega
 ·left;omega
 ·left;omega
 right;exact⟨by omega,Tm.less_trans h1' h2'⟩
def tot(l:List Cg)(s:Sp):Int:=l.foldl (fun n x=>if x.s=s then IntKind.i64.wrap (n+x.d) else n) 0
theorem aGc{l:List Cg}{s:Sp}(h:∀x∈l,x.s≠s):tot l s=0:=by
 unfold tot
 have:∀(l:List Cg) (n:Int),(∀x∈l,x.s≠s)→l.foldl (fun n x=>if x.s=s then IntKind.i64.wrap (n+x.d) else n) n=n:=by
  intro l
  induction l with
  |nil=>intro n _;rfl
  |cons x l ih=>
   intro n h
   rw[List.foldl_cons,if_neg (h x (by simp))]
   exact ih n fun y hy=>h y (by simp[hy])
 exact this l 0 h
def aEA(f:Sp→Int)(W:List Cg):Prop:=W.Pairwise (fun a b=>a.s.less b.s=true)∧∀x,x∈W↔(x.d=f x.s∧x.d≠0)
theorem xU{f:Sp→Int}{a b:List Cg}(ha:aEA f a)(hb:aEA f b):a=b:=by
 have nd:∀{l:List Cg},l.Pairwise (fun a b=>a.s.less b.s=true)→l.Nodup:=fun hl=>hl.imp (fun{x y} hxy e=>by subst e;rw[Sp.less_irrefl] at hxy;cases hxy)
 refine List.Perm.eq_of_pairwise (le:=fun(u v:Cg)=>u.s.less v.s=true) (fun x y _ _ h1 h2=>?_) ha.1 hb.1 ((List.perm_ext_iff_of_nodup (nd ha.1) (nd hb.1)).2 fun x=>by rw[ha.2,hb.2])
 have:=Sp.less_trans h1 h2
 rw[Sp.less_irrefl] at this;cases this
theorem aEA.get{f:Sp→Int}{W:List Cg}(h:aEA f W)(s:Sp):((W.find? fun x=>decide (x.s=s)).map (·.d)).getD 0=f s:=by
 cases hf:W.find? fun x=>decide (x.s=s) with
 |none=>
  have hn:=List.find?_eq_none.1 hf
  by_cases h0:f s=0
  ·simp[h0]
  exact absurd ((h.2 ⟨s,f s⟩).2 ⟨rfl,h0⟩) (fun hm=>by simpa using hn _ hm)
 |some x=>
  have hx:=List.find?_some hf
  have hm:=List.mem_of_find?_eq_some hf
  have hs:x.s=s:=by simpa using hx
  have:=((h.2 x).1 hm).1
  simp[this,hs]
def aAd(l:List Cg)(i:Nat):Bool:=(l.take i).all fun x=>decide (x.s≠(l.getD i default).s)
def aFx(out:List Cg)(x:Cg):List Cg:=out.takeWhile (fun y=>y.s.less x.s)++x::out.dropWhile (fun y=>y.s.less x.s)
def uW(l:List Cg):Nat→List Cg
 |0=>[]
 |i+1=>if aAd l i=true∧tot l (l.getD i default).s≠0 then aFx (uW l i) ⟨(l.getD i default).s,tot l (l.getD i default).s⟩ else uW l i
def aFd(l:List Cg):List Cg:=uW l l.length
theorem aDc(out:List Cg)(t x:Cg):x∈aFx out t↔x=t∨x∈out:=by
 unfold aFx
 conv=>rhs;rw[←List.takeWhile_append_dropWhile (p:=fun y:Cg=>y.s.less t.s) (l:=out)]
 simp only[List.mem_append,List.mem_cons]
 constructor
 ·rintro(h|h|h)<;>simp[h]
 rintro(h|h|h)<;>simp[h]
theorem aDb{out:List Cg}{t:Cg}(hs:out.Pairwise fun a b=>a.s.less b.s=true)(hn:∀y∈out,y.s≠t.s):(aFx out t).Pairwise fun a b=>a.s.less b.s=true:=by
 induction out with
 |nil=>simp[aFx]
 |cons a out ih=>
  have hs':=List.pairwise_cons.1 hs
  have ih:=ih hs'.2 fun y hy=>hn y (by simp[hy])
  unfold aFx
  cases ha:a.s.less t.s with
  |true=>
   simp only[List.takeWhile_cons,List.dropWhile_cons,ha,if_true,List.cons_append]
   refine List.pairwise_cons.2 ⟨fun y hy=>?_,ih⟩
   rcases(aDc out t y).1 hy with rfl|hy
   ·exact ha
   exact hs'.1 y hy
  |false=>
   simp only[List.takeWhile_cons,List.dropWhile_cons,ha,Bool.false_eq_true,if_false,List.nil_append]
   have hta:t.s.less a.s=true:=by
    cases h:t.s.less a.s with
    |true=>rfl
    |false=>exact absurd (Sp.less_tri _ _ h ha).symm (hn a (by simp))
   refine List.pairwise_cons.2 ⟨fun y hy=>?_,hs⟩
   rcases List.mem_cons.1 hy with rfl|hy
   ·exact hta
   exact Sp.less_trans hta (hs'.1 y hy)
theorem aBa(l:List Cg):∀i,i≤l.length→(uW l i).Pairwise (fun a b=>a.s.less b.s=true)∧∀x,x∈uW l i↔((∃y∈l.take i,y.s=x.s)∧x.d=tot l x.s∧x.d≠0)
 |0,_=>⟨by simp[uW],fun x=>by simp[uW]⟩
 |i+1,hi=>by
  obtain⟨h1,h2⟩:=aBa l i (by omega)
  have hlt:i<l.length:=hi
  have hg:l.getD i default=l[i]:=by rw[List.getD_eq_getElem?_getD,List.getElem?_eq_getElem hlt];rfl
  have htk:l.take (i+1)=l.take i++[l[i]]:=List.take_succ_eq_append_getElem hlt
  unfold uW
  rw[hg]
  split
  ·rename_i hc
   obtain⟨hf,ht⟩:=hc
   have hf':∀x∈l.take i,x.s≠l[i].s:=by
    unfold aAd at hf
    rw[hg,List.all_eq_true] at hf
    exact fun x hx=>by simpa using hf x hx
   refine⟨aDb h1 fun y hy=>?_,fun x=>?_⟩
   ·obtain⟨⟨z,hz,hzs⟩,_⟩:=(h2 y).1 hy
    rw[←hzs];exact hf' z hz
   rw[aDc,h2,htk]
   constructor
   ·rintro(rfl|⟨⟨y,hy,hys⟩,h3⟩)
    ·exact⟨⟨l[i],List.mem_append.2 (.inr (List.mem_singleton.2 rfl)),rfl⟩,rfl,ht⟩
    exact⟨⟨y,List.mem_append.2 (.inl hy),hys⟩,h3⟩
   rintro⟨⟨y,hy,hys⟩,h3,h4⟩
   rcases List.mem_append.1 hy with hy|hy
   ·exact .inr ⟨⟨y,hy,hys⟩,h3,h4⟩
   left
   have:y=l[i]:=by simpa using hy
   subst this
   cases x
   simp only at hys h3
   subst hys
   rw[h3]
  rename_i hc
  refine⟨h1,fun x=>?_⟩
  rw[h2,htk]
  constructor
  ·rintro⟨⟨y,hy,hys⟩,h3⟩
   exact⟨⟨y,List.mem_append.2 (.inl hy),hys⟩,h3⟩
  rintro⟨⟨y,hy,hys⟩,h3,h4⟩
  refine⟨?_,h3,h4⟩
  rcases List.mem_append.1 hy with hy|hy
  ·exact⟨y,hy,hys⟩
  have:y=l[i]:=by simpa using hy
  subst this
  by_cases hf:aAd l i=true
  ·exact absurd ⟨hf,by rw[hys,←h3];exact h4⟩ hc
  have hf2:(aAd l i)=false:=by simpa using hf
  unfold aAd at hf2
  rw[hg,List.all_eq_false] at hf2
  obtain⟨z,hz,hzs⟩:=hf2
  exact⟨z,hz,by have:z.s=l[i].s:=by simpa using hzs
                rw[this,hys]⟩
theorem aCw(l:List Cg):aEA (tot l) (aFd l):=by
 obtain⟨h1,h2⟩:=aBa l l.length (Nat.le_refl _)
 refine⟨h1,fun x=>?_⟩
 rw[show aFd l=uW l l.length from rfl,h2,List.take_length]
 constructor
 ·exact fun h=>h.2
 intro h
 refine⟨?_,h⟩
 apply Classical.byContradiction
 intro hn
 exact h.2 (by rw[h.1];exact aGc fun y hy e=>hn ⟨y,hy,e⟩)
structure CE where
 s:Sp
 n:Int
 b:Nat
 deriving DecidableEq,Inhabited
def eR(l:List CE)(s:Sp):Int:=((l.find? fun x=>decide (x.s=s)).map (·.n)).getD 0
structure iE(l:List CE)(c:Nat):Prop where
 key:(l.map (·.s)).Nodup
 num:(l.map (·.b)).Nodup
 lt:∀x∈l,x.b<c
 nz:∀x∈l,x.n≠0
theorem mU(c:Nat):iE [] c:=⟨by simp,by simp,by simp,by simp⟩
theorem gX{l:List CE}(hk:(l.map (·.s)).Nodup){x:CE}(hx:x∈l):eR l x.s=x.n:=by
 induction l with
 |nil=>simp at hx
 |cons y l ih=>
  simp only[List.map_cons,List.nodup_cons] at hk
  unfold eR
  rw[List.find?_cons]
  rcases List.mem_cons.1 hx with rfl|hx
  ·simp
  have hne:y.s≠x.s:=fun e=>hk.1 (e▸List.mem_map_of_mem hx)
  simp only[decide_eq_false hne]
  exact ih hk.2 hx
theorem iT{l:List CE}{s:Sp}(h:∀x∈l,x.s≠s):eR l s=0:=by
 unfold eR
 rw[List.find?_eq_none.2 (fun x hx=>by simpa using h x hx)]
 rfl
def pO(a b:Sp):Int:=orI [mV a.p b.p,oN a.t b.t]
theorem aGM(a b:Sp):pO a b<0↔a.less b=true:=by
 have h1:=pP.1 a.p b.p
 have h2:=pP.2 a.p b.p
 have h3:=aET a.t b.t
 have e:pO a b=if mV a.p b.p=0 then (if oN a.t b.t=0 then 0 else oN a.t b.t) else mV a.p b.p:=rfl
 rw[e]
 simp only[Sp.less,Tm.less,Bool.or_eq_true,decide_eq_true_eq,Bool.and_eq_true]
 split
 ·rename_i h0
  have:=h2.1 h0
  split
  ·omega
  rw[h3];omega
 rename_i h0
 have:a.p≠b.p:=fun e=>h0 (h2.2 e)
 rw[h1];omega
theorem oC(a b:Sp):ltOf pO a b=a.less b:=by
 unfold ltOf
 rw[Bool.eq_iff_iff]
 simp[aGM]
theorem aAZ:SWO (ltOf pO):=by
 refine⟨fun x=>?_,fun x y z=>?_,fun x y z=>?_⟩
 ·rw[oC];exact Sp.less_irrefl x
 ·simp only[oC];exact Sp.less_trans
 simp only[oC]
 intro h1 h2
 cases h:x.less z with
 |false=>rfl
 |true=>
  exfalso
  cases hxy:y.less x with
  |true=>have:=Sp.less_trans hxy h;rw[this] at h2;cases h2
  |false=>
   have:=Sp.less_tri _ _ h1 hxy
   subst this
   rw[h] at h2;cases h2
theorem aFb(x y:Sp)(h1:ltOf pO x y=false)(h2:ltOf pO y x=false):x=y:=by
 rw[oC] at h1 h2
 exact Sp.less_tri x y h1 h2
theorem yW{l:List CE}{c:Nat}(h:iE l c):aEA (eR l) ((gD pO (l.map (·.s))).map fun s=>⟨s,eR l s⟩):=by
 have hp:=gJ pO (l.map (·.s))
 refine⟨?_,fun x=>?_⟩
 ·rw[List.pairwise_map]
  have hs:=kV aAZ (l.map (·.s))
  have hnd:(gD pO (l.map (·.s))).Nodup:=hp.symm.nodup h.key
  have hb:=List.pairwise_and_iff.2 ⟨hs,hnd⟩
  refine hb.imp fun{a b} hab=>?_
  have h1:=hab.1
  rw[oC] at h1
  cases hl:a.less b with
  |true=>rfl
  |false=>exact absurd (Sp.less_tri _ _ hl h1) hab.2
 rw[List.mem_map]
 constructor
 ·rintro⟨s,hs,rfl⟩
  obtain⟨y,hy,rfl⟩:=List.mem_map.1 (hp.mem_iff.1 hs)
  exact⟨rfl,by rw[gX h.key hy];exact h.nz y hy⟩
 rintro⟨h1,h2⟩
 refine⟨x.s,hp.mem_iff.2 ?_,by cases x;simp_all⟩
 apply Classical.byContradiction
 intro hn
 exact h2 (by rw[h1];exact iT fun y hy e=>hn (List.mem_map.2 ⟨y,hy,e⟩))
end Go.Proofs.YthikfnmcjipobaaGreat
/-
Counts:adding to a map. No conditions beyond those named.
-/
namespace Go.Proofs.YthikfnmcjipobaaGreat
open Go.Proofs.YthikfnmcjipobaaGreat renaming iW→uA,gV→uB,fA→uC,fB→uD,dO→uE,iZ→uF,fQ→uG,fC→uH,fD→uI,dP→uJ,fZ→uK,fP→uL,gZ→uM,jS→uN,gB→uO,bT→uP,kK→uQ,iY→uR,gE→uS
open Nat renaming reduceAdd→jA,reduceSub→jB,reduceLT→jC,reduceLeDiff→jD,reduceEqDiff→jE
open Int renaming reduceToNat→jF,toNat_natCast→jG,natCast_add→jH,natCast_one→jI,natCast_zero→jJ
open List renaming length_map→jK,length_cons→jL,length_nil→jM,replicate_succ→jN,replicate_zero→jO,cons_append→jP,nil_append→jQ
set_option linter.unusedSimpArgs false
set_option linter.unusedVariables false
set_option linter.unusedSectionVars false
open Go.RowKit
def Sp.v(s:Sp):V:= .agg [.int .i64 s.p, .int .i64 s.t.e, .int .i64 s.t.r]
def Cg.v(x:Cg):V:= .agg [.int .i64 x.s.p, .int .i64 x.s.t.e, .int .i64 x.s.t.r, .int .i64 x.d]
def CE.me(x:CE):ME:=⟨x.s.v, .int .i64 x.n,x.b⟩
theorem Sp.fits_v(s:Sp):s.v.fits (.agg 3)=true:=rfl
theorem Cg.fits_v(s:Cg):s.v.fits (.agg 4)=true:=rfl
theorem aHK(a b:Sp):veq (.plain (.agg 3) [.int, .int, .int]) a.v b.v=some (decide (a=b)):=by
 obtain⟨p,e,r⟩:=a
 obtain⟨p',e',r'⟩:=b
 have h:veq (.plain (.agg 3) [.int, .int, .int]) (Sp.v ⟨p,e,r⟩) (Sp.v ⟨p',e',r'⟩)=some ((p==p')&&((e==e')&&(r==r'))):=rfl
 rw[h]
 congr 1
 rw[Bool.eq_iff_iff]
 simp
theorem lW(s:Sp):∀l:List CE,lG (.plain (.agg 3) [.int, .int, .int]) s.v (l.map CE.me)=some (l.findIdx? fun x=>decide (x.s=s))
 | []=>rfl
 |x::l=>by
  rw[List.map_cons,lG,List.findIdx?_cons]
  simp only[CE.me,aHK]
  by_cases h:s=x.s
  ·simp[h]
  have h':¬x.s=s:=fun e=>h e.symm
  have ih:=lW s l
  simp[h,h',ih]
def aHX(l:List CE)(c:Nat)(s:Sp):List CE×Nat×Nat:=match l.findIdx? (fun x=>decide (x.s=s)) with
 |some j=>(l,j,c)
 |none=>(l++[⟨s,0,c⟩],l.length,c+1)
def tX(l:List CE)(c:Nat)(s:Sp)(d:Int):List CE×Nat:=
 let (l1,j,c1):=aHX l c s
 let n:=IntKind.i64.wrap (eR l s+d)
 if n=0 then (l1.eraseIdx j,c1) else (l1.set j ⟨s,n,(l1.getD j default).b⟩,c1)
theorem aBZ{α:Type}{p:α→Bool}{l:List α}{j:Nat}(h:l.findIdx? p=some j):∃hj:j<l.length,p l[j]=true∧l.find? p=some l[j]:=by
 induction l generalizing j with
 |nil=>simp at h
 |cons a l ih=>
  rw[List.findIdx?_cons] at h
  by_cases ha:p a=true
  ·rw[if_pos ha] at h
   injection h with h;subst h
   exact⟨by simp,ha,by simp[List.find?_cons,ha]⟩
  rw[if_neg ha] at h
  obtain⟨j',h',rfl⟩:=Option.map_eq_some_iff.1 h
  obtain⟨h1,h2,h3⟩:=ih h'
  refine⟨by simpa using h1,by simpa using h2,?_⟩
  rw[List.find?_cons]
  simp only[Bool.not_eq_true] at ha
  simp only[ha]
  simpa using h3
theorem aBy{l:List CE}{c:Nat}(h:iE l c)(s:Sp):∃l1 j c1,aHX l c s=(l1,j,c1)∧∃hj:j<l1.length,l1[j].s=s∧l1[j].n=eR l s∧(l1.map (·.s)).Nodup∧(l1.map (·.b)).Nodup∧(∀x∈l1,x.b<c1)∧c≤c1∧(∀x∈l1,x.n≠0∨x.s=s)∧
 ((l.findIdx? (fun x=>decide (x.s=s))=some j∧l1=l∧c1=c)∨(l.findIdx? (fun x=>decide (x.s=s))=none∧l1=l++[⟨s,0,c⟩]∧j=l.length∧c1=c+1∧eR l s=0))∧(∀t,t≠s→eR l1 t=eR l t):=by
 unfold aHX
 cases hf:l.findIdx? (fun x=>decide (x.s=s)) with
 |some j=>
  obtain⟨hj,h1,h2⟩:=aBZ hf
  refine⟨l,j,c,rfl,hj,by simpa using h1,?_,h.key,h.num,h.lt,Nat.le_refl _,fun x hx=> .inl (h.nz x hx), .inl ⟨rfl,rfl,rfl⟩,fun _ _=>rfl⟩
  unfold eR
  rw[h2];rfl
 |none=>
  have hn:∀x∈l,x.s≠s:=by
   intro x hx
   have:=List.findIdx?_eq_none_iff.1 hf x hx
   simpa using this
  have h0:eR l s=0:=iT hn
  refine⟨_,_,_,rfl,by simp,by simp,by simp[h0],?_,?_,?_,Nat.le_succ _,?_, .inr ⟨rfl,rfl,rfl,rfl,h0⟩,?_⟩
  ·rw[List.map_append,List.nodup_append]
   refine⟨h.key,by simp,fun a ha b hb hab=>?_⟩
   obtain⟨x,hx,rfl⟩:=List.mem_map.1 ha
   simp only[List.map_cons,List.map_nil,List.mem_singleton] at hb
   exact hn x hx (hab.trans hb)
  ·rw[List.map_append,List.nodup_append]
   refine⟨h.num,by simp,fun a ha b hb hab=>?_⟩
   obtain⟨x,hx,rfl⟩:=List.mem_map.1 ha
   simp only[List.map_cons,List.map_nil,List.mem_singleton] at hb
   have:=h.lt x hx
   omega
  ·intro x hx
   rcases List.mem_append.1 hx with hx|hx
   ·have:=h.lt x hx;omega
   rw[List.mem_singleton.1 hx];exact Nat.lt_succ_self _
  ·intro x hx
   rcases List.mem_append.1 hx with hx|hx
   ·exact .inl (h.nz x hx)
   rw[List.mem_singleton.1 hx];exact .inr rfl
  intro t ht
  unfold eR
  rw[List.find?_append]
  cases l.find? (fun x=>decide (x.s=t)) with
  |some x=>rfl
  |none=>
   have:¬s=t:=fun e=>ht e.symm
   simp[this]
theorem aHW{l:List CE}(hn:(l.map (·.b)).Nodup){j:Nat}(hj:j<l.length):(l.map CE.me).findIdx? (fun e=>((e.b:Nat):Int)==(l[j].b:Int))=some j:=by
 induction l generalizing j with
 |nil=>simp at hj
 |cons a l ih=>
  rw[List.map_cons,List.nodup_cons] at hn
  rw[List.map_cons,List.findIdx?_cons]
  cases j with
  |zero=>simp[CE.me]
  |succ j=>
   have hj':j<l.length:=by simpa using hj
   have hne:¬a.b=l[j].b:=fun e=>hn.1 (List.mem_map.2 ⟨l[j],List.getElem_mem _,e.symm⟩)
   have hb:(((CE.me a).b:Int)==(((a::l)[j+1]).b:Int))=false:=by
    simp only[List.getElem_cons_succ,CE.me,beq_eq_false_iff_ne,ne_eq]
    omega
   rw[hb]
   have:=ih hn.2 hj'
   simp only[List.getElem_cons_succ]
   rw[this];rfl
theorem sB(l:List CE)(s:Sp):xM false (.int .i64 0) (l.map CE.me) (l.findIdx? fun x=>decide (x.s=s))= .int .i64 (eR l s):=by
 cases hf:l.findIdx? (fun x=>decide (x.s=s)) with
 |none=>
  have hn:∀x∈l,x.s≠s:=fun x hx=>by simpa using List.findIdx?_eq_none_iff.1 hf x hx
  rw[iT hn];rfl
 |some j=>
  obtain⟨hj,h1,h2⟩:=aBZ hf
  have:(l.map CE.me).getD j default=CE.me l[j]:=by rw[List.getD_eq_getElem?_getD,List.getElem?_map,List.getElem?_eq_getElem hj];rfl
  simp only[xM,this]
  unfold eR
  rw[h2];rfl
theorem aAe{l:List CE}(hk:(l.map (·.s)).Nodup){j:Nat}(hj:j<l.length):l.findIdx? (fun x=>decide (x.s=l[j].s))=some j:=by
 induction l generalizing j with
 |nil=>simp at hj
 |cons a l ih=>
  rw[List.map_cons,List.nodup_cons] at hk
  rw[List.findIdx?_cons]
  cases j with
  |zero=>simp
  |succ j=>
   have hj':j<l.length:=by simpa using hj
   have hne:¬a.s=l[j].s:=fun e=>hk.1 (List.mem_map.2 ⟨l[j],List.getElem_mem _,e.symm⟩)
   have:=ih hk.2 hj'
   simp only[List.getElem_cons_succ,hne,decide_false,Bool.false_eq_true,if_false,this]
   rfl
theorem aDS{l:List CE}{j:Nat}(hj:j<l.length):(l.map CE.me).set j ⟨l[j].s.v,((l.map CE.me).getD j default).v,((l.map CE.me).getD j default).b⟩=l.map CE.me:=by
 have:(l.map CE.me).getD j default=CE.me l[j]:=by rw[List.getD_eq_getElem?_getD,List.getElem?_map,List.getElem?_eq_getElem hj];rfl
 rw[this]
 apply List.ext_getElem
 ·simp
 intro i h1 h2
 rw[List.getElem_set]
 split
 ·rename_i e;subst e;rw[List.getElem_map];rfl
 rfl
theorem aHe{l:List CE}{j:Nat}(hj:j<l.length){s:Sp}(hs:l[j].s=s)(n:Int):(l.map CE.me).set j ⟨((l.map CE.me).getD j default).k, .int .i64 n,((l.map CE.me).getD j default).b⟩=(l.set j ⟨s,n,l[j].b⟩).map CE.me:=by
 have:(l.map CE.me).getD j default=CE.me l[j]:=by rw[List.getD_eq_getElem?_getD,List.getElem?_map,List.getElem?_eq_getElem hj];rfl
 rw[this,List.map_set]
 simp only[CE.me,hs]
theorem Hp.set_set(h:Hp)(n:Nat)(a b:Blk):(h.set n a).set n b=h.set n b:=by
 funext m
 simp only[Hp.set]
 split<;>rfl
theorem Hp.set_comm(h:Hp){n m:Nat}(hne:n≠m)(a b:Blk):(h.set n a).set m b=(h.set m b).set n a:=by
 funext q
 simp only[Hp.set]
 split
 ·rename_i e;subst e;rw[if_neg (fun e=>hne e.symm)]
 rfl
attribute [local irreducible] IntKind.wrap
attribute [local go_sem] Option.some.injEq Prod.mk.injEq false_and and_false Bool.true_eq_false mP jR jX gG iV if_true Bool.true_and mF dS iH gL dQ aA.ok aA.next LOp.ok LOp.next bC.ok bC.out aQ.ev bN iI cH bO cO V.undef Sh.size gH fW cK aA.dok aA.dres LOp.dok LOp.dout lI iD gI eX List.take_succ_cons List.take_zero List.take_nil List.drop_succ_cons List.drop_zero List.drop_nil List.set_cons_succ List.set_cons_zero List.getD_cons_succ List.getD_cons_zero jL jM List.map_cons List.map_nil List.all_cons List.all_nil List.mem_cons List.not_mem_nil jN jO jP jQ List.append_nil List.isEmpty_cons List.isEmpty_nil dW fJ hM Option.getD_some Option.isSome_some Option.isSome_none Nat.add_eq Nat.zero_add Nat.add_zero true_and and_true and_self true_implies implies_true false_implies forall_const forall_eq forall_eq_or_imp ne_eq not_false_eq_true not_true_eq_false Bool.not_true Bool.not_false decide_true decide_false Bool.and_true Bool.true_and Bool.and_false Bool.false_and true_or or_true false_or or_false eq_self Bool.false_eq_true mK iO gC aD fH eT eB dU cL dT aZ aX dN jG Int.toNat_zero List.take_length Hp.set_app Hp.del_app gW fV aA.plain LOp.isCall aA.dplain LOp.isStop eM kT gY lY fN V.gd_true V.gd_false fM eK eL fL bG aY aU fK eS beq_true beq_false dD dE dF cB cC bH bI cP eQ cE dK dH bJ dI dL eN eO bK dJ bF cD eP bP dG bQ bB gQ gO gP gN dM cG dX cR eG eF eE eD eC bX bW cZ cY cX cA bZ bY eJ eI eH dC dB dA cQ cF bS kM Hp.turn fT Option.isNone_some Option.isNone_none oL gF fO aA.plain2 LOp.isApp oM lP lQ iQ fS fR
set_option maxRecDepth 100000 in
theorem aDG(l:List CE)(c:Nat)(h:iE l c)(s:Sp)(d:Int)(m:Nat)(h':Hp)(nx:Nat)(hm:h' m=some (.mp (l.map CE.me) c)):
 bM Tryz.prog 62 [.map m,s.v, .int .i64 d] h' nx fun v h'' _=>h''=h'.set m (.mp ((tX l c s d).1.map CE.me) (tX l c s d).2):=by
 refine aG L.count_add_low fun hd=>?_
 simp only[jL,jM,jA,jB,jN,jO,jP,jQ,V.undef]
 obtain⟨l1,j,c1,he,hj,hjs,hjn,hk1,hb1,hlt1,hcc,hnz1,hcase,hoth⟩:=aBy h s
 have hmn:m<nx:=hd _ _ hm
 have hsf:=Sp.fits_v s
 have ha:tX l c s d=if IntKind.i64.wrap (eR l s+d)=0 then (l1.eraseIdx j,c1) else (l1.set j ⟨s,IntKind.i64.wrap (eR l s+d),(l1.getD j default).b⟩,c1):=by
  unfold tX;rw[he]
 have hgj:l1.getD j default=l1[j]:=by rw[List.getD_eq_getElem?_getD,List.getElem?_eq_getElem hj];rfl
 rw[hgj] at ha
 have hg1:eR l1 s=eR l s:=by rw[←hjn,←hjs];exact gX hk1 (List.getElem_mem _)
 refine aN (aO ?_)
 refine aR rfl (by simp only[hsf,go_sem,reduceIte,jA,jB,jC,jD,reduceCtorEq,jE,jF];try omega) ?_
 simp only[hsf,go_sem,reduceIte,jA,jB,jC,jD,reduceCtorEq,jE,jF]
 refine aB (aN (aFr ?_))
 obtain⟨n,hn⟩:∃n,n=IntKind.i64.wrap (eR l s+d):=⟨_,rfl⟩
 obtain⟨H0,hH0⟩:∃H0,H0=h'.set nx (.arr (.agg 3) [s.v]):=⟨_,rfl⟩
 obtain⟨F,hF⟩:∃F:(Nat→Bool)→List V,∀D,F D=[.map m,s.v, .int .i64 d, .tup [], .ptr nx (.agg 3) 0 0, .tup [],if D 0=true then .map m else .tup [],if D 1=true then s.v else .tup [],if D 2=true then .int .i64 (eR l s) else .tup [],if D 3=true then .int .i64 d else .tup [],if D 4=true then .int .i64 n else .tup [],
  if D 5=true then .tup [.int .i64 (eR l s), .int .i64 l1[j].b] else .tup [],if D 6=true then .int .i64 l1[j].b else .tup [], .tup [], .tup [], .tup [], .tup [], .tup [], .tup []]:=⟨_,fun _=>rfl⟩
 obtain⟨H,hH⟩:∃H:(Nat→Bool)→Hp,∀D,H D=if D 7=true then H0.set m (.mp ((l1.set j ⟨s,n,l1[j].b⟩).map CE.me) c1) else if D 5=true then H0.set m (.mp (l1.map CE.me) c1) else H0:=⟨_,fun _=>rfl⟩
 refine⟨fun D s'=>∃nx',s'=⟨F D,H D,nx'⟩∧nx+1≤nx',⟨nx+1,by simp[hF,hH,hH0],Nat.le_refl _⟩,?_,?_⟩
 ·rintro D i o deps s' hi hDi hdeps hcl ⟨nx',rfl,hnx⟩
  have hne:nx≠m:=by omega
  have hbox:H D nx=some (.arr (.agg 3) [s.v]):=by
   rw[hH,hH0]
   split
   ·simp[Hp.set,hne]
   split<;>simp[Hp.set,hne]
  have h7:D 7=true→D 0=true∧D 1=true∧D 2=true∧D 3=true∧D 4=true∧D 5=true∧D 6=true:=fun h=>by
   have:=hcl 7 _ _ rfl h
   exact⟨this 0 (by decide),this 1 (by decide),this 2 (by decide),this 3 (by decide),this 4 (by decide),this 5 (by decide),this 6 (by decide)⟩
  rcases i with _|_|_|_|_|_|_|_|i
  all_goals first|(injection hi with hi;injection hi with q1 q2;subst q1;subst q2)|skip
  ·simp[bE,LOp.run,bC.sem,aQ.ev,bN,V.undef,hF,hH,hnx]
  ·simp[bE,LOp.run,bC.sem,aQ.ev,bN,V.undef,hF,hbox,bG,(rfl:fI (.agg 3) 0 s.v=s.v),V.fits,hnx]
   simp[hH]
   first|omega|exact hnx|exact⟨_,rfl,hnx⟩|exact⟨_,⟨rfl,rfl⟩,hnx⟩
  ·have d0:=hdeps 0 (by decide)
   have d1:=hdeps 1 (by decide)
   have d7:D 7=false:=by
    cases h:D 7 with
    |false=>rfl
    |true=>have:=(h7 h).2.2.1;rw[this] at hDi;cases hDi
   cases h5:D 5 with
   |true=>
    have hHm:H D m=some (.mp (l1.map CE.me) c1):=by rw[hH,if_neg (by simp[d7]),if_pos h5];simp[Hp.set]
    simp[bE,LOp.run,bC.sem,aQ.ev,bN,V.undef,hF,d0,d1,hsf,hHm,lW,sB,hg1,hnx]
    simp[hH]<;>omega
   |false=>
    have hHm:H D m=some (.mp (l.map CE.me) c):=by rw[hH,if_neg (by simp[d7]),if_neg (by simp[h5]),hH0];simp[Hp.set,Ne.symm hne,hm]
    simp[bE,LOp.run,bC.sem,aQ.ev,bN,V.undef,hF,d0,d1,hsf,hHm,lW,sB,hg1,hnx]
    simp[hH]<;>omega
  ·simp[bE,LOp.run,bC.sem,aQ.ev,bN,V.undef,hF,hH,hnx]
  ·have d2:=hdeps 2 (by decide)
   have d3:=hdeps 3 (by decide)
   simp[bE,LOp.run,bC.sem,aQ.ev,bN,V.undef,hF,d2,d3,aFB,←hn,hnx]
   simp[hH]<;>omega
  ·have d0:=hdeps 0 (by decide)
   have d1:=hdeps 1 (by decide)
   have d7:D 7=false:=by
    cases h:D 7 with
    |false=>rfl
    |true=>have:=(h7 h).2.2.2.2.2.1;rw[this] at hDi;cases hDi
   have hHm:H D m=some (.mp (l.map CE.me) c):=by rw[hH,if_neg (by simp[d7]),if_neg (by simp[hDi]),hH0];simp[Hp.set,Ne.symm hne,hm]
   have hHD:H D=H0:=by rw[hH,if_neg (by simp[d7]),if_neg (by simp[hDi])]
   have hgo:∀R:V→Hp→Prop,R (.tup [.int .i64 (eR l s), .int .i64 l1[j].b]) (H0.set m (.mp (l1.map CE.me) c1))→(MOp.ent (.agg 3) [.int, .int, .int] (.int .i64 0) (.slot 6) (.slot 7)).sem (F D) (H D) nx' R:=by
    intro R hR
    simp only[MOp.sem,aQ.ev,hF,List.getD_cons_succ,List.getD_cons_zero,d0,d1,if_true,hsf,hHm,lW,true_and]
    rw[hHD]
    rcases hcase with⟨e1,rfl,rfl⟩|⟨e1,rfl,rfl,rfl,e0⟩
    ·simp only[e1]
     have hg:(l1.map CE.me).getD j default=CE.me l1[j]:=by rw[List.getD_eq_getElem?_getD,List.getElem?_map,List.getElem?_eq_getElem hj];rfl
     have:=aDS hj
     rw[hjs] at this
     rw[this,hg]
     simp only[CE.me,hjn]
     exact hR
    simp only[e1]
    simp only[e0,List.map_append,List.map_cons,List.map_nil] at hR
    simpa [CE.me] using hR
   show(MOp.ent (.agg 3) [.int, .int, .int] (.int .i64 0) (.slot 6) (.slot 7)).sem (F D) (H D) nx' (fun v h'=>bE Tryz.prog [] _ ⟨bN (F D) (some 11) v,h',nx'+1⟩)
   refine hgo _ ?_
   simp[bE,bN,hF,hH,d7]<;>omega
  ·have d5:=hdeps 5 (by decide)
   simp[bE,LOp.run,bC.sem,aQ.ev,bN,V.undef,hF,d5,hnx]
   simp[hH]<;>omega
  ·have d0:=hdeps 0 (by decide)
   have d4:=hdeps 4 (by decide)
   have d5:=hdeps 5 (by decide)
   have d6:=hdeps 6 (by decide)
   have hHD:H D=H0.set m (.mp (l1.map CE.me) c1):=by rw[hH,if_neg (by simp[hDi]),if_pos d5]
   have hHm:H D m=some (.mp (l1.map CE.me) c1):=by rw[hHD];simp[Hp.set]
   have hgo:∀R:V→Hp→Prop,R V.undef (H0.set m (.mp ((l1.set j ⟨s,n,l1[j].b⟩).map CE.me) c1))→(MOp.est (.slot 6) (.slot 12) (.slot 10)).sem (F D) (H D) nx' R:=by
    intro R hR
    simp only[MOp.sem,aQ.ev,hF,List.getD_cons_succ,List.getD_cons_zero,d0,d4,d6,if_true,hHm]
    refine⟨j,aHW hb1 hj,?_⟩
    rw[hHD,Hp.set_set,aHe hj hjs]
    exact hR
   show(MOp.est (.slot 6) (.slot 12) (.slot 10)).sem (F D) (H D) nx' (fun v h'=>bE Tryz.prog [] _ ⟨bN (F D) none v,h',nx'+1⟩)
   refine hgo _ ?_
   simp[bE,bN,hF,hH]<;>omega
  simp[L.count_add_r1] at hi
 rintro D s' hD ⟨nx',rfl,hnx⟩
 have dd:=fun i (h:i<8)=>hD i h
 have hFD:F D=[.map m,s.v, .int .i64 d, .tup [], .ptr nx (.agg 3) 0 0, .tup [], .map m,s.v, .int .i64 (eR l s), .int .i64 d, .int .i64 n, .tup [.int .i64 (eR l s), .int .i64 l1[j].b], .int .i64 l1[j].b, .tup [], .tup [], .tup [], .tup [], .tup [], .tup []]:=by
  rw[hF];simp[dd 0,dd 1,dd 2,dd 3,dd 4,dd 5,dd 6]
 have hHD:H D=H0.set m (.mp ((l1.set j ⟨s,n,l1[j].b⟩).map CE.me) c1):=by rw[hH,if_pos (dd 7 (by decide))]
 rw[hFD,hHD]
 obtain⟨l2,hl2⟩:∃l2,l2=l1.set j ⟨s,n,l1[j].b⟩:=⟨_,rfl⟩
 rw[←hl2]
 have hj2:j<l2.length:=by rw[hl2];simpa using hj
 have hat:l2[j]=⟨s,n,l1[j].b⟩:=by simp[hl2]
 have hks:l2.map (·.s)=l1.map (·.s):=by
  rw[hl2,List.map_set]
  have:(l1.map (·.s)).set j s=(l1.map (·.s)).set j ((l1.map (·.s))[j]'(by simpa using hj)):=by simp[hjs]
  rw[this,List.set_getElem_self]
 have hk2:(l2.map (·.s)).Nodup:=by rw[hks];exact hk1
 have hg2:eR l2 s=n:=by
  have:=gX hk2 (List.getElem_mem hj2)
  rw[hat] at this
  exact this
 have hf2:l2.findIdx? (fun x=>decide (x.s=s))=some j:=by
  have:=aAe hk2 hj2
  rw[hat] at this
  exact this
 have hne:¬nx=m:=by omega
 have hne':¬m=nx:=by omega
 have hb2:(H0.set m (.mp (l2.map CE.me) c1)) nx=some (.arr (.agg 3) [s.v]):=by rw[hH0];simp[Hp.set,hne]
 have hm2:(H0.set m (.mp (l2.map CE.me) c1)) m=some (.mp (l2.map CE.me) c1):=by simp[Hp.set]
 have hle:∀X:Blk,(h'.set m X).le (H0.set m X):=fun X=>by
  rw[hH0,Hp.set_comm _ hne]
  exact iR (Hp.le_refl _) (by simp only[Hp.set];rw[if_neg hne];exact aT.none hd (Nat.le_refl _)) _
 have hset:∀X,(H0.set m (.mp (l2.map CE.me) c1)).set m X=H0.set m X:=fun X=>Hp.set_set _ _ _ _
 have h2le:=hle (.mp (l2.map CE.me) c1)
 generalize H0.set m (.mp (l2.map CE.me) c1)=h2 at hb2 hm2 hset h2le⊢
 show yY _ _ eZ.normal _
 refine aB ?_
 by_cases h0:n=0
 ·rw[if_pos (by rw[←hn];exact h0)] at ha
  have hc0:(n==0)=true:=by simp[h0]
  rw[ha]
  have her:(l2.map CE.me).eraseIdx j=(l1.eraseIdx j).map CE.me:=by
   rw[hl2]
   apply List.ext_getElem
   ·simp[List.length_eraseIdx]
   intro i h1 h2
   simp only[List.getElem_eraseIdx,List.getElem_set,List.getElem_map]
   split
   ·rw[if_neg (by omega)]
   rw[if_neg (by omega)]
  (repeat' (first|(with_reducible first|refine stp ?_|refine uP (by decide) ?_|refine uQ (fun _=>?_) (fun _=>?_))|((first|(with_reducible refine uA ?_;first|refine uB rfl ?_ ?_|(first|refine uC rfl ?_|refine uD rfl ?_)|refine uE rfl ?_)|(with_reducible refine uF ?_;first|refine uG rfl ?_ ?_|(first|refine uH rfl ?_|refine uI rfl ?_)|refine uJ rfl ?_|refine uK (uL ?_)|refine uK (uM ?_))|(with_reducible refine uN ?_;refine uO rfl ?_))<;>try simp only[hb2,hm2,lW,sB,hg2,hc0,hsf,go_sem,reduceIte,jA,jB,jC,jD,reduceCtorEq,jE,jF])|(with_reducible refine uR ?_;refine uS rfl ?_)|omega))
  refine aGs hsf rfl hm2 (by rw[show aQ.ev _ _=s.v from rfl,lW,hf2]) ?_
  rw[her,hset]
  (repeat' (first|(with_reducible first|refine stp ?_|refine uP (by decide) ?_|refine uQ (fun _=>?_) (fun _=>?_))|((first|(with_reducible refine uA ?_;first|refine uB rfl ?_ ?_|(first|refine uC rfl ?_|refine uD rfl ?_)|refine uE rfl ?_)|(with_reducible refine uF ?_;first|refine uG rfl ?_ ?_|(first|refine uH rfl ?_|refine uI rfl ?_)|refine uJ rfl ?_|refine uK (uL ?_)|refine uK (uM ?_))|(with_reducible refine uN ?_;refine uO rfl ?_))<;>try simp only[ go_sem,reduceIte,jA,jB,jC,jD,reduceCtorEq,jE,jF])|(with_reducible refine uR ?_;refine uS rfl ?_)|omega))
  exact⟨_,hle _,rfl⟩
 rw[if_neg (by rw[←hn];exact h0),←hn,←hl2] at ha
 have hc0:(n==0)=false:=by simp[h0]
 rw[ha]
 (repeat' (first|(with_reducible first|refine stp ?_|refine uP (by decide) ?_|refine uQ (fun _=>?_) (fun _=>?_))|((first|(with_reducible refine uA ?_;first|refine uB rfl ?_ ?_|(first|refine uC rfl ?_|refine uD rfl ?_)|refine uE rfl ?_)|(with_reducible refine uF ?_;first|refine uG rfl ?_ ?_|(first|refine uH rfl ?_|refine uI rfl ?_)|refine uJ rfl ?_|refine uK (uL ?_)|refine uK (uM ?_))|(with_reducible refine uN ?_;refine uO rfl ?_))<;>try simp only[hb2,hm2,lW,sB,hg2,hc0,hsf,go_sem,reduceIte,jA,jB,jC,jD,reduceCtorEq,jE,jF])|(with_reducible refine uR ?_;refine uS rfl ?_)|omega))
 exact⟨_,h2le,rfl⟩
end Go.Proofs.YthikfnmcjipobaaGreat
/-
Counts:what adding comes to. Plain laws. No conditions.
-/
namespace Go.Proofs.YthikfnmcjipobaaGreat
set_option linter.unusedSimpArgs false
set_option linter.unusedVariables false
set_option linter.unusedSectionVars false
open Go.RowKit
theorem aBp{α:Type}{l:List α}{j:Nat}{x:α}:x∈l.eraseIdx j↔∃(i:Nat) (h:i<l.length),i≠j∧l[i]=x:=by
 rw[List.mem_eraseIdx_iff_getElem]
theorem aGv{l:List CE}(hk:(l.map (·.s)).Nodup){i j:Nat}(hi:i<l.length)(hj:j<l.length)(h:l[i].s=l[j].s):i=j:=by
 have h1:=aAe hk hi
 have h2:=aAe hk hj
 rw[h,h2] at h1
 injection h1 with h1
 exact h1.symm
theorem aHB{l:List CE}{c:Nat}(h:iE l c)(s:Sp)(d:Int):
 iE (tX l c s d).1 (tX l c s d).2∧(∀t,eR (tX l c s d).1 t=if t=s then IntKind.i64.wrap (eR l s+d) else eR l t)∧(tX l c s d).1.length≤l.length+1:=by
 obtain⟨l1,j,c1,he,hj,hjs,hjn,hk1,hb1,hlt1,hcc,hnz1,hcase,hoth⟩:=aBy h s
 have hgj:l1.getD j default=l1[j]:=by rw[List.getD_eq_getElem?_getD,List.getElem?_eq_getElem hj];rfl
 have hlen:l1.length≤l.length+1:=by
  rcases hcase with⟨_,rfl,_⟩|⟨_,rfl,_⟩
  ·omega
  simp
 have ha:tX l c s d=if IntKind.i64.wrap (eR l s+d)=0 then (l1.eraseIdx j,c1) else (l1.set j ⟨s,IntKind.i64.wrap (eR l s+d),l1[j].b⟩,c1):=by
  unfold tX;rw[he];simp only[hgj]
 generalize IntKind.i64.wrap (eR l s+d)=n at ha⊢
 by_cases h0:n=0
 ·rw[if_pos h0] at ha
  rw[ha]
  have hmem:∀{x},x∈l1.eraseIdx j→x∈l1∧x.s≠s:=by
   intro x hx
   obtain⟨i,hi,hne,rfl⟩:=aBp.1 hx
   refine⟨List.getElem_mem _,fun e=>hne (aGv hk1 hi hj (e.trans hjs.symm))⟩
  have hsub:((l1.eraseIdx j).map (·.s)).Nodup:=(List.Sublist.map _ (List.eraseIdx_sublist _ _)).nodup hk1
  refine⟨⟨hsub,(List.Sublist.map _ (List.eraseIdx_sublist _ _)).nodup hb1,fun x hx=>hlt1 x (hmem hx).1,fun x hx=>(hnz1 x (hmem hx).1).resolve_right (hmem hx).2⟩,fun t=>?_,?_⟩
  ·split
   ·rename_i e
    subst e
    rw[iT (fun x hx=>(hmem hx).2),h0]
   rename_i e
   rw[←hoth t e]
   by_cases hex:∃x∈l1,x.s=t
   ·obtain⟨x,hx,rfl⟩:=hex
    have hx':x∈l1.eraseIdx j:=by
     obtain⟨i,hi,rfl⟩:=List.mem_iff_getElem.1 hx
     exact aBp.2 ⟨i,hi,fun e2=>e (by subst e2;exact hjs),rfl⟩
    rw[gX hsub hx',gX hk1 hx]
   rw[iT (fun x hx e2=>hex ⟨x,(hmem hx).1,e2⟩),iT (fun x hx e2=>hex ⟨x,hx,e2⟩)]
  have:=List.length_eraseIdx_le l1 j
  show(l1.eraseIdx j).length≤_
  omega
 rw[if_neg h0] at ha
 rw[ha]
 obtain⟨l2,hl2⟩:∃l2,l2=l1.set j ⟨s,n,l1[j].b⟩:=⟨_,rfl⟩
 rw[←hl2]
 have hj2:j<l2.length:=by rw[hl2];simpa using hj
 have hat:l2[j]=⟨s,n,l1[j].b⟩:=by simp[hl2]
 have hks:l2.map (·.s)=l1.map (·.s):=by
  rw[hl2,List.map_set]
  have:(l1.map (·.s)).set j s=(l1.map (·.s)).set j ((l1.map (·.s))[j]'(by simpa using hj)):=by simp[hjs]
  rw[this,List.set_getElem_self]
 have hbs:l2.map (·.b)=l1.map (·.b):=by
  rw[hl2,List.map_set]
  have:(l1.map (·.b)).set j l1[j].b=(l1.map (·.b)).set j ((l1.map (·.b))[j]'(by simpa using hj)):=by simp
  rw[this,List.set_getElem_self]
 have hk2:(l2.map (·.s)).Nodup:=by rw[hks];exact hk1
 have hmem:∀{x},x∈l2→x=⟨s,n,l1[j].b⟩∨(x∈l1∧x.s≠s):=by
  intro x hx
  obtain⟨i,hi,rfl⟩:=List.mem_iff_getElem.1 hx
  have hi1:i<l1.length:=by rw[hl2] at hi;simpa using hi
  by_cases e:i=j
  ·subst e;exact .inl hat
  right
  have:l2[i]=l1[i]:=by simp[hl2,List.getElem_set,Ne.symm e]
  rw[this]
  exact⟨List.getElem_mem _,fun e2=>e (aGv hk1 hi1 hj (e2.trans hjs.symm))⟩
 refine⟨⟨hk2,by rw[hbs];exact hb1,fun x hx=>?_,fun x hx=>?_⟩,fun t=>?_,?_⟩
 ·rcases hmem hx with rfl|hx
  ·exact hlt1 l1[j] (List.getElem_mem _)
  exact hlt1 x hx.1
 ·rcases hmem hx with rfl|hx
  ·exact h0
  exact(hnz1 x hx.1).resolve_right hx.2
 ·split
  ·rename_i e
   subst e
   have:=gX hk2 (List.getElem_mem hj2)
   rw[hat] at this
   exact this
  rename_i e
  rw[←hoth t e]
  by_cases hex:∃x∈l1,x.s=t
  ·obtain⟨x,hx,rfl⟩:=hex
   have hx':x∈l2:=by
    obtain⟨i,hi,rfl⟩:=List.mem_iff_getElem.1 hx
    have hne:i≠j:=fun e2=>e (by subst e2;exact hjs)
    have:l2[i]'(by rw[hl2];simpa using hi)=l1[i]:=by simp[hl2,List.getElem_set,Ne.symm hne]
    rw[←this];exact List.getElem_mem _
   rw[gX hk2 hx',gX hk1 hx]
  refine(iT fun x hx e2=>?_).trans (iT fun x hx e2=>hex ⟨x,hx,e2⟩).symm
  rcases hmem hx with rfl|hx
  ·exact e e2.symm
  exact hex ⟨x,hx.1,e2⟩
 show l2.length≤_
 rw[hl2,List.length_set];exact hlen
def gR:List CE→Nat→List Cg→List CE×Nat
 |l,c,[]=>(l,c)
 |l,c,x::r=>gR (tX l c x.s x.d).1 (tX l c x.s x.d).2 r
theorem rU(x:Cg):∀(r:List Cg) (l:List CE) (c:Nat),gR l c (r++[x])=tX (gR l c r).1 (gR l c r).2 x.s x.d
 | [],_,_=>rfl
 |y::r,l,c=>rU x r _ _
def yE(f:Sp→Int)(l:List Cg)(s:Sp):Int:=l.foldl (fun n x=>if x.s=s then IntKind.i64.wrap (n+x.d) else n) (f s)
theorem nQ:∀(r:List Cg) {l:List CE} {c:Nat},iE l c→iE (gR l c r).1 (gR l c r).2∧(∀t,eR (gR l c r).1 t=yE (eR l) r t)∧(gR l c r).1.length≤l.length+r.length
 | [],l,c,h=>⟨h,fun _=>rfl,by simp[gR]⟩
 |x::r,l,c,h=>by
  obtain⟨h1,h2,h3⟩:=aHB h x.s x.d
  obtain⟨q1,q2,q3⟩:=nQ r h1
  refine⟨q1,fun t=>?_,?_⟩
  ·rw[gR,q2 t]
   unfold yE
   rw[List.foldl_cons,h2 t]
   congr 1
   by_cases e:x.s=t
   ·subst e;simp
   rw[if_neg e,if_neg (fun e2=>e e2.symm)]
  rw[gR,List.length_cons]
  omega
end Go.Proofs.YthikfnmcjipobaaGreat
/-
Counts:contracts of package count's small functions and of the document's. No conditions.
-/
namespace Go.Proofs.YthikfnmcjipobaaGreat
open Go.Proofs.YthikfnmcjipobaaGreat renaming iW→uA,gV→uB,fA→uC,fB→uD,dO→uE,iZ→uF,fQ→uG,fC→uH,fD→uI,dP→uJ,fZ→uK,fP→uL,gZ→uM,jS→uN,gB→uO,bT→uP,kK→uQ,iY→uR,gE→uS
open Nat renaming reduceAdd→jA,reduceSub→jB,reduceLT→jC,reduceLeDiff→jD,reduceEqDiff→jE
open Int renaming reduceToNat→jF,toNat_natCast→jG,natCast_add→jH,natCast_one→jI,natCast_zero→jJ
open List renaming length_map→jK,length_cons→jL,length_nil→jM,replicate_succ→jN,replicate_zero→jO,cons_append→jP,nil_append→jQ
set_option linter.unusedSimpArgs false
set_option linter.unusedVariables false
set_option linter.unusedSectionVars false
open Go.RowKit
attribute [local irreducible] IntKind.wrap
attribute [local go_sem] Option.some.injEq Prod.mk.injEq false_and and_false Bool.true_eq_false mP jR jX gG iV if_true Bool.true_and mF dS iH gL dQ aA.ok aA.next LOp.ok LOp.next bC.ok bC.out aQ.ev bN iI cH bO cO V.undef Sh.size gH fW cK aA.dok aA.dres LOp.dok LOp.dout lI iD gI eX List.take_succ_cons List.take_zero List.take_nil List.drop_succ_cons List.drop_zero List.drop_nil List.set_cons_succ List.set_cons_zero List.getD_cons_succ List.getD_cons_zero jL jM List.map_cons List.map_nil List.all_cons List.all_nil List.mem_cons List.not_mem_nil jN jO jP jQ List.append_nil List.isEmpty_cons List.isEmpty_nil dW fJ hM Option.getD_some Option.isSome_some Option.isSome_none Nat.add_eq Nat.zero_add Nat.add_zero true_and and_true and_self true_implies implies_true false_implies forall_const forall_eq forall_eq_or_imp ne_eq not_false_eq_true not_true_eq_false Bool.not_true Bool.not_false decide_true decide_false Bool.and_true Bool.true_and Bool.and_false Bool.false_and true_or or_true false_or or_false eq_self Bool.false_eq_true mK iO gC aD fH eT eB dU cL dT aZ aX dN jG Int.toNat_zero List.take_length Hp.set_app Hp.del_app gW fV aA.plain LOp.isCall aA.dplain LOp.isStop eM kT gY lY fN V.gd_true V.gd_false fM eK eL fL bG aY aU fK eS beq_true beq_false dD dE dF cB cC bH bI cP eQ cE dK dH bJ dI dL eN eO bK dJ bF cD eP bP dG bQ bB gQ gO gP gN dM cG dX cR eG eF eE eD eC bX bW cZ cY cX cA bZ bY eJ eI eH dC dB dA cQ cF bS kM Hp.turn fT Option.isNone_some Option.isNone_none oL gF fO aA.plain2 LOp.isApp oM lP lQ iQ fS fR
theorem Sp.names_v(s:Sp)(L:Nat→Prop):s.v.names L:=by simp[Sp.v,V.names,dY]
theorem Cg.names_v(L:Nat→Prop)(s:Cg):s.v.names L:=by simp[Cg.v,V.names,dY]
def cgs(o:Own)(l:List Cg):V:= .sl (.agg 4) o (l.map Cg.v)
theorem vW(n:Int)(h:Hp):cM Tryz.prog 76 [.int .i64 n] h (.bool (decide (-1000000≤n)&&decide (n≤1000000))):=by
 refine bL (fun L=>trivial) fun h' nx hh=>aG L.count_within_low fun hd=>?_
 simp only[jL,jM,jA,jB,jN,jO,jP,jQ,V.undef]
 by_cases h0:-1000000≤n
 all_goals
  have hc:=decide_eq_true h0
  (repeat' (first|(with_reducible first|refine stp ?_|refine uP (by decide) ?_|refine uQ (fun _=>?_) (fun _=>?_))|((first|(with_reducible refine uA ?_;first|refine uB rfl ?_ ?_|(first|refine uC rfl ?_|refine uD rfl ?_)|refine uE rfl ?_)|(with_reducible refine uF ?_;first|refine uG rfl ?_ ?_|(first|refine uH rfl ?_|refine uI rfl ?_)|refine uJ rfl ?_|refine uK (uL ?_)|refine uK (uM ?_))|(with_reducible refine uN ?_;refine uO rfl ?_))<;>try simp only[hc,go_sem,reduceIte,jA,jB,jC,jD,reduceCtorEq,jE,jF])|(with_reducible refine uR ?_;refine uS rfl ?_)|omega))
  all_goals refine aM h' (by repeat (first|exact Hp.le_refl _|refine aW hd ?_ (by omega) _|refine bD hd ?_ (by omega))) ⟨?_,rfl⟩
  all_goals ((try simp_all [hc])<;>(try omega))
theorem aEv(a b:Sp):cM Tryz.prog 17 [a.v,b.v] Hp.none (.int .i64 (pO a b)):=by
 refine bL (fun L=>trivial) fun h' nx hh=>aG L.count_Compare_low fun hd=>?_
 simp only[jL,jM,jA,jB,jN,jO,jP,jQ,V.undef]
 (repeat' (first|(with_reducible first|refine stp ?_|refine uP (by decide) ?_|refine uQ (fun _=>?_) (fun _=>?_))|((first|(with_reducible refine uA ?_;first|refine uB rfl ?_ ?_|(first|refine uC rfl ?_|refine uD rfl ?_)|refine uE rfl ?_)|(with_reducible refine uF ?_;first|refine uG rfl ?_ ?_|refine cT (qJ qA yG a.p b.p Hp.none) rfl (dR _) ?_|refine cT (aBD a.t b.t) rfl (dR _) ?_|refine cT (wL wO _ [mV a.p b.p,oN a.t b.t] (by simp) Hp.none) rfl (dR _) ?_|(first|refine uH rfl ?_|refine uI rfl ?_)|refine uJ rfl ?_|refine uK (uL ?_)|refine uK (uM ?_))|(with_reducible refine uN ?_;refine uO rfl ?_))<;>try simp only[Sp.v,go_sem,reduceIte,jA,jB,jC,jD,reduceCtorEq,jE,jF])|(with_reducible refine uR ?_;refine uS rfl ?_)|omega))
 exact aM h' (by repeat (first|exact Hp.le_refl _|refine aW hd ?_ (by omega) _|refine bD hd ?_ (by omega))) ⟨rfl,rfl⟩
theorem lN{α:Type}(f:α→V)(d:V)(l:List α)(i:Nat)(h:i<l.length):(l.map f).getD i d=f l[i]:=by
 rw[List.getD_eq_getElem?_getD,List.getElem?_map,List.getElem?_eq_getElem h];rfl
def aIt(l:List Cg)(s:Sp):Int:=((l.find? fun x=>decide (x.s=s)).map (·.d)).getD 0
/-
Counts:lists of changes:law23's Changes,the document's Same. No conditions.
-/
/-
Counts:a map's keys in order;count.Sum. No conditions.
-/
theorem vM:aH Tryz.prog 63=some (LB.SortedFunc (.agg 3) 116 117):=by kernel_rfl
theorem zP:aH Tryz.prog 116=some (LB.Collect (.agg 3) 146):=by kernel_rfl
theorem wR:aH Tryz.prog 146=some (LB.AppendSeq (.agg 3) (.agg [.int .i64 0, .int .i64 0, .int .i64 0]) 24):=by kernel_rfl
theorem xN:aH Tryz.prog 64=some (LB.Keys 118):=by kernel_rfl
theorem aBV:aH Tryz.prog 118=some (LB.Keys1 (.agg 3) (.agg [.int .i64 0, .int .i64 0, .int .i64 0])):=by kernel_rfl
noncomputable def nI(l:List CE):List Sp:=gD pO (l.map (·.s))
def aBv(m cp:Nat)(l:List CE)(c:Nat):Hp:=(Hp.none.set m (.mp (l.map CE.me) c)).set cp (.arr .leaf [.map m])
theorem aBu{m cp:Nat}{l:List CE}{c:Nat}{h:Hp}(h1:h m=some (.mp (l.map CE.me) c))(h2:h cp=some (.arr .leaf [.map m])):(aBv m cp l c).has h:=by
 intro n b hb _
 unfold aBv at hb
 simp only[Hp.set] at hb
 split at hb
 ·rename_i e;rw[e,←hb];exact h2
 split at hb
 ·rename_i e;rw[e,←hb];exact h1
 cases hb
theorem aBi(l:List CE)(c:Nat)(hok:iE l c)(hl:l.length≤1000000)(m cp:Nat)(hne:m≠cp):
 cM Tryz.prog 63 [.fn (.func 118) [] [.ptr cp .leaf 0 0], .fn (.func 17) [] []] (aBv m cp l c) (lst (.agg 3) ((nI l).map Sp.v)):=by
 have hlk:(l.map (·.s)).length=l.length:=by simp
 exact wK Sp.v aHN Sp.fits_v (fun x L=>x.names_v L) (by intro w;exact Tryz.isAgg26 w) (by intro w;exact Tryz.sizeOf26 w) (by kernel_rfl) vM zP wR rfl (by omega) rfl _ _ _ (l.map (·.s)) _
  (aEg aBV rfl CE.me (·.s) Sp.v Sp.fits_v (fun _=>rfl) l hok.num c hok.lt m cp (aBv m cp l c) (by simp[aBv,Hp.set]) (by simp[aBv,Hp.set,hne]))
  (fun xs x h=>by have:=h.2;omega) (by omega) pO aAZ aFb _ [] (fun x y=>by simpa using aEv x y)
noncomputable def iF(l:List CE):List Cg:=(nI l).map fun s=>⟨s,eR l s⟩
theorem pI(l:List CE):(nI l).length=l.length:=by
 unfold nI
 rw[(gJ pO (l.map (·.s))).length_eq,jK]
theorem aGO(l:List Cg):iF (gR [] 0 l).1=aFd l:=by
 obtain⟨h1,h2,_⟩:=nQ l (mU 0)
 refine xU (f:=tot l) ?_ (aCw l)
 have h:=yW h1
 have e:eR (gR [] 0 l).1=tot l:=funext fun t=>h2 t
 rw[e] at h
 unfold iF nI
 rw[e]
 exact h
set_option maxRecDepth 100000 in
theorem aFP(o:Own)(l:List Cg)(hl:l.length≤100000)(h:Hp):cM Tryz.prog 15 [cgs o l] h (lst (.agg 4) ((aFd l).map Cg.v)):=by
 rw[←aGO]
 refine iG (fun L=>iJ (fun L=>eV (Cg.names_v L) _) L) fun h' nx hh=>aG L.count_Sum_low fun hd=>?_
 simp only[jL,jM,jA,jB,jN,jO,jP,jQ,V.undef]
 (repeat' (first|(with_reducible first|refine stp ?_|refine uP (by decide) ?_|refine uQ (fun _=>?_) (fun _=>?_))|((first|(with_reducible refine uA ?_;first|refine uB rfl ?_ ?_|(first|refine uC rfl ?_|refine uD rfl ?_)|refine uE rfl ?_)|(with_reducible refine uF ?_;first|refine uG rfl ?_ ?_|(first|refine uH rfl ?_|refine uI rfl ?_)|refine uJ rfl ?_|refine uK (uL ?_)|refine uK (uM ?_))|(with_reducible refine uN ?_;refine uO rfl ?_))<;>try simp only[cgs,jK,go_sem,reduceIte,jA,jB,jC,jD,reduceCtorEq,jE,jF])|(with_reducible refine uR ?_;refine uS rfl ?_)|omega))
 refine aHn ?_
 (repeat' (first|(with_reducible first|refine stp ?_|refine uP (by decide) ?_|refine uQ (fun _=>?_) (fun _=>?_))|((first|(with_reducible refine uA ?_;first|refine uB rfl ?_ ?_|(first|refine uC rfl ?_|refine uD rfl ?_)|refine uE rfl ?_)|(with_reducible refine uF ?_;first|refine uG rfl ?_ ?_|(first|refine uH rfl ?_|refine uI rfl ?_)|refine uJ rfl ?_|refine uK (uL ?_)|refine uK (uM ?_))|(with_reducible refine uN ?_;refine uO rfl ?_))<;>try simp only[cgs,jK,go_sem,reduceIte,jA,jB,jC,jD,reduceCtorEq,jE,jF])|(with_reducible refine uR ?_;refine uS rfl ?_)|omega))
 obtain⟨A,hA⟩:∃A:Nat→List CE×Nat,∀i,A i=gR [] 0 (l.take i):=⟨_,fun _=>rfl⟩
 refine cI (fun i:Nat=>aD 41 0 [(3, .map nx),(10,cgs o l),(11, .int .i64 l.length),(12, .int .i64 i)])
  (fun i hp nx1=>i≤l.length∧nx+1≤nx1∧aT hp nx1∧Hp.same nx h' hp∧hp nx=some (.mp ((A i).1.map CE.me) (A i).2))
  (fun i=>l.length-i) 0 ⟨Nat.zero_le _,by simp,(by(try dsimp only);repeat (first|exact aT.up hd (by omega)|refine aT.set2 ?_ (by omega) _|refine aT.del ?_|refine aT.delO ?_ _)),(by(try dsimp only);repeat (first|exact Hp.same.rfl'|refine bV ?_ (by omega) _|refine cN ?_ (by omega))),?_⟩ ?_ ?_
 ·rw[hA];simp[Hp.set,gR]
 ·simp only[WkL,aD,jH,jI,jJ,cgs,go_sem,reduceIte,jA,jB,jC,jD,reduceCtorEq,jE,jF]
 rintro i hp nx1 ⟨hi,hnx,hdm,hsm,hmp⟩
 generalize hQ:fF _ _ _ _ _=Q0
 simp only[aD,cgs,go_sem,reduceIte,jA,jB,jC,jD,reduceCtorEq,jE,jF]
 have hok:=(nQ (l.take i) (mU 0))
 rw[←hA] at hok
 rcases Nat.lt_or_ge i l.length with hlt|hge
 ·have hc:decide ((i:Int)<(l.length:Int))=true:=decide_eq_true (by omega)
  have hg:(l.map Cg.v).getD i (.tup [])= .agg [.int .i64 l[i].s.p, .int .i64 l[i].s.t.e, .int .i64 l[i].s.t.r, .int .i64 l[i].d]:=lN Cg.v _ l i hlt
  have hw:IntKind.i64.wrap ((i:Int)+1)=((i+1:Nat):Int):=by rw[cS]<;>omega
  (repeat' (first|(with_reducible first|refine stp ?_|refine uP (by decide) ?_|refine uQ (fun _=>?_) (fun _=>?_))|((first|(with_reducible refine uA ?_;first|refine uB rfl ?_ ?_|(first|refine uC rfl ?_|refine uD rfl ?_)|refine uE rfl ?_)|(with_reducible refine uF ?_;first|refine uG rfl ?_ ?_|(first|refine uH rfl ?_|refine uI rfl ?_)|refine uJ rfl ?_|refine uK (uL ?_)|refine uK (uM ?_))|(with_reducible refine uN ?_;refine uO rfl ?_))<;>try simp only[hc,hg,hlt,hw,jK,jG,go_sem,reduceIte,jA,jB,jC,jD,reduceCtorEq,jE,jF])|(with_reducible refine uR ?_;refine uS rfl ?_)|omega))
  refine bU ((aDG (A i).1 (A i).2 hok.1 l[i].s l[i].d nx _ _ ?_).dom.mono ?_)
  ·simp only[Hp.set_app];rw[if_neg (by omega),if_neg (by omega)];exact hmp
  rintro v h3 nx3 hnx3 ⟨rfl,hdm3,_⟩
  unfold gM
  simp only[go_sem,reduceIte,jA,jB,jC,jD,reduceCtorEq,jE,jF]
  (repeat' (first|(with_reducible first|refine stp ?_|refine uP (by decide) ?_|refine uQ (fun _=>?_) (fun _=>?_))|((first|(with_reducible refine uA ?_;first|refine uB rfl ?_ ?_|(first|refine uC rfl ?_|refine uD rfl ?_)|refine uE rfl ?_)|(with_reducible refine uF ?_;first|refine uG rfl ?_ ?_|(first|refine uH rfl ?_|refine uI rfl ?_)|refine uJ rfl ?_|refine uK (uL ?_)|refine uK (uM ?_))|(with_reducible refine uN ?_;refine uO rfl ?_))<;>try simp only[hw,go_sem,reduceIte,jA,jB,jC,jD,reduceCtorEq,jE,jF])|(with_reducible refine uR ?_;refine uS rfl ?_)|omega))
  rw[←hQ]
  refine aL (i+1) (by omega) ⟨hlt,by dsimp only at hnx3⊢;omega,hdm3,?_,?_⟩ ?_
  ·refine fun m hm=>?_
   simp only[Hp.set_app]
   rw[if_neg (by omega),if_neg (by omega),if_neg (by omega)]
   exact hsm m hm
  ·have e:A (i+1)=tX (A i).1 (A i).2 l[i].s l[i].d:=by
    rw[hA,hA,List.take_succ_eq_append_getElem hlt,rU]
   rw[e]
   simp only[Hp.set_app,if_true,reduceIte]
  simp only[WkL,aD,jH,jI,jJ,cgs,go_sem,reduceIte,jA,jB,jC,jD,reduceCtorEq,jE,jF]
 have hc:decide ((i:Int)<(l.length:Int))=false:=decide_eq_false (by omega)
 have hil:l.take i=l:=List.take_of_length_le (by omega)
 rw[hil] at hok
 have hAl:A i=gR [] 0 l:=by rw[hA,hil]
 rw[hAl] at hmp hok
 obtain⟨hok1,_,hlen1⟩:=hok
 generalize hL:(gR [] 0 l).1=L at*
 generalize (gR [] 0 l).2=c at*
 have hsm1:Hp.same (nx+1) (h'.set nx (.mp (L.map CE.me) c)) hp:=fun m hm=>by
  simp only[Hp.set_app]
  split
  ·rename_i e;rw[e];exact hmp
  exact hsm m (by omega)
 (repeat' (first|(with_reducible first|refine stp ?_|refine uP (by decide) ?_|refine uQ (fun _=>?_) (fun _=>?_))|((first|(with_reducible refine uA ?_;first|refine uB rfl ?_ ?_|(first|refine uC rfl ?_|refine uD rfl ?_)|refine uE rfl ?_)|(with_reducible refine uF ?_;first|refine uG rfl ?_ ?_|(first|refine uH rfl ?_|refine uI rfl ?_)|refine uJ rfl ?_|refine uK (uL ?_)|refine uK (uM ?_))|(with_reducible refine uN ?_;refine uO rfl ?_))<;>try simp only[hc,go_sem,reduceIte,jA,jB,jC,jD,reduceCtorEq,jE,jF])|(with_reducible refine uR ?_;refine uS rfl ?_)|omega))
 rw[←hQ]
 (repeat' (first|(with_reducible first|refine stp ?_|refine uP (by decide) ?_|refine uQ (fun _=>?_) (fun _=>?_))|((first|(with_reducible refine uA ?_;first|refine uB rfl ?_ ?_|(first|refine uC rfl ?_|refine uD rfl ?_)|refine uE rfl ?_)|(with_reducible refine uF ?_;first|refine uG rfl ?_ ?_|(first|refine uH rfl ?_|refine uI rfl ?_)|refine uJ rfl ?_|refine uK (uL ?_)|refine uK (uM ?_))|(with_reducible refine uN ?_;refine uO rfl ?_))<;>try simp only[ go_sem,reduceIte,jA,jB,jC,jD,reduceCtorEq,jE,jF])|(with_reducible refine uR ?_;refine uS rfl ?_)|omega))
 refine bU ((aBs xN nx _ _).mono ?_)
 rintro v h3 nx3 hnx3 ⟨rfl,rfl,hn3⟩
 unfold gM
 simp only[go_sem,reduceIte,jA,jB,jC,jD,reduceCtorEq,jE,jF]
 dsimp only at hn3
 have hk:=aBi L c hok1 (by simp at hlen1;omega) nx nx1 (by omega)
 obtain⟨o2,ho2⟩:=mN (.agg 3) ((nI L).map Sp.v)
 rw[ho2] at hk
 refine aJ hk rfl (aBu ?_ ?_) ?_
 ·simp only[Hp.set_app];rw[if_neg (by omega)];exact hmp
 ·simp only[Hp.set_app,reduceIte]
 have hkl:(nI L).length≤100000:=by rw[pI];simp at hlen1;omega
 obtain⟨ks,hks⟩:∃ks,ks=nI L:=⟨_,rfl⟩
 have hch:iF L=ks.map fun s=>⟨s,eR L s⟩:=by rw[hks];rfl
 have hcl:(iF L).length=ks.length:=by rw[hch];simp
 rw[←hks] at hkl⊢
 (repeat' (first|(with_reducible first|refine stp ?_|refine uP (by decide) ?_|refine uQ (fun _=>?_) (fun _=>?_))|((first|(with_reducible refine uA ?_;first|refine uB rfl ?_ ?_|(first|refine uC rfl ?_|refine uD rfl ?_)|refine uE rfl ?_)|(with_reducible refine uF ?_;first|refine uG rfl ?_ ?_|(first|refine uH rfl ?_|refine uI rfl ?_)|refine uJ rfl ?_|refine uK (uL ?_)|refine uK (uM ?_))|(with_reducible refine uN ?_;refine uO rfl ?_))<;>try simp only[jK,go_sem,reduceIte,jA,jB,jC,jD,reduceCtorEq,jE,jF])|(with_reducible refine uR ?_;refine uS rfl ?_)|omega))
 refine cI (fun q:Nat×Own=>aD 41 0 [(3, .map nx),(6,cgs q.2 ((iF L).take q.1)),(25, .sl (.agg 3) o2 (ks.map Sp.v)),(26, .int .i64 ks.length),(27, .int .i64 q.1)])
  (fun q hp nx1=>q.1≤ks.length∧nx+1≤nx1∧aT hp nx1∧Hp.same (nx+1) (h'.set nx (.mp (L.map CE.me) c)) hp∧Acc hp (nx+1) q.2 (((iF L).take q.1).map Cg.v))
  (fun q=>ks.length-q.1) (0, .nil) ⟨Nat.zero_le _,by dsimp only;omega,?_,(by(try dsimp only);repeat (first|exact hsm1|refine bV ?_ (by omega) _|refine cN ?_ (by omega))),Acc.nil⟩ ?_ ?_
 ·exact aT.set hdm (by dsimp only;omega) (by dsimp only;omega) _
 ·simp only[WkL,aD,jH,jI,jJ,cgs,List.take_zero,List.map_nil,go_sem,reduceIte,jA,jB,jC,jD,reduceCtorEq,jE,jF]
 rintro⟨j,oo⟩ hp2 nx2 ⟨hj,hnx2,hdm2,hsm2,hacc⟩
 clear hQ Q0
 generalize hQ:fF _ _ _ _ _=Q0
 dsimp only at hj hacc
 simp only[aD,cgs,go_sem,reduceIte,jA,jB,jC,jD,reduceCtorEq,jE,jF]
 have hmp2:hp2 nx=some (.mp (L.map CE.me) c):=by rw[hsm2 nx (by omega)];simp only[go_sem,reduceIte,jA,jB,jC,jD,reduceCtorEq,jE,jF]
 have hlt0:nx<nx2:=by omega
 rcases Nat.lt_or_ge j ks.length with hlt|hge
 ·have hc:decide ((j:Int)<(ks.length:Int))=true:=decide_eq_true (by omega)
  have hg:(ks.map Sp.v).getD j (.tup [])= .agg [.int .i64 ks[j].p, .int .i64 ks[j].t.e, .int .i64 ks[j].t.r]:=lN Sp.v _ ks j hlt
  have hw:IntKind.i64.wrap ((j:Int)+1)=((j+1:Nat):Int):=by rw[cS]<;>omega
  have hmf:lG (.plain (.agg 3) [.int, .int, .int]) (.agg [.int .i64 ks[j].p, .int .i64 ks[j].t.e, .int .i64 ks[j].t.r]) (L.map CE.me)=some (L.findIdx? fun x=>decide (x.s=ks[j])):=lW ks[j] L
  have hmg:=sB L ks[j]
  have htk:((iF L).take (j+1)).map Cg.v=((iF L).take j).map Cg.v++[.agg [.int .i64 ks[j].p, .int .i64 ks[j].t.e, .int .i64 ks[j].t.r, .int .i64 (eR L ks[j])]]:=by
   rw[List.take_succ_eq_append_getElem (by omega),List.map_append]
   simp[hch,Cg.v]
  have hlen:(((iF L).take j).map Cg.v).length=j:=by simp;omega
  have hb1:(j+1)*32≤140737488355328:=by omega
  rcases hacc with⟨he,rfl⟩|⟨hne,id,hid,rfl,htip⟩
  ·have hi0:j=0:=by rw[he] at hlen;simpa using hlen.symm
   (repeat' (first|(with_reducible first|refine stp ?_|refine uP (by decide) ?_|refine uQ (fun _=>?_) (fun _=>?_))|((first|(with_reducible refine uA ?_;first|refine uB rfl ?_ ?_|(first|refine uC rfl ?_|refine uD rfl ?_)|refine uE rfl ?_)|(with_reducible refine uF ?_;first|refine uG rfl ?_ ?_|(first|refine uH rfl ?_|refine uI rfl ?_)|refine uJ rfl ?_|refine uK (uL ?_)|refine uK (uM ?_))|(with_reducible refine uN ?_;refine uO rfl ?_))<;>try simp only[hc,hg,hlt,hw,he,hmp2,hlt0,hmf,hmg,jK,jG,go_sem,reduceIte,jA,jB,jC,jD,reduceCtorEq,jE,jF])|(with_reducible refine uR ?_;refine uS rfl ?_)|omega))
   rw[←hQ]
   refine aL (j+1, .tok (nx2+9)) (by dsimp only;omega) ⟨hlt,by omega,(by(try dsimp only);repeat (first|exact aT.up hdm2 (by omega)|refine aT.set2 ?_ (by omega) _|refine aT.del ?_|refine aT.delO ?_ _)),(by(try dsimp only);repeat (first|exact hsm2|refine bV ?_ (by omega) _|refine cN ?_ (by omega))),?_⟩ ?_
   ·dsimp only;rw[htk];exact Acc.new _ (by simp) (by omega)
   simp only[WkL,aD,jH,jI,jJ,cgs,htk,he,go_sem,reduceIte,jA,jB,jC,jD,reduceCtorEq,jE,jF]
  have hidn:id<nx2:=hdm2 id _ htip
  have e1:(id=nx2)=False:=eq_false (by omega)
  have ca:qR ((hp2.set nx2 (Blk.arr (Sh.agg 3) [V.agg [V.int IntKind.i64 0,V.int IntKind.i64 0,V.int IntKind.i64 0]])).set nx2 (Blk.arr (Sh.agg 3) [V.agg [V.int IntKind.i64 ks[j].p,V.int IntKind.i64 ks[j].t.e,V.int IntKind.i64 ks[j].t.r]])) (nx2+2) [0,1,2,3,4,5,6] [none,none,none,none,none,none,some Blk.tip] [none,none,none,none,none,none,none] id Blk.tip:=
   ⟨by simp[bS], .inl ⟨by omega,by simp only[htip,e1,go_sem,reduceIte,jA,jB,jC,jD,reduceCtorEq,jE,jF]⟩⟩
  (repeat' (first|(with_reducible first|refine stp ?_|refine uP (by decide) ?_|refine uQ (fun _=>?_) (fun _=>?_))|((first|(with_reducible refine uA ?_;first|refine uB rfl ?_ ?_|(first|refine uC rfl ?_|refine uD rfl ?_)|refine uE rfl ?_)|(with_reducible refine uF ?_;first|refine uG rfl ?_ ?_|(first|refine uH rfl ?_|refine uI rfl ?_)|refine uJ rfl ?_|refine uK (uL ?_)|refine uK (uM ?_))|(with_reducible refine uN ?_;refine uO rfl ?_))<;>try simp only[hc,hg,hlt,hw,hlen,htip,hidn,hb1,ca,hmp2,hlt0,hmf,hmg,jK,jG,go_sem,reduceIte,jA,jB,jC,jD,reduceCtorEq,jE,jF])|(with_reducible refine uR ?_;refine uS rfl ?_)|omega))
  rw[←hQ]
  refine aL (j+1, .tok (nx2+9)) (by dsimp only;omega) ⟨hlt,by omega,(by(try dsimp only);repeat (first|exact aT.up hdm2 (by omega)|refine aT.set2 ?_ (by omega) _|refine aT.del ?_|refine aT.delO ?_ _)),(by(try dsimp only);repeat (first|exact hsm2|refine bV ?_ (by omega) _|refine cN ?_ (by omega))),?_⟩ ?_
  ·dsimp only;rw[htk];exact(Acc.new _ (by simp) (by omega)).del (fun e=>by injection e;omega)
  simp only[WkL,aD,jH,jI,jJ,cgs,htk,go_sem,reduceIte,jA,jB,jC,jD,reduceCtorEq,jE,jF]
 have hc:decide ((j:Int)<(ks.length:Int))=false:=decide_eq_false (by omega)
 have htl:(iF L).take j=iF L:=List.take_of_length_le (by omega)
 rw[htl] at hacc
 (repeat' (first|(with_reducible first|refine stp ?_|refine uP (by decide) ?_|refine uQ (fun _=>?_) (fun _=>?_))|((first|(with_reducible refine uA ?_;first|refine uB rfl ?_ ?_|(first|refine uC rfl ?_|refine uD rfl ?_)|refine uE rfl ?_)|(with_reducible refine uF ?_;first|refine uG rfl ?_ ?_|(first|refine uH rfl ?_|refine uI rfl ?_)|refine uJ rfl ?_|refine uK (uL ?_)|refine uK (uM ?_))|(with_reducible refine uN ?_;refine uO rfl ?_))<;>try simp only[hc,go_sem,reduceIte,jA,jB,jC,jD,reduceCtorEq,jE,jF])|(with_reducible refine uR ?_;refine uS rfl ?_)|omega))
 rw[←hQ]
 (repeat' (first|(with_reducible first|refine stp ?_|refine uP (by decide) ?_|refine uQ (fun _=>?_) (fun _=>?_))|((first|(with_reducible refine uA ?_;first|refine uB rfl ?_ ?_|(first|refine uC rfl ?_|refine uD rfl ?_)|refine uE rfl ?_)|(with_reducible refine uF ?_;first|refine uG rfl ?_ ?_|(first|refine uH rfl ?_|refine uI rfl ?_)|refine uJ rfl ?_|refine uK (uL ?_)|refine uK (uM ?_))|(with_reducible refine uN ?_;refine uO rfl ?_))<;>try simp only[ go_sem,reduceIte,jA,jB,jC,jD,reduceCtorEq,jE,jF])|(with_reducible refine uR ?_;refine uS rfl ?_)|omega))
 refine aM h' (hsm2.le (fun m b e=>by have:=hd m b e;omega) ?_) ⟨?_,Hp.le_refl _⟩
 ·exact iR (Hp.le_refl _) (aT.none hd (Nat.le_refl _)) _
 simp only[htl,go_sem,reduceIte,jA,jB,jC,jD,reduceCtorEq,jE,jF]
 rw[hacc.loose]
 rfl
/-
Counts:the document's Sum. No conditions.
-/
end Go.Proofs.YthikfnmcjipobaaGreat
