/-
Texts of this proof,one behind the other. No conditions.
-/
import Derived.Test.YtecepaehmojpgaaGreatNl
import Derived.Test.YtecepaehmojpgaaGreatNd
import Derived.Test.YtecepaehmojpgaaGreatNe
import Derived.Test.YtecepaehmojpgaaGreatNf
open Go.Proofs.YtecepaehmojpgaaGreat.V renaming undef→Ka
open Go.Proofs.YtecepaehmojpgaaGreat.Hp renaming le_refl→Kb,set→Kc,none→Ki
open List renaming getD_eq_getElem?_getD→Kd,getElem?_eq_getElem→Ke,getElem_mem→Kf,mem_append→Kg,take_succ_eq_append_getElem→Kh,map_cons→Kj,mem_singleton→Kk,getElem?_map→Ko,mem_map→Kp,length_append→Kq,findIdx?_cons→Ks,getElem_cons_succ→Kt,takeWhile_append_dropWhile→Ku,getElem_set→Kv,set_getElem_self→Kw,mem_iff_getElem→Kx,map_append→Kz,pairwise_cons→KC,findIdx?_eq_none_iff→KD,length_cons→KE,map_nil→KG,map_set→KH,nodup_cons→KJ,find?_cons→KK,take_of_length_le→KL,eraseIdx_sublist→KM,mem_cons→KN,takeWhile_cons→KO,dropWhile_cons→KP,getD_cons_succ→KS,getD_cons_zero→KT,find?_eq_none→KU,nodup_append→KW,cons_append→KY,ext_getElem→KZ,getElem_map→Qa,length_take→Qe,length_drop→Qf,foldl_cons→Qh,nil_append→Qi
open Nat renaming le_refl→Km,min_eq_right→KF,lt_or_ge→KI,reduceAdd→KQ,reduceSub→KR,reduceLeDiff→Qb,reduceEqDiff→Qc,zero_le→Qd,min_eq_left→Qk,reduceLT→Ql
open Bool renaming eq_iff_iff→Ky,false_eq_true→KV,and_eq_true→KX,or_eq_true→Qg
open Go.IntKind renaming wrap→KB
open Int renaming reduceToNat→Qj
set_option linter.unusedSimpArgs false
set_option linter.unusedVariables false
set_option linter.unusedSectionVars false
set_option maxHeartbeats 8000000
open Nat renaming reduceAdd→jA,reduceSub→jB,reduceLT→jC,reduceLeDiff→jD,reduceEqDiff→jE
open Int renaming reduceToNat→jF,toNat_natCast→jG,natCast_add→jH,natCast_one→jI,natCast_zero→jJ
open List renaming length_map→jK,length_cons→jL,length_nil→jM,replicate_succ→jN,replicate_zero→jO,cons_append→jP,nil_append→jQ
namespace Go.Proofs.YtecepaehmojpgaaGreat
open Go.RowKit Go.Sort
structure Sp where
 p:Int
 t:Tm
 deriving DecidableEq,Inhabited
structure Cg where
 s:Sp
 d:Int
 deriving DecidableEq,Inhabited
def Sp.less(a b:Sp):Bool:=decide (a.p<b.p)||(decide (a.p=b.p)&&a.t.less b.t)
theorem Sp.aAY(a:Sp):a.less a=false:=by simp[Sp.less,Tm.aAY]
theorem Sp.aAt(a b:Sp)(h1:a.less b=false)(h2:b.less a=false):a=b:=by
 simp only[Sp.less,Bool.or_eq_false_iff,decide_eq_false_iff_not,Bool.and_eq_false_iff] at h1 h2;have hp:a.p=b.p:=or;have ht:a.t=b.t:=Tm.aAt _ _ (h1.2.resolve_left (fun h=>h hp)) (h2.2.resolve_left (fun h=>h hp.symm));cases a;cases b;simp_all
theorem Sp.aAi{a b c:Sp}(h1:a.less b=true)(h2:b.less c=true):a.less c=true:=by
 simp only[Sp.less,Qg,decide_eq_true_eq,KX] at h1 h2⊢;rcases h1 with h1|⟨h1,h1'⟩<;>rcases h2 with h2|⟨h2,h2'⟩
 ·left;omega
 ·left;omega
 ·left;omega
 right;exact⟨or,Tm.aAi h1' h2'⟩
def tot(l:List Cg)(s:Sp):Int:=l.foldl (fun n x=>if x.s=s then IntKind.i64.wrap (n+x.d) else n) 0
theorem Cq(s:Sp):tot [] s=0:=rfl
theorem Bb(l:List Cg)(x:Cg)(s:Sp):tot (l++[x]) s=if x.s=s then IntKind.i64.wrap (tot l s+x.d) else tot l s:=by simp[tot,List.foldl_append]
theorem Bd{l:List Cg}{s:Sp}(h:∀x∈l,x.s≠s):tot l s=0:=by
 unfold tot;have:∀(l:List Cg) (n:Int),(∀x∈l,x.s≠s)→l.foldl (fun n x=>if x.s=s then IntKind.i64.wrap (n+x.d) else n) n=n:=by
  intro l;induction l with
  |nil=>intro n _;rfl
  |cons x l ih=>
   intro n h;rw[Qh,if_neg (h x Zm)];exact ih n fun y hy=>h y (by simp[hy])
 exact this l 0 h
def xz(f:Sp→Int)(W:List Cg):Prop:=W.Pairwise (fun a b=>a.s.less b.s=true)∧∀x,x∈W↔(x.d=f x.s∧x.d≠0)
theorem ua{f:Sp→Int}{a b:List Cg}(ha:xz f a)(hb:xz f b):a=b:=by
 have nd:∀{l:List Cg},l.Pairwise (fun a b=>a.s.less b.s=true)→l.Nodup:=fun hl=>hl.imp (fun{x y} hxy e=>by subst e;rw[Sp.aAY] at hxy;cases hxy);refine List.Perm.eq_of_pairwise (le:=fun(u v:Cg)=>u.s.less v.s=true) (fun x y _ _ h1 h2=>?_) ha.1 hb.1 ((List.perm_ext_iff_of_nodup (nd ha.1) (nd hb.1)).2 fun x=>by rw[ha.2,hb.2]);have:=Sp.aAi h1 h2;rw[Sp.aAY] at this;cases this
theorem xz.get{f:Sp→Int}{W:List Cg}(h:xz f W)(s:Sp):((W.find? fun x=>decide (x.s=s)).map (·.d)).getD 0=f s:=by
 cases hf:W.find? fun x=>decide (x.s=s) with
 |none=>
  have hn:=KU.1 hf;by_cases h0:f s=0
  ·simp[h0]
  exact absurd ((h.2 ⟨s,f s⟩).2 ⟨rfl,h0⟩) (fun hm=>by simpa using hn _ hm)
 |some x=>
  have hx:=List.find?_some hf;have hm:=List.mem_of_find?_eq_some hf;have hs:x.s=s:=by simpa using hx
  have:=((h.2 x).1 hm).1;simp[this,hs]
def nW(l:List Cg)(i:Nat):Bool:=(l.take i).all fun x=>decide (x.s≠(l.getD i default).s)
def g8(out:List Cg)(x:Cg):List Cg:=out.takeWhile (fun y=>y.s.less x.s)++x::out.dropWhile (fun y=>y.s.less x.s)
def cS(l:List Cg):Nat→List Cg
 |0=>[]
 |i+1=>if nW l i=true∧tot l (l.getD i default).s≠0 then g8 (cS l i) ⟨(l.getD i default).s,tot l (l.getD i default).s⟩ else cS l i
def xQ(l:List Cg):List Cg:=cS l l.length
theorem sd(out:List Cg)(t x:Cg):x∈g8 out t↔x=t∨x∈out:=by
 unfold g8;conv=>rhs;rw[←Ku (p:=fun y:Cg=>y.s.less t.s) (l:=out)]
 simp only[Kg,KN];constructor
 ·rintro(h|h|h)<;>simp[h]
 rintro(h|h|h)<;>simp[h]
theorem BG(out:List Cg)(t:Cg):(g8 out t).length=out.length+1:=by
 have:=congrArg List.length (Ku (p:=fun y:Cg=>y.s.less t.s) (l:=out));simp only[Kq] at this;simp only[g8,Kq,KE];omega
theorem sc{out:List Cg}{t:Cg}(hs:out.Pairwise fun a b=>a.s.less b.s=true)(hn:∀y∈out,y.s≠t.s):(g8 out t).Pairwise fun a b=>a.s.less b.s=true:=by
 induction out with
 |nil=>simp[g8]
 |cons a out ih=>
  have hs':=KC.1 hs;have ih:=ih hs'.2 fun y hy=>hn y (by simp[hy]);unfold g8;cases ha:a.s.less t.s with
  |true=>
   simp only[KO,KP,ha,if_true,KY];refine KC.2 ⟨fun y hy=>?_,ih⟩;rcases(sd out t y).1 hy with rfl|hy
   ·exact ha
   exact hs'.1 y hy
  |false=>
   simp only[KO,KP,ha,KV,if_false,Qi];have hta:t.s.less a.s=true:=by
    cases h:t.s.less a.s with
    |true=>rfl
    |false=>exact absurd (Sp.aAt _ _ h ha).symm (hn a Zm)
   refine KC.2 ⟨fun y hy=>?_,hs⟩;rcases KN.1 hy with rfl|hy
   ·exact hta
   exact Sp.aAi hta (hs'.1 y hy)
theorem i6(l:List Cg):∀i,i≤l.length→(cS l i).Pairwise (fun a b=>a.s.less b.s=true)∧∀x,x∈cS l i↔((∃y∈l.take i,y.s=x.s)∧x.d=tot l x.s∧x.d≠0)
 |0,_=>⟨by simp[cS],fun x=>by simp[cS]⟩
 |i+1,hi=>by
  obtain⟨h1,h2⟩:=i6 l i or;have hlt:i<l.length:=hi;have hg:l.getD i default=l[i]:=by rw[Kd,Ke hlt];rfl
  have htk:l.take (i+1)=l.take i++[l[i]]:=Kh hlt;unfold cS;rw[hg];split
  ·rename_i hc;obtain⟨hf,ht⟩:=hc;have hf':∀x∈l.take i,x.s≠l[i].s:=by
    unfold nW at hf;rw[hg,List.all_eq_true] at hf;exact fun x hx=>by simpa using hf x hx
   refine⟨sc h1 fun y hy=>?_,fun x=>?_⟩
   ·obtain⟨⟨z,hz,hzs⟩,_⟩:=(h2 y).1 hy;rw[←hzs];exact hf' z hz
   rw[sd,h2,htk];constructor
   ·rintro(rfl|⟨⟨y,hy,hys⟩,h3⟩)
    ·exact⟨⟨l[i],Kg.2 (.inr (Kk.2 rfl)),rfl⟩,rfl,ht⟩
    exact⟨⟨y,Kg.2 (.inl hy),hys⟩,h3⟩
   rintro⟨⟨y,hy,hys⟩,h3,h4⟩;rcases Kg.1 hy with hy|hy
   ·exact .inr ⟨⟨y,hy,hys⟩,h3,h4⟩
   left;have:y=l[i]:=by simpa using hy
   subst this;cases x;simp only at hys h3;subst hys;rw[h3]
  rename_i hc;refine⟨h1,fun x=>?_⟩;rw[h2,htk];constructor
  ·rintro⟨⟨y,hy,hys⟩,h3⟩;exact⟨⟨y,Kg.2 (.inl hy),hys⟩,h3⟩
  rintro⟨⟨y,hy,hys⟩,h3,h4⟩;refine⟨?_,h3,h4⟩;rcases Kg.1 hy with hy|hy
  ·exact⟨y,hy,hys⟩
  have:y=l[i]:=by simpa using hy
  subst this;by_cases hf:nW l i=true
  ·exact absurd ⟨hf,by rw[hys,←h3];exact h4⟩ hc
  have hf2:(nW l i)=false:=by simpa using hf
  unfold nW at hf2;rw[hg,List.all_eq_false] at hf2;obtain⟨z,hz,hzs⟩:=hf2
  exact⟨z,hz,by have:z.s=l[i].s:=by simpa using hzs
                rw[this,hys]⟩
theorem xP(l:List Cg):∀i,(cS l i).length≤i
 |0=>by simp[cS]
 |i+1=>by
  have:=xP l i;unfold cS;split
  ·rw[BG];omega
  omega
theorem Bh(l:List Cg):(xQ l).length≤l.length:=xP l _
theorem Bi(l:List Cg):xz (tot l) (xQ l):=by
 obtain⟨h1,h2⟩:=i6 l l.length (Km _);refine⟨h1,fun x=>?_⟩;rw[show xQ l=cS l l.length from rfl,h2,List.take_length];constructor
 ·exact fun h=>h.2
 intro h;refine⟨?_,h⟩;apply Classical.byContradiction;intro hn;exact h.2 (by rw[h.1];exact Bd fun y hy e=>hn ⟨y,hy,e⟩)
structure CE where
 s:Sp
 n:Int
 b:Nat
 deriving DecidableEq,Inhabited
def dT(l:List CE)(s:Sp):Int:=((l.find? fun x=>decide (x.s=s)).map (·.n)).getD 0
structure fK(l:List CE)(c:Nat):Prop where
 key:(l.map (·.s)).Nodup
 num:(l.map (·.b)).Nodup
 lt:∀x∈l,x.b<c
 nz:∀x∈l,x.n≠0
theorem jp(c:Nat):fK [] c:=⟨Zm,Zm,Zm,Zm⟩
theorem iB{l:List CE}(hk:(l.map (·.s)).Nodup){x:CE}(hx:x∈l):dT l x.s=x.n:=by
 induction l with
 |nil=>simp at hx
 |cons y l ih=>
  simp only[Kj,KJ] at hk;unfold dT;rw[KK];rcases KN.1 hx with rfl|hx
  ·simp
  have hne:y.s≠x.s:=fun e=>hk.1 (e▸List.mem_map_of_mem hx);simp only[decide_eq_false hne];exact ih hk.2 hx
theorem iH{l:List CE}{s:Sp}(h:∀x∈l,x.s≠s):dT l s=0:=by
 unfold dT;rw[KU.2 (fun x hx=>by simpa using h x hx)];rfl
def tF(a b:Sp):Int:=orI [lA a.p b.p,nD a.t b.t]
theorem B4(a b:Sp):tF a b<0↔a.less b=true:=by
 have h1:=oQ.1 a.p b.p;have h2:=oQ.2 a.p b.p;have h3:=ze a.t b.t;have e:tF a b=if lA a.p b.p=0 then (if nD a.t b.t=0 then 0 else nD a.t b.t) else lA a.p b.p:=rfl
 rw[e];simp only[Sp.less,Tm.less,Qg,decide_eq_true_eq,KX];split
 ·rename_i h0;have:=h2.1 h0;split
  ·omega
  rw[h3];omega
 rename_i h0;have:a.p≠b.p:=fun e=>h0 (h2.2 e);rw[h1];omega
theorem pJ(a b:Sp):ltOf tF a b=a.less b:=by
 unfold ltOf;rw[Ky];simp[B4]
theorem zm:SWO (ltOf tF):=by
 refine⟨fun x=>?_,fun x y z=>?_,fun x y z=>?_⟩
 ·rw[pJ];exact Sp.aAY x
 ·simp only[pJ];exact Sp.aAi
 simp only[pJ];intro h1 h2;cases h:x.less z with
 |false=>rfl
 |true=>
  exfalso;cases hxy:y.less x with
  |true=>have:=Sp.aAi hxy h;rw[this] at h2;cases h2
  |false=>
   have:=Sp.aAt _ _ h1 hxy;subst this;rw[h] at h2;cases h2
theorem uu{l:List CE}{c:Nat}(h:fK l c):xz (dT l) ((dV tF (l.map (·.s))).map fun s=>⟨s,dT l s⟩):=by
 have hp:=dU tF (l.map (·.s));refine⟨?_,fun x=>?_⟩
 ·rw[List.pairwise_map];have hs:=iS zm (l.map (·.s));have hnd:(dV tF (l.map (·.s))).Nodup:=hp.symm.nodup h.key;have hb:=List.pairwise_and_iff.2 ⟨hs,hnd⟩;refine hb.imp fun{a b} hab=>?_;have h1:=hab.1;rw[pJ] at h1;cases hl:a.less b with
  |true=>rfl
  |false=>exact absurd (Sp.aAt _ _ hl h1) hab.2
 rw[Kp];constructor
 ·rintro⟨s,hs,rfl⟩;obtain⟨y,hy,rfl⟩:=Kp.1 (hp.mem_iff.1 hs);exact⟨rfl,by rw[iB h.key hy];exact h.nz y hy⟩
 rintro⟨h1,h2⟩;refine⟨x.s,hp.mem_iff.2 ?_,by cases x;simp_all⟩;apply Classical.byContradiction;intro hn;exact h2 (by rw[h1];exact iH fun y hy e=>hn (Kp.2 ⟨y,hy,e⟩))
end Go.Proofs.YtecepaehmojpgaaGreat
namespace Go.Proofs.YtecepaehmojpgaaGreat
open Go.RowKit
def Sp.v(s:Sp):V:= .agg [.int .i64 s.p, .int .i64 s.t.e, .int .i64 s.t.r]
def Cg.v(x:Cg):V:= .agg [.int .i64 x.s.p, .int .i64 x.s.t.e, .int .i64 x.s.t.r, .int .i64 x.d]
def CE.me(x:CE):ME:=⟨x.s.v, .int .i64 x.n,x.b⟩
theorem Sp.aAC(s:Sp):s.v.fits (.agg 3)=true:=rfl
theorem Cg.aAC(s:Cg):s.v.fits (.agg 4)=true:=rfl
theorem lz(a b:Sp):veq (.plain (.agg 3) [.int, .int, .int]) a.v b.v=some (decide (a=b)):=by
 obtain⟨p,e,r⟩:=a;obtain⟨p',e',r'⟩:=b;have h:veq (.plain (.agg 3) [.int, .int, .int]) (Sp.v ⟨p,e,r⟩) (Sp.v ⟨p',e',r'⟩)=some ((p==p')&&((e==e')&&(r==r'))):=rfl;rw[h];congr 1;rw[Ky];simp
theorem lJ(s:Sp):∀l:List CE,fC (.plain (.agg 3) [.int, .int, .int]) s.v (l.map CE.me)=some (l.findIdx? fun x=>decide (x.s=s))
 | []=>rfl
 |x::l=>by
  rw[Kj,fC,Ks];simp only[CE.me,lz];by_cases h:s=x.s
  ·simp[h]
  have h':¬x.s=s:=fun e=>h e.symm;have ih:=lJ s l;simp[h,h',ih]
def Dy(l:List CE)(c:Nat)(s:Sp):List CE×Nat×Nat:=match l.findIdx? (fun x=>decide (x.s=s)) with
 |some j=>(l,j,c)
 |none=>(l++[⟨s,0,c⟩],l.length,c+1)
def xE(l:List CE)(c:Nat)(s:Sp)(d:Int):List CE×Nat:=
 let (l1,j,c1):=Dy l c s
 let n:=IntKind.i64.wrap (dT l s+d)
 if n=0 then (l1.eraseIdx j,c1) else (l1.set j ⟨s,n,(l1.getD j default).b⟩,c1)
theorem aj{α:Type}{p:α→Bool}{l:List α}{j:Nat}(h:l.findIdx? p=some j):∃hj:j<l.length,p l[j]=true∧l.find? p=some l[j]:=by
 induction l generalizing j with
 |nil=>simp at h
 |cons a l ih=>
  rw[Ks] at h;by_cases ha:p a=true
  ·rw[if_pos ha] at h;injection h with h;subst h;exact⟨Zm,ha,by simp[KK,ha]⟩
  rw[if_neg ha] at h;obtain⟨j',h',rfl⟩:=Option.map_eq_some_iff.1 h;obtain⟨h1,h2,h3⟩:=ih h';refine⟨by simpa using h1,by simpa using h2,?_⟩;rw[KK];simp only[Bool.not_eq_true] at ha;simp only[ha];simpa using h3
theorem j3{l:List CE}{c:Nat}(h:fK l c)(s:Sp):∃l1 j c1,Dy l c s=(l1,j,c1)∧∃hj:j<l1.length,l1[j].s=s∧l1[j].n=dT l s∧(l1.map (·.s)).Nodup∧(l1.map (·.b)).Nodup∧(∀x∈l1,x.b<c1)∧c≤c1∧(∀x∈l1,x.n≠0∨x.s=s)∧
 ((l.findIdx? (fun x=>decide (x.s=s))=some j∧l1=l∧c1=c)∨(l.findIdx? (fun x=>decide (x.s=s))=none∧l1=l++[⟨s,0,c⟩]∧j=l.length∧c1=c+1∧dT l s=0))∧(∀t,t≠s→dT l1 t=dT l t):=by
 unfold Dy;cases hf:l.findIdx? (fun x=>decide (x.s=s)) with
 |some j=>
  obtain⟨hj,h1,h2⟩:=aj hf;refine⟨l,j,c,rfl,hj,by simpa using h1,?_,h.key,h.num,h.lt,Km _,fun x hx=> .inl (h.nz x hx), .inl ⟨rfl,rfl,rfl⟩,fun _ _=>rfl⟩;unfold dT;rw[h2];rfl
 |none=>
  have hn:∀x∈l,x.s≠s:=by
   intro x hx;have:=KD.1 hf x hx;simpa using this
  have h0:dT l s=0:=iH hn;refine⟨_,_,_,rfl,Zm,Zm,by simp[h0],?_,?_,?_,Nat.le_succ _,?_, .inr ⟨rfl,rfl,rfl,rfl,h0⟩,?_⟩
  ·rw[Kz,KW];refine⟨h.key,Zm,fun a ha b hb hab=>?_⟩;obtain⟨x,hx,rfl⟩:=Kp.1 ha;simp only[Kj,KG,Kk] at hb;exact hn x hx (hab.trans hb)
  ·rw[Kz,KW];refine⟨h.num,Zm,fun a ha b hb hab=>?_⟩;obtain⟨x,hx,rfl⟩:=Kp.1 ha;simp only[Kj,KG,Kk] at hb;have:=h.lt x hx;omega
  ·intro x hx;rcases Kg.1 hx with hx|hx
   ·have:=h.lt x hx;omega
   rw[Kk.1 hx];exact Nat.lt_succ_self _
  ·intro x hx;rcases Kg.1 hx with hx|hx
   ·exact .inl (h.nz x hx)
   rw[Kk.1 hx];exact .inr rfl
  intro t ht;unfold dT;rw[List.find?_append];cases l.find? (fun x=>decide (x.s=t)) with
  |some x=>rfl
  |none=>
   have:¬s=t:=fun e=>ht e.symm;simp[this]
theorem Dw{l:List CE}(hn:(l.map (·.b)).Nodup){j:Nat}(hj:j<l.length):(l.map CE.me).findIdx? (fun e=>((e.b:Nat):Int)==(l[j].b:Int))=some j:=by
 induction l generalizing j with
 |nil=>simp at hj
 |cons a l ih=>
  rw[Kj,KJ] at hn;rw[Kj,Ks];cases j with
  |zero=>simp[CE.me]
  |succ j=>
   have hj':j<l.length:=by simpa using hj
   have hne:¬a.b=l[j].b:=fun e=>hn.1 (Kp.2 ⟨l[j],Kf _,e.symm⟩);have hb:(((CE.me a).b:Int)==(((a::l)[j+1]).b:Int))=false:=by
    simp only[Kt,CE.me,beq_eq_false_iff_ne,ne_eq];omega
   rw[hb];have:=ih hn.2 hj';simp only[Kt];rw[this];rfl
theorem wD(l:List CE)(s:Sp):qF false (.int .i64 0) (l.map CE.me) (l.findIdx? fun x=>decide (x.s=s))= .int .i64 (dT l s):=by
 cases hf:l.findIdx? (fun x=>decide (x.s=s)) with
 |none=>
  have hn:∀x∈l,x.s≠s:=fun x hx=>by simpa using KD.1 hf x hx
  rw[iH hn];rfl
 |some j=>
  obtain⟨hj,h1,h2⟩:=aj hf;have:(l.map CE.me).getD j default=CE.me l[j]:=by rw[Kd,Ko,Ke hj];rfl
  simp only[qF,this];unfold dT;rw[h2];rfl
theorem dx{l:List CE}(hk:(l.map (·.s)).Nodup){j:Nat}(hj:j<l.length):l.findIdx? (fun x=>decide (x.s=l[j].s))=some j:=by
 induction l generalizing j with
 |nil=>simp at hj
 |cons a l ih=>
  rw[Kj,KJ] at hk;rw[Ks];cases j with
  |zero=>simp
  |succ j=>
   have hj':j<l.length:=by simpa using hj
   have hne:¬a.s=l[j].s:=fun e=>hk.1 (Kp.2 ⟨l[j],Kf _,e.symm⟩);have:=ih hk.2 hj';simp only[Kt,hne,decide_false,KV,if_false,this];rfl
theorem uy{l:List CE}{j:Nat}(hj:j<l.length):(l.map CE.me).set j ⟨l[j].s.v,((l.map CE.me).getD j default).v,((l.map CE.me).getD j default).b⟩=l.map CE.me:=by
 have:(l.map CE.me).getD j default=CE.me l[j]:=by rw[Kd,Ko,Ke hj];rfl
 rw[this];apply KZ
 ·simp
 intro i h1 h2;rw[Kv];split
 ·rename_i e;subst e;rw[Qa];rfl
 rfl
theorem Cv{l:List CE}{j:Nat}(hj:j<l.length){s:Sp}(hs:l[j].s=s)(n:Int):(l.map CE.me).set j ⟨((l.map CE.me).getD j default).k, .int .i64 n,((l.map CE.me).getD j default).b⟩=(l.set j ⟨s,n,l[j].b⟩).map CE.me:=by
 have:(l.map CE.me).getD j default=CE.me l[j]:=by rw[Kd,Ko,Ke hj];rfl
 rw[this,KH];simp only[CE.me,hs]
theorem Hp.set_set(h:Hp)(n:Nat)(a b:Blk):(h.set n a).set n b=h.set n b:=by
 funext m;simp only[Kc];split<;>rfl
theorem Hp.set_comm(h:Hp){n m:Nat}(hne:n≠m)(a b:Blk):(h.set n a).set m b=(h.set m b).set n a:=by
 funext q;simp only[Kc];split
 ·rename_i e;subst e;rw[if_neg (fun e=>hne e.symm)]
 rfl
attribute [local irreducible] KB
set_option maxRecDepth 100000 in
theorem Cd(l:List CE)(c:Nat)(h:fK l c)(s:Sp)(d:Int)(m:Nat)(h':Hp)(nx:Nat)(hm:h' m=some (.mp (l.map CE.me) c)):
 bD Tryz.prog 71 [.map m,s.v, .int .i64 d] h' nx fun v h'' _=>h''=h'.set m (.mp ((xE l c s d).1.map CE.me) (xE l c s d).2):=by
 refine aD L.aVk fun hd=>?_;simp only[KE,List.length_nil,KQ,KR,List.replicate_succ,List.replicate_zero,KY,Qi,Ka];obtain⟨l1,j,c1,he,hj,hjs,hjn,hk1,hb1,aEb,hcc,aNR,aEj,aF2⟩:=j3 h s;have hmn:m<nx:=hd _ _ hm;have hsf:=Sp.aAC s;have ha:xE l c s d=if IntKind.i64.wrap (dT l s+d)=0 then (l1.eraseIdx j,c1) else (l1.set j ⟨s,IntKind.i64.wrap (dT l s+d),(l1.getD j default).b⟩,c1):=by
  unfold xE;rw[he]
 have hgj:l1.getD j default=l1[j]:=by rw[Kd,Ke hj];rfl
 rw[hgj] at ha;have hg1:dT l1 s=dT l s:=by rw[←hjn,←hjs];exact iB hk1 (Kf _)
 refine bH (bM ?_);refine fV rfl (by simp only[hsf,go_sem,reduceIte,KQ,KR,Ql,Qb,reduceCtorEq,Qc,Qj];try omega) ?_;simp only[hsf,go_sem,reduceIte,KQ,KR,Ql,Qb,reduceCtorEq,Qc,Qj];refine aM (bH (sF ?_));obtain⟨n,hn⟩:∃n,n=IntKind.i64.wrap (dT l s+d):=⟨_,rfl⟩;obtain⟨H0,hH0⟩:∃H0,H0=h'.set nx (.arr (.agg 3) [s.v]):=⟨_,rfl⟩;obtain⟨F,hF⟩:∃F:(Nat→Bool)→List V,∀D,F D=[.map m,s.v, .int .i64 d, .tup [], .ptr nx (.agg 3) 0 0, .tup [],if D 0=true then .map m else .tup [],if D 1=true then s.v else .tup [],if D 2=true then .int .i64 (dT l s) else .tup [],if D 3=true then .int .i64 d else .tup [],if D 4=true then .int .i64 n else .tup [],
  if D 5=true then .tup [.int .i64 (dT l s), .int .i64 l1[j].b] else .tup [],if D 6=true then .int .i64 l1[j].b else .tup [], .tup [], .tup [], .tup [], .tup [], .tup [], .tup []]:=⟨_,fun _=>rfl⟩
 obtain⟨H,hH⟩:∃H:(Nat→Bool)→Hp,∀D,H D=if D 7=true then H0.set m (.mp ((l1.set j ⟨s,n,l1[j].b⟩).map CE.me) c1) else if D 5=true then H0.set m (.mp (l1.map CE.me) c1) else H0:=⟨_,fun _=>rfl⟩
 refine⟨fun D s'=>∃nx',s'=⟨F D,H D,nx'⟩∧nx+1≤nx',⟨nx+1,by simp[hF,hH,hH0],Km _⟩,?_,?_⟩
 ·rintro D i o aAP s' hi hDi aAX hcl ⟨nx',rfl,hnx⟩;have hne:nx≠m:=or;have aAa:H D nx=some (.arr (.agg 3) [s.v]):=by
   rw[hH,hH0];split
   ·simp[Kc,hne]
   split<;>simp[Kc,hne]
  have h7:D 7=true→D 0=true∧D 1=true∧D 2=true∧D 3=true∧D 4=true∧D 5=true∧D 6=true:=fun h=>by
   have:=hcl 7 _ _ rfl h;exact⟨this 0 ZM,this 1 ZM,this 2 ZM,this 3 ZM,this 4 ZM,this 5 ZM,this 6 ZM⟩
  rcases i with _|_|_|_|_|_|_|_|i;all_goals first|(injection hi with hi;injection hi with q1 q2;subst q1;subst q2)|skip
  ·simp[bB,LOp.run,bL.sem,aO.ev,bN,Ka,hF,hH,hnx]
  ·simp[bB,LOp.run,bL.sem,aO.ev,bN,Ka,hF,aAa,gY,(rfl:bV (.agg 3) 0 s.v=s.v),V.fits,hnx];simp[hH];first|omega|exact hnx|exact⟨_,rfl,hnx⟩|exact⟨_,⟨rfl,rfl⟩,hnx⟩
  ·have d0:=aAX 0 ZM;have d1:=aAX 1 ZM;have d7:D 7=false:=by
    cases h:D 7 with
    |false=>rfl
    |true=>have:=(h7 h).2.2.1;rw[this] at hDi;cases hDi
   cases h5:D 5 with
   |true=>
    have hHm:H D m=some (.mp (l1.map CE.me) c1):=by rw[hH,if_neg (by simp[d7]),if_pos h5];simp[Kc]
    simp[bB,LOp.run,bL.sem,aO.ev,bN,Ka,hF,d0,d1,hsf,hHm,lJ,wD,hg1,hnx];simp[hH]<;>omega
   |false=>
    have hHm:H D m=some (.mp (l.map CE.me) c):=by rw[hH,if_neg (by simp[d7]),if_neg (by simp[h5]),hH0];simp[Kc,Ne.symm hne,hm]
    simp[bB,LOp.run,bL.sem,aO.ev,bN,Ka,hF,d0,d1,hsf,hHm,lJ,wD,hg1,hnx];simp[hH]<;>omega
  ·simp[bB,LOp.run,bL.sem,aO.ev,bN,Ka,hF,hH,hnx]
  ·have d2:=aAX 2 ZM;have d3:=aAX 3 ZM;simp[bB,LOp.run,bL.sem,aO.ev,bN,Ka,hF,d2,d3,At,←hn,hnx];simp[hH]<;>omega
  ·have d0:=aAX 0 ZM;have d1:=aAX 1 ZM;have d7:D 7=false:=by
    cases h:D 7 with
    |false=>rfl
    |true=>have:=(h7 h).2.2.2.2.2.1;rw[this] at hDi;cases hDi
   have hHm:H D m=some (.mp (l.map CE.me) c):=by rw[hH,if_neg (by simp[d7]),if_neg (by simp[hDi]),hH0];simp[Kc,Ne.symm hne,hm]
   have hHD:H D=H0:=by rw[hH,if_neg (by simp[d7]),if_neg (by simp[hDi])]
   have hgo:∀R:V→Hp→Prop,R (.tup [.int .i64 (dT l s), .int .i64 l1[j].b]) (H0.set m (.mp (l1.map CE.me) c1))→(MOp.ent (.agg 3) [.int, .int, .int] (.int .i64 0) (.slot 6) (.slot 7)).sem (F D) (H D) nx' R:=by
    intro R hR;simp only[MOp.sem,aO.ev,hF,KS,KT,d0,d1,if_true,hsf,hHm,lJ,true_and];rw[hHD];rcases aEj with⟨e1,rfl,rfl⟩|⟨e1,rfl,rfl,rfl,e0⟩
    ·simp only[e1];have hg:(l1.map CE.me).getD j default=CE.me l1[j]:=by rw[Kd,Ko,Ke hj];rfl
     have:=uy hj;rw[hjs] at this;rw[this,hg];simp only[CE.me,hjn];exact hR
    simp only[e1];simp only[e0,Kz,Kj,KG] at hR;simpa [CE.me] using hR
   show(MOp.ent (.agg 3) [.int, .int, .int] (.int .i64 0) (.slot 6) (.slot 7)).sem (F D) (H D) nx' (fun v h'=>bB Tryz.prog [] _ ⟨bN (F D) (some 11) v,h',nx'+1⟩);refine hgo _ ?_;simp[bB,bN,hF,hH,d7]<;>omega
  ·have d5:=aAX 5 ZM;simp[bB,LOp.run,bL.sem,aO.ev,bN,Ka,hF,d5,hnx];simp[hH]<;>omega
  ·have d0:=aAX 0 ZM;have d4:=aAX 4 ZM;have d5:=aAX 5 ZM;have d6:=aAX 6 ZM;have hHD:H D=H0.set m (.mp (l1.map CE.me) c1):=by rw[hH,if_neg (by simp[hDi]),if_pos d5]
   have hHm:H D m=some (.mp (l1.map CE.me) c1):=by rw[hHD];simp[Kc]
   have hgo:∀R:V→Hp→Prop,R Ka (H0.set m (.mp ((l1.set j ⟨s,n,l1[j].b⟩).map CE.me) c1))→(MOp.est (.slot 6) (.slot 12) (.slot 10)).sem (F D) (H D) nx' R:=by
    intro R hR;simp only[MOp.sem,aO.ev,hF,KS,KT,d0,d4,d6,if_true,hHm];refine⟨j,Dw hb1 hj,?_⟩;rw[hHD,Hp.set_set,Cv hj hjs];exact hR
   show(MOp.est (.slot 6) (.slot 12) (.slot 10)).sem (F D) (H D) nx' (fun v h'=>bB Tryz.prog [] _ ⟨bN (F D) none v,h',nx'+1⟩);refine hgo _ ?_;simp[bB,bN,hF,hH]<;>omega
  simp[L.aGz] at hi
 rintro D s' hD ⟨nx',rfl,hnx⟩;have dd:=fun i (h:i<8)=>hD i h;have hFD:F D=[.map m,s.v, .int .i64 d, .tup [], .ptr nx (.agg 3) 0 0, .tup [], .map m,s.v, .int .i64 (dT l s), .int .i64 d, .int .i64 n, .tup [.int .i64 (dT l s), .int .i64 l1[j].b], .int .i64 l1[j].b, .tup [], .tup [], .tup [], .tup [], .tup [], .tup []]:=by
  rw[hF];simp[dd 0,dd 1,dd 2,dd 3,dd 4,dd 5,dd 6]
 have hHD:H D=H0.set m (.mp ((l1.set j ⟨s,n,l1[j].b⟩).map CE.me) c1):=by rw[hH,if_pos (dd 7 ZM)]
 rw[hFD,hHD];obtain⟨l2,hl2⟩:∃l2,l2=l1.set j ⟨s,n,l1[j].b⟩:=⟨_,rfl⟩;rw[←hl2];have hj2:j<l2.length:=by rw[hl2];simpa using hj
 have hat:l2[j]=⟨s,n,l1[j].b⟩:=by simp[hl2]
 have hks:l2.map (·.s)=l1.map (·.s):=by
  rw[hl2,KH];have:(l1.map (·.s)).set j s=(l1.map (·.s)).set j ((l1.map (·.s))[j]'(by simpa using hj)):=by simp[hjs]
  rw[this,Kw]
 have hk2:(l2.map (·.s)).Nodup:=by rw[hks];exact hk1
 have hg2:dT l2 s=n:=by
  have:=iB hk2 (Kf hj2);rw[hat] at this;exact this
 have hf2:l2.findIdx? (fun x=>decide (x.s=s))=some j:=by
  have:=dx hk2 hj2;rw[hat] at this;exact this
 have hne:¬nx=m:=or;have aNV:¬m=nx:=or;have hb2:(H0.set m (.mp (l2.map CE.me) c1)) nx=some (.arr (.agg 3) [s.v]):=by rw[hH0];simp[Kc,hne]
 have hm2:(H0.set m (.mp (l2.map CE.me) c1)) m=some (.mp (l2.map CE.me) c1):=by simp[Kc]
 have hle:∀X:Blk,(h'.set m X).le (H0.set m X):=fun X=>by
  rw[hH0,Hp.set_comm _ hne];exact kN (Kb _) (by simp only[Kc];rw[if_neg hne];exact aK.none hd (Km _)) _
 have aAR:∀X,(H0.set m (.mp (l2.map CE.me) c1)).set m X=H0.set m X:=fun X=>Hp.set_set _ _ _ _;have aTR:=hle (.mp (l2.map CE.me) c1);generalize H0.set m (.mp (l2.map CE.me) c1)=h2 at hb2 hm2 aAR aTR⊢;show pB _ _ cK.normal _;refine aM ?_;by_cases h0:n=0
 ·rw[if_pos (by rw[←hn];exact h0)] at ha;have hc0:(n==0)=true:=by simp[h0]
  rw[ha];have her:(l2.map CE.me).eraseIdx j=(l1.eraseIdx j).map CE.me:=by
   rw[hl2];apply KZ
   ·simp[List.length_eraseIdx]
   intro i h1 h2;simp only[List.getElem_eraseIdx,Kv,Qa];split
   ·rw[if_neg or]
   rw[if_neg or]
  refine aue (ee7 hb2 hm2 lJ wD hg2 hc0 hsf) ?_;refine rp hsf rfl hm2 (by rw[show aO.ev _ _=s.v from rfl,lJ,hf2]) ?_;rw[her,aAR];refine au ?_;exact⟨_,hle _,rfl⟩
 rw[if_neg (by rw[←hn];exact h0),←hn,←hl2] at ha;have hc0:(n==0)=false:=by simp[h0]
 rw[ha];refine aue (ee7 hb2 hm2 lJ wD hg2 hc0 hsf) ?_;exact⟨_,aTR,rfl⟩
theorem jo{α:Type}{l:List α}{j:Nat}{x:α}:x∈l.eraseIdx j↔∃(i:Nat) (h:i<l.length),i≠j∧l[i]=x:=by
 rw[List.mem_eraseIdx_iff_getElem]
theorem BC{l:List CE}(hk:(l.map (·.s)).Nodup){i j:Nat}(hi:i<l.length)(hj:j<l.length)(h:l[i].s=l[j].s):i=j:=by
 have h1:=dx hk hi;have h2:=dx hk hj;rw[h,h2] at h1;injection h1 with h1;exact h1.symm
theorem C7{l:List CE}{c:Nat}(h:fK l c)(s:Sp)(d:Int):
 fK (xE l c s d).1 (xE l c s d).2∧(∀t,dT (xE l c s d).1 t=if t=s then IntKind.i64.wrap (dT l s+d) else dT l t)∧(xE l c s d).1.length≤l.length+1:=by
 obtain⟨l1,j,c1,he,hj,hjs,hjn,hk1,hb1,aEb,hcc,aNR,aEj,aF2⟩:=j3 h s;have hgj:l1.getD j default=l1[j]:=by rw[Kd,Ke hj];rfl
 have hlen:l1.length≤l.length+1:=by
  rcases aEj with⟨_,rfl,_⟩|⟨_,rfl,_⟩
  ·omega
  simp
 have ha:xE l c s d=if IntKind.i64.wrap (dT l s+d)=0 then (l1.eraseIdx j,c1) else (l1.set j ⟨s,IntKind.i64.wrap (dT l s+d),l1[j].b⟩,c1):=by
  unfold xE;rw[he];simp only[hgj]
 generalize IntKind.i64.wrap (dT l s+d)=n at ha⊢;by_cases h0:n=0
 ·rw[if_pos h0] at ha;rw[ha];have aAp:∀{x},x∈l1.eraseIdx j→x∈l1∧x.s≠s:=by
   intro x hx;obtain⟨i,hi,hne,rfl⟩:=jo.1 hx;refine⟨Kf _,fun e=>hne (BC hk1 hi hj (e.trans hjs.symm))⟩
  have aJH:((l1.eraseIdx j).map (·.s)).Nodup:=(List.Sublist.map _ (KM _ _)).nodup hk1;refine⟨⟨aJH,(List.Sublist.map _ (KM _ _)).nodup hb1,fun x hx=>aEb x (aAp hx).1,fun x hx=>(aNR x (aAp hx).1).resolve_right (aAp hx).2⟩,fun t=>?_,?_⟩
  ·split
   ·rename_i e;subst e;rw[iH (fun x hx=>(aAp hx).2),h0]
   rename_i e;rw[←aF2 t e];by_cases hex:∃x∈l1,x.s=t
   ·obtain⟨x,hx,rfl⟩:=hex;have hx':x∈l1.eraseIdx j:=by
     obtain⟨i,hi,rfl⟩:=Kx.1 hx;exact jo.2 ⟨i,hi,fun e2=>e (by subst e2;exact hjs),rfl⟩
    rw[iB aJH hx',iB hk1 hx]
   rw[iH (fun x hx e2=>hex ⟨x,(aAp hx).1,e2⟩),iH (fun x hx e2=>hex ⟨x,hx,e2⟩)]
  have:=List.length_eraseIdx_le l1 j;show(l1.eraseIdx j).length≤_;omega
 rw[if_neg h0] at ha;rw[ha];obtain⟨l2,hl2⟩:∃l2,l2=l1.set j ⟨s,n,l1[j].b⟩:=⟨_,rfl⟩;rw[←hl2];have hj2:j<l2.length:=by rw[hl2];simpa using hj
 have hat:l2[j]=⟨s,n,l1[j].b⟩:=by simp[hl2]
 have hks:l2.map (·.s)=l1.map (·.s):=by
  rw[hl2,KH];have:(l1.map (·.s)).set j s=(l1.map (·.s)).set j ((l1.map (·.s))[j]'(by simpa using hj)):=by simp[hjs]
  rw[this,Kw]
 have hbs:l2.map (·.b)=l1.map (·.b):=by
  rw[hl2,KH];have:(l1.map (·.b)).set j l1[j].b=(l1.map (·.b)).set j ((l1.map (·.b))[j]'(by simpa using hj)):=Zm;rw[this,Kw]
 have hk2:(l2.map (·.s)).Nodup:=by rw[hks];exact hk1
 have aAp:∀{x},x∈l2→x=⟨s,n,l1[j].b⟩∨(x∈l1∧x.s≠s):=by
  intro x hx;obtain⟨i,hi,rfl⟩:=Kx.1 hx;have hi1:i<l1.length:=by rw[hl2] at hi;simpa using hi
  by_cases e:i=j
  ·subst e;exact .inl hat
  right;have:l2[i]=l1[i]:=by simp[hl2,Kv,Ne.symm e]
  rw[this];exact⟨Kf _,fun e2=>e (BC hk1 hi1 hj (e2.trans hjs.symm))⟩
 refine⟨⟨hk2,by rw[hbs];exact hb1,fun x hx=>?_,fun x hx=>?_⟩,fun t=>?_,?_⟩
 ·rcases aAp hx with rfl|hx
  ·exact aEb l1[j] (Kf _)
  exact aEb x hx.1
 ·rcases aAp hx with rfl|hx
  ·exact h0
  exact(aNR x hx.1).resolve_right hx.2
 ·split
  ·rename_i e;subst e;have:=iB hk2 (Kf hj2);rw[hat] at this;exact this
  rename_i e;rw[←aF2 t e];by_cases hex:∃x∈l1,x.s=t
  ·obtain⟨x,hx,rfl⟩:=hex;have hx':x∈l2:=by
    obtain⟨i,hi,rfl⟩:=Kx.1 hx;have hne:i≠j:=fun e2=>e (by subst e2;exact hjs);have:l2[i]'(by rw[hl2];simpa using hi)=l1[i]:=by simp[hl2,Kv,Ne.symm hne]
    rw[←this];exact Kf _
   rw[iB hk2 hx',iB hk1 hx]
  refine(iH fun x hx e2=>?_).trans (iH fun x hx e2=>hex ⟨x,hx,e2⟩).symm;rcases aAp hx with rfl|hx
  ·exact e e2.symm
  exact hex ⟨x,hx.1,e2⟩
 show l2.length≤_;rw[hl2,List.length_set];exact hlen
def eX:List CE→Nat→List Cg→List CE×Nat
 |l,c,[]=>(l,c)
 |l,c,x::r=>eX (xE l c x.s x.d).1 (xE l c x.s x.d).2 r
theorem zR(x:Cg):∀(r:List Cg) (l:List CE) (c:Nat),eX l c (r++[x])=xE (eX l c r).1 (eX l c r).2 x.s x.d
 | [],_,_=>rfl
 |y::r,l,c=>zR x r _ _
def rV(f:Sp→Int)(l:List Cg)(s:Sp):Int:=l.foldl (fun n x=>if x.s=s then IntKind.i64.wrap (n+x.d) else n) (f s)
theorem oW:∀(r:List Cg) {l:List CE} {c:Nat},fK l c→fK (eX l c r).1 (eX l c r).2∧(∀t,dT (eX l c r).1 t=rV (dT l) r t)∧(eX l c r).1.length≤l.length+r.length
 | [],l,c,h=>⟨h,fun _=>rfl,by simp[eX]⟩
 |x::r,l,c,h=>by
  obtain⟨h1,h2,h3⟩:=C7 h x.s x.d;obtain⟨q1,q2,q3⟩:=oW r h1;refine⟨q1,fun t=>?_,?_⟩
  ·rw[eX,q2 t];unfold rV;rw[Qh,h2 t];congr 1;by_cases e:x.s=t
   ·subst e;simp
   rw[if_neg e,if_neg (fun e2=>e e2.symm)]
  rw[eX,KE];omega
end Go.Proofs.YtecepaehmojpgaaGreat
namespace Go.Proofs.YtecepaehmojpgaaGreat
open Go.RowKit
attribute [local irreducible] KB
theorem Sp.aAM(s:Sp)(L:Nat→Prop):s.v.names L:=by simp[Sp.v,V.names,bP]
theorem Cg.aAM(L:Nat→Prop)(s:Cg):s.v.names L:=by simp[Cg.v,V.names,bP]
def cgs(o:Own)(l:List Cg):V:= .sl (.agg 4) o (l.map Cg.v)
theorem wW(n:Int)(h:Hp):aX Tryz.prog 68 [.int .i64 n] h (.bool (decide (-1000000≤n)&&decide (n≤1000000))):=by
 refine aP (fun L=>trivial) fun h' nx hh=>aD L.aVl fun hd=>?_;simp only[jL,jM,jA,jB,jN,jO,jP,jQ,Ka];by_cases h0:-1000000≤n
 all_goals
  have hc:=decide_eq_true h0
  (repeat' (first|(with_reducible first|refine stp ?_|refine bG ZM ?_|refine iI (fun _=>?_) (fun _=>?_))|((first|(with_reducible refine fO ?_;first|refine eH rfl ?_ ?_|refine Zx ?_)|(with_reducible refine fP ?_;first|refine bY rfl ?_ ?_|refine ZX ?_)|refine Zy ?_)<;>try simp only[hc,go_sem,reduceIte,jA,jB,jC,jD,reduceCtorEq,jE,jF])|refine ZY ?_|omega))
  all_goals refine aG h' (by repeat (first|exact Kb _|refine aH hd ?_ or _|refine aL hd ?_ or)) ⟨?_,rfl⟩
  all_goals ((try simp_all [hc])<;>(try omega))
theorem DD(a b:Sp):aX Tryz.prog 93 [a.v,b.v] Ki (.int .i64 (tF a b)):=by
 refine aP (fun L=>trivial) fun h' nx hh=>aD L.aVO fun hd=>?_;simp only[jL,jM,jA,jB,jN,jO,jP,jQ,Ka]
 (repeat' (first|(with_reducible first|refine stp ?_|refine bG ZM ?_|refine iI (fun _=>?_) (fun _=>?_))|((first|(with_reducible refine fO ?_;first|refine eH rfl ?_ ?_|refine Zx ?_)|(with_reducible refine fP ?_;first|refine bY rfl ?_ ?_|refine bJ (pX pK af a.p b.p Ki) rfl (bK _) ?_|refine bJ (ka a.t b.t) rfl (bK _) ?_|refine bJ (xV xZ _ [lA a.p b.p,nD a.t b.t] Zm Ki) rfl (bK _) ?_|refine ZX ?_)|refine Zy ?_)<;>try simp only[Sp.v,go_sem,reduceIte,jA,jB,jC,jD,reduceCtorEq,jE,jF])|refine ZY ?_|omega))
 exact aG h' (by repeat (first|exact Kb _|refine aH hd ?_ or _|refine aL hd ?_ or)) ⟨rfl,rfl⟩
theorem pq(a b:Sp)(h:Hp):aX Tryz.prog 116 [a.v,b.v] h (.bool (a.less b)):=by
 refine aP (fun L=>trivial) fun h' nx hh=>aD L.aUy fun hd=>?_;simp only[jL,jM,jA,jB,jN,jO,jP,jQ,Ka];by_cases h0:a.p=b.p
 ·have hc:(a.p != b.p)=false:=by simp[h0]
  have hl:a.less b=a.t.less b.t:=by simp[Sp.less,h0]
  have C1:=fun h=>bq a.t b.t h;refine aue (ee2 Sp.v.eq_1 hc) ?_;rw[hl];exact aG h' (by repeat (first|exact Kb _|refine aH hd ?_ or _|refine aL hd ?_ or)) ⟨rfl,rfl⟩
 have hc:(a.p != b.p)=true:=by simp[h0]
 have hl:a.less b=decide (a.p<b.p):=by simp[Sp.less,h0]
 refine aue (ee2 Sp.v.eq_1 hc) ?_;rw[hl];exact aG h' (by repeat (first|exact Kb _|refine aH hd ?_ or _|refine aL hd ?_ or)) ⟨rfl,rfl⟩
theorem rA(a:Sp)(h:Hp):aX Tryz.prog 24 [a.v] h a.v:=by
 refine aP (fun L=>a.aAM L) fun h' nx hh=>aD L.aWG fun hd=>?_;simp only[jL,jM,jA,jB,jN,jO,jP,jQ,Ka];have ht:∀h,aX Tryz.prog 56 [.agg [.int .i64 a.t.e, .int .i64 a.t.r]] h (.agg [.int .i64 a.t.e, .int .i64 a.t.r]):=fun h=>u6 a.t h;have D1:=fun h=>ht h;refine aue Sp.v.eq_1 ?_;refine vS (by simp only[go_sem,reduceIte,jA,jB,jC,jD,reduceCtorEq,jE,jF]) h' (by repeat (first|exact Kb _|refine aH hd ?_ or _|refine aL hd ?_ or)) ⟨?_,rfl⟩;simp only[go_sem,reduceIte,jA,jB,jC,jD,reduceCtorEq,jE,jF]
theorem dQ{α:Type}(f:α→V)(d:V)(l:List α)(i:Nat)(h:i<l.length):(l.map f).getD i d=f l[i]:=by
 rw[Kd,Ko,Ke h];rfl
def CK(l:List Cg)(s:Sp):Int:=((l.find? fun x=>decide (x.s=s)).map (·.d)).getD 0
end Go.Proofs.YtecepaehmojpgaaGreat
namespace Go.Proofs.YtecepaehmojpgaaGreat
open Go.RowKit
attribute [local irreducible] KB
noncomputable def Dl(l:List CE):List Sp:=dV tF (l.map (·.s))
noncomputable def uY(l:List CE):List Cg:=(Dl l).map fun s=>⟨s,dT l s⟩
theorem Bs(l:List CE):(Dl l).length=l.length:=by
 unfold Dl;rw[(dU tF (l.map (·.s))).length_eq,List.length_map]
end Go.Proofs.YtecepaehmojpgaaGreat
namespace Go.Proofs.YtecepaehmojpgaaGreat
open Go.RowKit
attribute [local irreducible] KB
def lT(l:List Cg)(i:Nat)(s:Sp):Nat→Bool
 |0=>true
 |k+1=>if (l.getD k default).s=s then (lT l i s k&&decide (i≤k)) else lT l i s k
theorem sj(l:List Cg)(i:Nat)(s:Sp):∀k,k≤l.length→lT l i s k=((l.take (min k i)).all fun x=>decide (x.s≠s))
 |0,_=>by simp[lT]
 |k+1,hk=>by
  have hlt:k<l.length:=hk;have hg:l.getD k default=l[k]:=by rw[Kd,Ke hlt];rfl
  rw[lT,hg,sj l i s k or];rcases KI k i with hki|hki
  ·rw[Qk (by omega:k≤i),Qk (by omega:k+1≤i),Kh hlt,List.all_append];have hd:decide (i≤k)=false:=decide_eq_false or;by_cases he:l[k].s=s
   ·simp[he,hd]
   simp[he]
  rw[KF (by omega:i≤k),KF (by omega:i≤k+1)];have hd:decide (i≤k)=true:=decide_eq_true or;by_cases he:l[k].s=s
  ·rw[if_pos he,hd,Bool.and_true]
  rw[if_neg he]
theorem Ax{l:List Cg}{i:Nat}(hi:i<l.length):lT l i (l.getD i default).s l.length=nW l i:=by
 rw[sj l i _ _ (Km _),KF or];rfl
theorem Ba{l:List Cg}{k:Nat}(hk:k<l.length)(s:Sp):tot (l.take (k+1)) s=if l[k].s=s then IntKind.i64.wrap (tot (l.take k) s+l[k].d) else tot (l.take k) s:=by
 rw[Kh hk,Bb]
set_option maxRecDepth 100000 in
set_option maxHeartbeats 4000000 in
theorem zw(own:Own)(l:List Cg)(hl:l.length≤100000)(h:Hp):aX Tryz.prog 81 [cgs own l] h (lst (.agg 4) ((xQ l).map Cg.v)):=by
 refine dI (fun L=>cP (fun L=>bE (Cg.aAM L) _) L) fun h' nx hh=>aD L.aVW fun hd=>?_;simp only[jL,jM,jA,jB,jN,jO,jP,jQ,Ka]
 (repeat' (first|(with_reducible first|refine stp ?_|refine bG ZM ?_|refine iI (fun _=>?_) (fun _=>?_))|((first|(with_reducible refine fO ?_;first|refine eH rfl ?_ ?_|refine Zx ?_)|(with_reducible refine fP ?_;first|refine bY rfl ?_ ?_|refine ZX ?_)|refine Zy ?_)<;>try simp only[ go_sem,reduceIte,jA,jB,jC,jD,reduceCtorEq,jE,jF])|refine ZY ?_|omega))
 refine aT (fun q:Nat×Own=>aB 89 0 [(0,cgs own l),(3,cgs q.2 (cS l q.1)),(4, .int .i64 q.1)])
  (fun q hp nx1=>q.1≤l.length∧nx≤nx1∧aK hp nx1∧Hp.same nx h' hp∧Acc hp nx q.2 ((cS l q.1).map Cg.v))
  (fun q=>l.length-q.1) (0, .nil) ⟨Qd _,Km _,hd,Hp.same.aBI,Acc.nil⟩ ?_ ?_
 ·simp only[WkL,aB,jH,jI,jJ,cgs,cS,KG,go_sem,reduceIte,jA,jB,jC,jD,reduceCtorEq,jE,jF]
 rintro⟨i,o⟩ hp nx1 ⟨hi,hnx,hdm,hsm,aAl⟩;generalize hQ:bO _ _ _ _ _=Q0;dsimp only at hi aAl;simp only[aB,cgs,go_sem,reduceIte,jA,jB,jC,jD,reduceCtorEq,jE,jF];rcases KI i l.length with hlt|hge
 ·have hc:decide ((i:Int)<(l.length:Int))=true:=decide_eq_true or;have hgi:l.getD i default=l[i]:=by rw[Kd,Ke hlt];rfl
  have hg:(l.map Cg.v).getD i (.tup [])= .agg [.int .i64 l[i].s.p, .int .i64 l[i].s.t.e, .int .i64 l[i].s.t.r, .int .i64 l[i].d]:=dQ Cg.v _ l i hlt;have hw:IntKind.i64.wrap ((i:Int)+1)=((i+1:Nat):Int):=by rw[aY]<;>omega
  (repeat' (first|(with_reducible first|refine stp ?_|refine bG ZM ?_|refine iI (fun _=>?_) (fun _=>?_))|((first|(with_reducible refine fO ?_;first|refine eH rfl ?_ ?_|refine Zx ?_)|(with_reducible refine fP ?_;first|refine bY rfl ?_ ?_|refine ZX ?_)|refine Zy ?_)<;>try simp only[hc,jK,go_sem,reduceIte,jA,jB,jC,jD,reduceCtorEq,jE,jF])|refine ZY ?_|omega))
  refine aT (fun k:Nat=>aB 89 0 [(0,cgs own l),(3,cgs o (cS l i)),(4, .int .i64 i),(5, .bool (lT l i l[i].s k)),(6, .int .i64 (tot (l.take k) l[i].s)),(7, .int .i64 k)])
   (fun k h2 nx2=>k≤l.length∧h2=hp∧nx1≤nx2) (fun k=>l.length-k) 0 ⟨Qd _,rfl,Zm⟩ ?_ ?_
  ·simp only[WkL,aB,jH,jI,jJ,cgs,lT,List.take_zero,Cq,go_sem,reduceIte,jA,jB,jC,jD,reduceCtorEq,jE,jF]
  rintro k h2 nx2 ⟨hk,rfl,aBZ⟩;generalize hQ2:bO _ _ _ _ _=Q2;simp only[aB,cgs,go_sem,reduceIte,jA,jB,jC,jD,reduceCtorEq,jE,jF];rcases KI k l.length with aBp|aTH
  ·have hck:decide ((k:Int)<(l.length:Int))=true:=decide_eq_true or;have aTG:l.getD k default=l[k]:=by rw[Kd,Ke aBp];rfl
   have hgk:(l.map Cg.v).getD k (.tup [])= .agg [.int .i64 l[k].s.p, .int .i64 l[k].s.t.e, .int .i64 l[k].s.t.r, .int .i64 l[k].d]:=dQ Cg.v _ l k aBp;have hwk:IntKind.i64.wrap ((k:Int)+1)=((k+1:Nat):Int):=by rw[aY]<;>omega
   have hq:veq (.plain (.agg 3) [.int, .int, .int]) (.agg [.int .i64 l[k].s.p, .int .i64 l[k].s.t.e, .int .i64 l[k].s.t.r]) (.agg [.int .i64 l[i].s.p, .int .i64 l[i].s.t.e, .int .i64 l[i].s.t.r])=some (decide (l[k].s=l[i].s)):=lz l[k].s l[i].s;have ht:=Ba aBp l[i].s;by_cases he:l[k].s=l[i].s
   ·rw[decide_eq_true he] at hq;rw[if_pos he] at ht;have hf:lT l i l[i].s (k+1)=(lT l i l[i].s k&&decide (i≤k)):=by rw[lT,aTG,if_pos he]
    have aDf:decide ((k:Int)≥(i:Int))=decide (i≤k):=by rw[Ky];simp
    have aIv:decide ((i:Int)≤(k:Int))=decide (i≤k):=by rw[Ky];simp
    cases hfk:lT l i l[i].s k with
    |true=>
     rw[hfk,Bool.true_and] at hf
     (repeat' (first|(with_reducible first|refine stp ?_|refine bG ZM ?_|refine iI (fun _=>?_) (fun _=>?_))|((first|(with_reducible refine fO ?_;first|refine eH rfl ?_ ?_|refine Zx ?_)|(with_reducible refine fP ?_;first|refine bY rfl ?_ ?_|refine ZX ?_)|refine Zy ?_)<;>try simp only[hck,hg,hgk,hlt,aBp,hwk,hq,hfk,aDf,aIv,←ht,jK,jG,go_sem,reduceIte,jA,jB,jC,jD,reduceCtorEq,jE,jF])|refine ZY ?_|omega))
     rw[←hQ2];refine aF (k+1) or ⟨aBp,rfl,ZN⟩ ?_;simp only[WkL,aB,jH,jI,jJ,cgs,hf,go_sem,reduceIte,jA,jB,jC,jD,reduceCtorEq,jE,jF]
    |false=>
     rw[hfk,Bool.false_and] at hf
     (repeat' (first|(with_reducible first|refine stp ?_|refine bG ZM ?_|refine iI (fun _=>?_) (fun _=>?_))|((first|(with_reducible refine fO ?_;first|refine eH rfl ?_ ?_|refine Zx ?_)|(with_reducible refine fP ?_;first|refine bY rfl ?_ ?_|refine ZX ?_)|refine Zy ?_)<;>try simp only[hck,hg,hgk,hlt,aBp,hwk,hq,hfk,aDf,aIv,←ht,jK,jG,go_sem,reduceIte,jA,jB,jC,jD,reduceCtorEq,jE,jF])|refine ZY ?_|omega))
     rw[←hQ2];refine aF (k+1) or ⟨aBp,rfl,ZN⟩ ?_;simp only[WkL,aB,jH,jI,jJ,cgs,hf,go_sem,reduceIte,jA,jB,jC,jD,reduceCtorEq,jE,jF]
   rw[decide_eq_false he] at hq;rw[if_neg he] at ht;have hf:lT l i l[i].s (k+1)=lT l i l[i].s k:=by rw[lT,aTG,if_neg he]
   (repeat' (first|(with_reducible first|refine stp ?_|refine bG ZM ?_|refine iI (fun _=>?_) (fun _=>?_))|((first|(with_reducible refine fO ?_;first|refine eH rfl ?_ ?_|refine Zx ?_)|(with_reducible refine fP ?_;first|refine bY rfl ?_ ?_|refine ZX ?_)|refine Zy ?_)<;>try simp only[hck,hg,hgk,hlt,aBp,hwk,hq,jK,jG,go_sem,reduceIte,jA,jB,jC,jD,reduceCtorEq,jE,jF])|refine ZY ?_|omega))
   rw[←hQ2];refine aF (k+1) or ⟨aBp,rfl,ZN⟩ ?_;simp only[WkL,aB,jH,jI,jJ,cgs,hf,ht,go_sem,reduceIte,jA,jB,jC,jD,reduceCtorEq,jE,jF]
  have hck:decide ((k:Int)<(l.length:Int))=false:=decide_eq_false or;have hkl:l.take k=l:=KL aTH;have hke:k=l.length:=or;have hfa:lT l i l[i].s k=nW l i:=by rw[hke,←hgi];exact Ax hlt
  rw[hkl,hfa];have aBQ:cS l (i+1)=if nW l i=true∧tot l l[i].s≠0 then g8 (cS l i) ⟨l[i].s,tot l l[i].s⟩ else cS l i:=by rw[cS,hgi]
  by_cases hft:nW l i=true∧tot l l[i].s≠0;case neg=>
   rw[if_neg hft] at aBQ;cases hfb:nW l i with
   |false=>
    (repeat' (first|(with_reducible first|refine stp ?_|refine bG ZM ?_|refine iI (fun _=>?_) (fun _=>?_))|((first|(with_reducible refine fO ?_;first|refine eH rfl ?_ ?_|refine Zx ?_)|(with_reducible refine fP ?_;first|refine bY rfl ?_ ?_|refine ZX ?_)|refine Zy ?_)<;>try simp only[hck,hfb,hw,jK,go_sem,reduceIte,jA,jB,jC,jD,reduceCtorEq,jE,jF])|refine ZY ?_|omega))
    rw[←hQ2];clear hQ2 Q2
    (repeat' (first|(with_reducible first|refine stp ?_|refine bG ZM ?_|refine iI (fun _=>?_) (fun _=>?_))|((first|(with_reducible refine fO ?_;first|refine eH rfl ?_ ?_|refine Zx ?_)|(with_reducible refine fP ?_;first|refine bY rfl ?_ ?_|refine ZX ?_)|refine Zy ?_)<;>try simp only[hfb,hw,go_sem,reduceIte,jA,jB,jC,jD,reduceCtorEq,jE,jF])|refine ZY ?_|omega))
    rw[←hQ];refine aF (i+1,o) Zw ⟨hlt,ZN,(by(try dsimp only);repeat (first|exact aK.up hdm or|refine aK.aAh ?_ or _|refine aK.del ?_|refine aK.aAb ?_ _)),hsm,by dsimp only;rw[aBQ];exact aAl⟩ ?_;simp only[WkL,aB,jH,jI,jJ,cgs,aBQ,go_sem,reduceIte,jA,jB,jC,jD,reduceCtorEq,jE,jF]
   |true=>
    have h0:tot l l[i].s=0:=by
     by_cases h0:tot l l[i].s=0
     ·exact h0
     exact absurd ⟨hfb,h0⟩ hft
    have hz:(tot l l[i].s==0)=true:=by simp[h0]
    (repeat' (first|(with_reducible first|refine stp ?_|refine bG ZM ?_|refine iI (fun _=>?_) (fun _=>?_))|((first|(with_reducible refine fO ?_;first|refine eH rfl ?_ ?_|refine Zx ?_)|(with_reducible refine fP ?_;first|refine bY rfl ?_ ?_|refine ZX ?_)|refine Zy ?_)<;>try simp only[hck,hfb,hw,hz,jK,go_sem,reduceIte,jA,jB,jC,jD,reduceCtorEq,jE,jF])|refine ZY ?_|omega))
    rw[←hQ2];clear hQ2 Q2
    (repeat' (first|(with_reducible first|refine stp ?_|refine bG ZM ?_|refine iI (fun _=>?_) (fun _=>?_))|((first|(with_reducible refine fO ?_;first|refine eH rfl ?_ ?_|refine Zx ?_)|(with_reducible refine fP ?_;first|refine bY rfl ?_ ?_|refine ZX ?_)|refine Zy ?_)<;>try simp only[hfb,hw,hz,go_sem,reduceIte,jA,jB,jC,jD,reduceCtorEq,jE,jF])|refine ZY ?_|omega))
    rw[←hQ];refine aF (i+1,o) Zw ⟨hlt,ZN,(by(try dsimp only);repeat (first|exact aK.up hdm or|refine aK.aAh ?_ or _|refine aK.del ?_|refine aK.aAb ?_ _)),hsm,by dsimp only;rw[aBQ];exact aAl⟩ ?_;simp only[WkL,aB,jH,jI,jJ,cgs,aBQ,go_sem,reduceIte,jA,jB,jC,jD,reduceCtorEq,jE,jF]
  case pos=>
   rw[if_pos hft] at aBQ;have hfb:=hft.1;have hz:(tot l l[i].s==0)=false:=by simp[hft.2]
   (repeat' (first|(with_reducible first|refine stp ?_|refine bG ZM ?_|refine iI (fun _=>?_) (fun _=>?_))|((first|(with_reducible refine fO ?_;first|refine eH rfl ?_ ?_|refine Zx ?_)|(with_reducible refine fP ?_;first|refine bY rfl ?_ ?_|refine ZX ?_)|refine Zy ?_)<;>try simp only[hck,hfb,hw,hz,jK,go_sem,reduceIte,jA,jB,jC,jD,reduceCtorEq,jE,jF])|refine ZY ?_|omega))
   rw[←hQ2];clear hQ2 Q2
   (repeat' (first|(with_reducible first|refine stp ?_|refine bG ZM ?_|refine iI (fun _=>?_) (fun _=>?_))|((first|(with_reducible refine fO ?_;first|refine eH rfl ?_ ?_|refine Zx ?_)|(with_reducible refine fP ?_;first|refine bY rfl ?_ ?_|refine ZX ?_)|refine Zy ?_)<;>try simp only[hfb,hw,hz,go_sem,reduceIte,jA,jB,jC,jD,reduceCtorEq,jE,jF])|refine ZY ?_|omega))
   have aNa:(cS l i).length≤i:=xP l i
   refine aT (fun a:Nat=>aB 89 0 [(0,cgs own l),(3,cgs o (cS l i)),(4, .int .i64 i),(6, .int .i64 (tot l l[i].s)),(8, .int .i64 a)])
    (fun a h2' nx3=>a≤(cS l i).length∧(∀x∈(cS l i).take a,x.s.less l[i].s=true)∧h2'=h2∧nx1≤nx3) (fun a=>(cS l i).length-a) 0 ⟨Qd _,Zm,rfl,ZN⟩ ?_ ?_
   ·simp only[WkL,aB,jH,jI,jJ,cgs,go_sem,reduceIte,jA,jB,jC,jD,reduceCtorEq,jE,jF]
   rintro a h3 nx3 ⟨ha,aDE,rfl,aGm⟩;generalize hQ3:bO _ _ _ _ _=Q3;simp only[aB,cgs,go_sem,reduceIte,jA,jB,jC,jD,reduceCtorEq,jE,jF]
   have fin:∀nx4,nx1≤nx4→(cS l i).takeWhile (fun y=>y.s.less l[i].s)=(cS l i).take a→(cS l i).dropWhile (fun y=>y.s.less l[i].s)=(cS l i).drop a→
    lwp Tryz.prog (.draw 18 L.aE4 L.aDh) (gF 1 (pB (lwp Tryz.prog (.ops L.aE3)) Q0)) ⟨aB 89 0 [(0,cgs own l),(3,cgs o (cS l i)),(4, .int .i64 i),(6, .int .i64 (tot l l[i].s)),(8, .int .i64 a)],h3,nx4⟩:=by
    intro nx4 aIt w1 w2;have aEK:cS l (i+1)=(cS l i).take a++⟨l[i].s,tot l l[i].s⟩::(cS l i).drop a:=by rw[aBQ];unfold g8;rw[w1,w2]
    simp only[aB,cgs,go_sem,reduceIte,jA,jB,jC,jD,reduceCtorEq,jE,jF];refine dJ rfl ?_;refine bY rfl (by simp only[hg,cgs,jK,Qe,Qf,Kq,jG,go_sem,reduceIte,jA,jB,jC,jD,reduceCtorEq,jE,jF];try omega) ?_;simp only[hg,cgs,jK,Qe,Qf,Kq,jG,go_sem,reduceIte,jA,jB,jC,jD,reduceCtorEq,jE,jF];have htk:(List.map Cg.v (cS l i)).take (cS l i).length=List.map Cg.v (cS l i):=by
     rw[KL Zm]
    refine cD (dY ?_);refine Zn ?_
    (repeat' (first|(with_reducible first|refine stp ?_|refine bG ZM ?_|refine iI (fun _=>?_) (fun _=>?_))|((first|(with_reducible refine fO ?_;first|refine eH rfl ?_ ?_|refine Zx ?_)|(with_reducible refine fP ?_;first|refine bY rfl ?_ ?_|refine ZX ?_)|refine Zy ?_)<;>try simp only[hw,go_sem,reduceIte,jA,jB,jC,jD,reduceCtorEq,jE,jF])|refine ZY ?_|omega))
    rw[←hQ];refine aF (i+1, .tok (nx4+17)) Zw ⟨hlt,ZN,?_,?_,?_⟩ ?_
    ·have hdm:=hdm.up aIt;exact(by(try dsimp only);repeat (first|exact aK.up hdm or|refine aK.aAh ?_ or _|refine aK.del ?_|refine aK.aAb ?_ _))
    ·exact(by(try dsimp only);repeat (first|exact hsm|refine aV ?_ or _|refine aW ?_ or))
    ·dsimp only;rw[aEK];exact .inr ⟨Zm,nx4+17,or,rfl,by simp only[go_sem,reduceIte,jA,jB,jC,jD,reduceCtorEq,jE,jF]⟩
    simp only[WkL,aB,jH,jI,jJ,cgs,aEK,htk,Cg.v,Kz,Kj,List.map_take,List.map_drop,List.append_assoc,go_sem,reduceIte,jA,jB,jC,jD,reduceCtorEq,jE,jF]
   rcases KI a (cS l i).length with hal|hal
   ·have aGr:decide ((a:Int)<((cS l i).length:Int))=true:=decide_eq_true or;have hga:((cS l i).map Cg.v).getD a (.tup [])= .agg [.int .i64 (cS l i)[a].s.p, .int .i64 (cS l i)[a].s.t.e, .int .i64 (cS l i)[a].s.t.r, .int .i64 (cS l i)[a].d]:=dQ Cg.v _ (cS l i) a hal;have hwa:IntKind.i64.wrap ((a:Int)+1)=((a+1:Nat):Int):=by rw[aY]<;>omega
    have hsp:∀h,aX Tryz.prog 116 [.agg [.int .i64 (cS l i)[a].s.p, .int .i64 (cS l i)[a].s.t.e, .int .i64 (cS l i)[a].s.t.r], .agg [.int .i64 l[i].s.p, .int .i64 l[i].s.t.e, .int .i64 l[i].s.t.r]] h (.bool ((cS l i)[a].s.less l[i].s)):=fun h=>pq _ _ h;cases hls:(cS l i)[a].s.less l[i].s with
    |true=>
     rw[hls] at hsp
     (repeat' (first|(with_reducible first|refine stp ?_|refine bG ZM ?_|refine iI (fun _=>?_) (fun _=>?_))|((first|(with_reducible refine fO ?_;first|refine eH rfl ?_ ?_|refine Zx ?_)|(with_reducible refine fP ?_;first|refine bY rfl ?_ ?_|refine bJ (hsp _) rfl (bK _) ?_|refine ZX ?_)|refine Zy ?_)<;>try simp only[aGr,hga,hg,hal,hlt,hwa,jK,jG,go_sem,reduceIte,jA,jB,jC,jD,reduceCtorEq,jE,jF])|refine ZY ?_|omega))
     rw[←hQ3];refine aF (a+1) or ⟨or,?_,rfl,ZN⟩ ?_
     ·intro x hx;rw[Kh hal,Kg,Kk] at hx;rcases hx with hx|rfl
      ·exact aDE x hx
      exact hls
     simp only[WkL,aB,jH,jI,jJ,cgs,go_sem,reduceIte,jA,jB,jC,jD,reduceCtorEq,jE,jF]
    |false=>
     rw[hls] at hsp
     (repeat' (first|(with_reducible first|refine stp ?_|refine bG ZM ?_|refine iI (fun _=>?_) (fun _=>?_))|((first|(with_reducible refine fO ?_;first|refine eH rfl ?_ ?_|refine Zx ?_)|(with_reducible refine fP ?_;first|refine bY rfl ?_ ?_|refine bJ (hsp _) rfl (bK _) ?_|refine ZX ?_)|refine Zy ?_)<;>try simp only[aGr,hga,hg,hal,hlt,hwa,jK,jG,go_sem,reduceIte,jA,jB,jC,jD,reduceCtorEq,jE,jF])|refine ZY ?_|omega))
     obtain⟨w1,w2⟩:=vI (fun y:Cg=>y.s.less l[i].s) (cS l i) a ha aDE (fun _=>hls);rw[←hQ3];refine dG ?_;refine cZ ?_;refine kK _ (kI ?_ (Kb _) (Km _)) (fin _ ZN w1 w2);simp only[WkL,aB,jH,jI,jJ,cgs,go_sem,reduceIte,jA,jB,jC,jD,reduceCtorEq,jE,jF]
   have aGr:decide ((a:Int)<((cS l i).length:Int))=false:=decide_eq_false or
   (repeat' (first|(with_reducible first|refine stp ?_|refine bG ZM ?_|refine iI (fun _=>?_) (fun _=>?_))|((first|(with_reducible refine fO ?_;first|refine eH rfl ?_ ?_|refine Zx ?_)|(with_reducible refine fP ?_;first|refine bY rfl ?_ ?_|refine ZX ?_)|refine Zy ?_)<;>try simp only[aGr,hg,hlt,jK,jG,go_sem,reduceIte,jA,jB,jC,jD,reduceCtorEq,jE,jF])|refine ZY ?_|omega))
   obtain⟨w1,w2⟩:=vI (fun y:Cg=>y.s.less l[i].s) (cS l i) a ha aDE (fun h=>absurd h or);rw[←hQ3];refine dG ?_;refine cZ ?_;refine kK _ (kI ?_ (Kb _) (Km _)) (fin _ ZN w1 w2);simp only[WkL,aB,jH,jI,jJ,cgs,go_sem,reduceIte,jA,jB,jC,jD,reduceCtorEq,jE,jF]
 have hc:decide ((i:Int)<(l.length:Int))=false:=decide_eq_false or;have hil:i=l.length:=or
 (repeat' (first|(with_reducible first|refine stp ?_|refine bG ZM ?_|refine iI (fun _=>?_) (fun _=>?_))|((first|(with_reducible refine fO ?_;first|refine eH rfl ?_ ?_|refine Zx ?_)|(with_reducible refine fP ?_;first|refine bY rfl ?_ ?_|refine ZX ?_)|refine Zy ?_)<;>try simp only[hc,jK,go_sem,reduceIte,jA,jB,jC,jD,reduceCtorEq,jE,jF])|refine ZY ?_|omega))
 rw[←hQ]
 (repeat' (first|(with_reducible first|refine stp ?_|refine bG ZM ?_|refine iI (fun _=>?_) (fun _=>?_))|((first|(with_reducible refine fO ?_;first|refine eH rfl ?_ ?_|refine Zx ?_)|(with_reducible refine fP ?_;first|refine bY rfl ?_ ?_|refine ZX ?_)|refine Zy ?_)<;>try simp only[ go_sem,reduceIte,jA,jB,jC,jD,reduceCtorEq,jE,jF])|refine ZY ?_|omega))
 subst hil;refine aG h' (hsm.le hd (Kb _)) ⟨?_,Kb _⟩;refine Zn ?_;rw[aAl.loose];rfl
end Go.Proofs.YtecepaehmojpgaaGreat
