/-
Texts of this proof,one behind the other. No conditions.
-/
import Derived.Test.YtecepaehmojpgaaGreatKl
import Derived.Test.YtecepaehmojpgaaGreatKd
import Derived.Test.YtecepaehmojpgaaGreatKe
import Derived.Test.YtecepaehmojpgaaGreatKf
open Go.Proofs.YtecepaehmojpgaaGreat.V renaming undef→Ka
open Go.Proofs.YtecepaehmojpgaaGreat.Hp renaming le_refl→Kb,none→Ki
open List renaming getD_eq_getElem?_getD→Kc,getElem?_eq_getElem→Kd,take_succ_eq_append_getElem→Ke,mem_append→Kf,getElem_mem→Kg,mem_singleton→Kh,map_cons→Kj,getElem?_map→Km,mem_map→Ko,length_append→Kp,findIdx?_cons→Kq,getElem_cons_succ→Ks,take_of_length_le→Kt,takeWhile_append_dropWhile→Ku,getElem_set→Kv,set_getElem_self→Kw,mem_iff_getElem→Kx,map_append→Kz,find?_eq_none→KD,pairwise_cons→KE,findIdx?_eq_none_iff→KF,length_cons→KG,map_nil→KI,map_set→KJ,nodup_cons→KK,find?_cons→KL,eraseIdx_sublist→KM,mem_cons→KO,takeWhile_cons→KP,dropWhile_cons→KQ,getD_cons_succ→KT,getD_cons_zero→KU,nodup_append→KW,cons_append→KY,ext_getElem→KZ,getElem_map→Qa,length_take→Qd,length_drop→Qe,foldl_cons→Qg,nil_append→Qh
open Nat renaming le_refl→Kk,lt_or_ge→KC,min_eq_right→KH,zero_le→KN,reduceAdd→KR,reduceSub→KS,reduceLeDiff→Qb,reduceEqDiff→Qc,min_eq_left→Qj,reduceLT→Qk
open Bool renaming eq_iff_iff→Ky,false_eq_true→KV,and_eq_true→KX,or_eq_true→Qf
open Go.IntKind renaming wrap→KB
open Int renaming reduceToNat→Qi
set_option linter.unusedSimpArgs false
set_option linter.unusedVariables false
set_option linter.unusedSectionVars false
set_option maxHeartbeats 8000000
open Nat renaming reduceAdd→jA,reduceSub→jB,reduceLT→jC,reduceLeDiff→jD,reduceEqDiff→jE
open Int renaming reduceToNat→jF,toNat_natCast→jG,natCast_add→jH,natCast_one→jI,natCast_zero→jJ
open List renaming length_map→jK,length_cons→jL,length_nil→jM,replicate_succ→jN,replicate_zero→jO,cons_append→jP,nil_append→jQ
namespace Go.Proofs.YtecepaehmojpgaaGreat
open Go.RowKit Go.Sort
structure Sp where
 p:Int
 t:Tm
 deriving DecidableEq,Inhabited
structure Cg where
 s:Sp
 d:Int
 deriving DecidableEq,Inhabited
def Sp.less(a b:Sp):Bool:=decide (a.p<b.p)||(decide (a.p=b.p)&&a.t.less b.t)
theorem Sp.aAd(a:Sp):a.less a=false:=by simp[Sp.less,Tm.aAd]
theorem Sp.aAu(a b:Sp)(h1:a.less b=false)(h2:b.less a=false):a=b:=by
 simp only[Sp.less,Bool.or_eq_false_iff,decide_eq_false_iff_not,Bool.and_eq_false_iff] at h1 h2;have hp:a.p=b.p:=or;have ht:a.t=b.t:=Tm.aAu _ _ (h1.2.resolve_left (fun h=>h hp)) (h2.2.resolve_left (fun h=>h hp.symm));cases a;cases b;simp_all
theorem Sp.aAk{a b c:Sp}(h1:a.less b=true)(h2:b.less c=true):a.less c=true:=by
 simp only[Sp.less,Qf,decide_eq_true_eq,KX] at h1 h2⊢;rcases h1 with h1|⟨h1,h1'⟩<;>rcases h2 with h2|⟨h2,h2'⟩
 ·left;omega
 ·left;omega
 ·left;omega
 right;exact⟨or,Tm.aAk h1' h2'⟩
def tot(l:List Cg)(s:Sp):Int:=l.foldl (fun n x=>if x.s=s then IntKind.i64.wrap (n+x.d) else n) 0
theorem Er(s:Sp):tot [] s=0:=rfl
theorem CY(l:List Cg)(x:Cg)(s:Sp):tot (l++[x]) s=if x.s=s then IntKind.i64.wrap (tot l s+x.d) else tot l s:=by simp[tot,List.foldl_append]
theorem C0{l:List Cg}{s:Sp}(h:∀x∈l,x.s≠s):tot l s=0:=by
 unfold tot;have:∀(l:List Cg) (n:Int),(∀x∈l,x.s≠s)→l.foldl (fun n x=>if x.s=s then IntKind.i64.wrap (n+x.d) else n) n=n:=by
  intro l;induction l with
  |nil=>intro n _;rfl
  |cons x l ih=>
   intro n h;rw[Qg,if_neg (h x Zm)];exact ih n fun y hy=>h y (by simp[hy])
 exact this l 0 h
def AV(f:Sp→Int)(W:List Cg):Prop:=W.Pairwise (fun a b=>a.s.less b.s=true)∧∀x,x∈W↔(x.d=f x.s∧x.d≠0)
theorem bz{f:Sp→Int}{a b:List Cg}(ha:AV f a)(hb:AV f b):a=b:=by
 have nd:∀{l:List Cg},l.Pairwise (fun a b=>a.s.less b.s=true)→l.Nodup:=fun hl=>hl.imp (fun{x y} hxy e=>by subst e;rw[Sp.aAd] at hxy;cases hxy);refine List.Perm.eq_of_pairwise (le:=fun(u v:Cg)=>u.s.less v.s=true) (fun x y _ _ h1 h2=>?_) ha.1 hb.1 ((List.perm_ext_iff_of_nodup (nd ha.1) (nd hb.1)).2 fun x=>by rw[ha.2,hb.2]);have:=Sp.aAk h1 h2;rw[Sp.aAd] at this;cases this
theorem AV.get{f:Sp→Int}{W:List Cg}(h:AV f W)(s:Sp):((W.find? fun x=>decide (x.s=s)).map (·.d)).getD 0=f s:=by
 cases hf:W.find? fun x=>decide (x.s=s) with
 |none=>
  have hn:=KD.1 hf;by_cases h0:f s=0
  ·simp[h0]
  exact absurd ((h.2 ⟨s,f s⟩).2 ⟨rfl,h0⟩) (fun hm=>by simpa using hn _ hm)
 |some x=>
  have hx:=List.find?_some hf;have hm:=List.mem_of_find?_eq_some hf;have hs:x.s=s:=by simpa using hx
  have:=((h.2 x).1 hm).1;simp[this,hs]
def oX(l:List Cg)(i:Nat):Bool:=(l.take i).all fun x=>decide (x.s≠(l.getD i default).s)
def kz(out:List Cg)(x:Cg):List Cg:=out.takeWhile (fun y=>y.s.less x.s)++x::out.dropWhile (fun y=>y.s.less x.s)
def cX(l:List Cg):Nat→List Cg
 |0=>[]
 |i+1=>if oX l i=true∧tot l (l.getD i default).s≠0 then kz (cX l i) ⟨(l.getD i default).s,tot l (l.getD i default).s⟩ else cX l i
def vJ(l:List Cg):List Cg:=cX l l.length
theorem wu(out:List Cg)(t x:Cg):x∈kz out t↔x=t∨x∈out:=by
 unfold kz;conv=>rhs;rw[←Ku (p:=fun y:Cg=>y.s.less t.s) (l:=out)]
 simp only[Kf,KO];constructor
 ·rintro(h|h|h)<;>simp[h]
 rintro(h|h|h)<;>simp[h]
theorem Dx(out:List Cg)(t:Cg):(kz out t).length=out.length+1:=by
 have:=congrArg List.length (Ku (p:=fun y:Cg=>y.s.less t.s) (l:=out));simp only[Kp] at this;simp only[kz,Kp,KG];omega
theorem wt{out:List Cg}{t:Cg}(hs:out.Pairwise fun a b=>a.s.less b.s=true)(hn:∀y∈out,y.s≠t.s):(kz out t).Pairwise fun a b=>a.s.less b.s=true:=by
 induction out with
 |nil=>simp[kz]
 |cons a out ih=>
  have hs':=KE.1 hs;have ih:=ih hs'.2 fun y hy=>hn y (by simp[hy]);unfold kz;cases ha:a.s.less t.s with
  |true=>
   simp only[KP,KQ,ha,if_true,KY];refine KE.2 ⟨fun y hy=>?_,ih⟩;rcases(wu out t y).1 hy with rfl|hy
   ·exact ha
   exact hs'.1 y hy
  |false=>
   simp only[KP,KQ,ha,KV,if_false,Qh];have hta:t.s.less a.s=true:=by
    cases h:t.s.less a.s with
    |true=>rfl
    |false=>exact absurd (Sp.aAu _ _ h ha).symm (hn a Zm)
   refine KE.2 ⟨fun y hy=>?_,hs⟩;rcases KO.1 hy with rfl|hy
   ·exact hta
   exact Sp.aAk hta (hs'.1 y hy)
theorem mz(l:List Cg):∀i,i≤l.length→(cX l i).Pairwise (fun a b=>a.s.less b.s=true)∧∀x,x∈cX l i↔((∃y∈l.take i,y.s=x.s)∧x.d=tot l x.s∧x.d≠0)
 |0,_=>⟨by simp[cX],fun x=>by simp[cX]⟩
 |i+1,hi=>by
  obtain⟨h1,h2⟩:=mz l i or;have hlt:i<l.length:=hi;have hg:l.getD i default=l[i]:=by rw[Kc,Kd hlt];rfl
  have htk:l.take (i+1)=l.take i++[l[i]]:=Ke hlt;unfold cX;rw[hg];split
  ·rename_i hc;obtain⟨hf,ht⟩:=hc;have hf':∀x∈l.take i,x.s≠l[i].s:=by
    unfold oX at hf;rw[hg,List.all_eq_true] at hf;exact fun x hx=>by simpa using hf x hx
   refine⟨wt h1 fun y hy=>?_,fun x=>?_⟩
   ·obtain⟨⟨z,hz,hzs⟩,_⟩:=(h2 y).1 hy;rw[←hzs];exact hf' z hz
   rw[wu,h2,htk];constructor
   ·rintro(rfl|⟨⟨y,hy,hys⟩,h3⟩)
    ·exact⟨⟨l[i],Kf.2 (.inr (Kh.2 rfl)),rfl⟩,rfl,ht⟩
    exact⟨⟨y,Kf.2 (.inl hy),hys⟩,h3⟩
   rintro⟨⟨y,hy,hys⟩,h3,h4⟩;rcases Kf.1 hy with hy|hy
   ·exact .inr ⟨⟨y,hy,hys⟩,h3,h4⟩
   left;have:y=l[i]:=by simpa using hy
   subst this;cases x;simp only at hys h3;subst hys;rw[h3]
  rename_i hc;refine⟨h1,fun x=>?_⟩;rw[h2,htk];constructor
  ·rintro⟨⟨y,hy,hys⟩,h3⟩;exact⟨⟨y,Kf.2 (.inl hy),hys⟩,h3⟩
  rintro⟨⟨y,hy,hys⟩,h3,h4⟩;refine⟨?_,h3,h4⟩;rcases Kf.1 hy with hy|hy
  ·exact⟨y,hy,hys⟩
  have:y=l[i]:=by simpa using hy
  subst this;by_cases hf:oX l i=true
  ·exact absurd ⟨hf,by rw[hys,←h3];exact h4⟩ hc
  have hf2:(oX l i)=false:=by simpa using hf
  unfold oX at hf2;rw[hg,List.all_eq_false] at hf2;obtain⟨z,hz,hzs⟩:=hf2
  exact⟨z,hz,by have:z.s=l[i].s:=by simpa using hzs
                rw[this,hys]⟩
theorem yY(l:List Cg):∀i,(cX l i).length≤i
 |0=>by simp[cX]
 |i+1=>by
  have:=yY l i;unfold cX;split
  ·rw[Dx];omega
  omega
theorem C9(l:List Cg):(vJ l).length≤l.length:=yY l _
theorem fg(l:List Cg):AV (tot l) (vJ l):=by
 obtain⟨h1,h2⟩:=mz l l.length (Kk _);refine⟨h1,fun x=>?_⟩;rw[show vJ l=cX l l.length from rfl,h2,List.take_length];constructor
 ·exact fun h=>h.2
 intro h;refine⟨?_,h⟩;apply Classical.byContradiction;intro hn;exact h.2 (by rw[h.1];exact C0 fun y hy e=>hn ⟨y,hy,e⟩)
structure CE where
 s:Sp
 n:Int
 b:Nat
 deriving DecidableEq,Inhabited
def cZ(l:List CE)(s:Sp):Int:=((l.find? fun x=>decide (x.s=s)).map (·.n)).getD 0
structure eO(l:List CE)(c:Nat):Prop where
 key:(l.map (·.s)).Nodup
 num:(l.map (·.b)).Nodup
 lt:∀x∈l,x.b<c
 nz:∀x∈l,x.n≠0
theorem pa(c:Nat):eO [] c:=⟨Zm,Zm,Zm,Zm⟩
theorem gT{l:List CE}(hk:(l.map (·.s)).Nodup){x:CE}(hx:x∈l):cZ l x.s=x.n:=by
 induction l with
 |nil=>simp at hx
 |cons y l ih=>
  simp only[Kj,KK] at hk;unfold cZ;rw[KL];rcases KO.1 hx with rfl|hx
  ·simp
  have hne:y.s≠x.s:=fun e=>hk.1 (e▸List.mem_map_of_mem hx);simp only[decide_eq_false hne];exact ih hk.2 hx
theorem iP{l:List CE}{s:Sp}(h:∀x∈l,x.s≠s):cZ l s=0:=by
 unfold cZ;rw[KD.2 (fun x hx=>by simpa using h x hx)];rfl
def pS(a b:Sp):Int:=orI [lO a.p b.p,nX a.t b.t]
theorem DZ(a b:Sp):pS a b<0↔a.less b=true:=by
 have h1:=pT.1 a.p b.p;have h2:=pT.2 a.p b.p;have h3:=Bs a.t b.t;have e:pS a b=if lO a.p b.p=0 then (if nX a.t b.t=0 then 0 else nX a.t b.t) else lO a.p b.p:=rfl
 rw[e];simp only[Sp.less,Tm.less,Qf,decide_eq_true_eq,KX];split
 ·rename_i h0;have:=h2.1 h0;split
  ·omega
  rw[h3];omega
 rename_i h0;have:a.p≠b.p:=fun e=>h0 (h2.2 e);rw[h1];omega
theorem nF(a b:Sp):ltOf pS a b=a.less b:=by
 unfold ltOf;rw[Ky];simp[DZ]
theorem my:SWO (ltOf pS):=by
 refine⟨fun x=>?_,fun x y z=>?_,fun x y z=>?_⟩
 ·rw[nF];exact Sp.aAd x
 ·simp only[nF];exact Sp.aAk
 simp only[nF];intro h1 h2;cases h:x.less z with
 |false=>rfl
 |true=>
  exfalso;cases hxy:y.less x with
  |true=>have:=Sp.aAk hxy h;rw[this] at h2;cases h2
  |false=>
   have:=Sp.aAu _ _ h1 hxy;subst this;rw[h] at h2;cases h2
theorem BB(x y:Sp)(h1:ltOf pS x y=false)(h2:ltOf pS y x=false):x=y:=by
 rw[nF] at h1 h2;exact Sp.aAu x y h1 h2
theorem zi{l:List CE}{c:Nat}(h:eO l c):AV (cZ l) ((dU pS (l.map (·.s))).map fun s=>⟨s,cZ l s⟩):=by
 have hp:=dX pS (l.map (·.s));refine⟨?_,fun x=>?_⟩
 ·rw[List.pairwise_map];have hs:=gU my (l.map (·.s));have hnd:(dU pS (l.map (·.s))).Nodup:=hp.symm.nodup h.key;have hb:=List.pairwise_and_iff.2 ⟨hs,hnd⟩;refine hb.imp fun{a b} hab=>?_;have h1:=hab.1;rw[nF] at h1;cases hl:a.less b with
  |true=>rfl
  |false=>exact absurd (Sp.aAu _ _ hl h1) hab.2
 rw[Ko];constructor
 ·rintro⟨s,hs,rfl⟩;obtain⟨y,hy,rfl⟩:=Ko.1 (hp.mem_iff.1 hs);exact⟨rfl,by rw[gT h.key hy];exact h.nz y hy⟩
 rintro⟨h1,h2⟩;refine⟨x.s,hp.mem_iff.2 ?_,by cases x;simp_all⟩;apply Classical.byContradiction;intro hn;exact h2 (by rw[h1];exact iP fun y hy e=>hn (Ko.2 ⟨y,hy,e⟩))
end Go.Proofs.YtecepaehmojpgaaGreat
namespace Go.Proofs.YtecepaehmojpgaaGreat
open Go.RowKit
def Sp.v(s:Sp):V:= .agg [.int .i64 s.p, .int .i64 s.t.e, .int .i64 s.t.r]
def Cg.v(x:Cg):V:= .agg [.int .i64 x.s.p, .int .i64 x.s.t.e, .int .i64 x.s.t.r, .int .i64 x.d]
def CE.me(x:CE):ME:=⟨x.s.v, .int .i64 x.n,x.b⟩
theorem Sp.aAC(s:Sp):s.v.fits (.agg 3)=true:=rfl
theorem Cg.aAC(s:Cg):s.v.fits (.agg 4)=true:=rfl
theorem yV(a b:Sp):veq (.plain (.agg 3) [.int, .int, .int]) a.v b.v=some (decide (a=b)):=by
 obtain⟨p,e,r⟩:=a;obtain⟨p',e',r'⟩:=b;have h:veq (.plain (.agg 3) [.int, .int, .int]) (Sp.v ⟨p,e,r⟩) (Sp.v ⟨p',e',r'⟩)=some ((p==p')&&((e==e')&&(r==r'))):=rfl;rw[h];congr 1;rw[Ky];simp
theorem kT(s:Sp):∀l:List CE,fA (.plain (.agg 3) [.int, .int, .int]) s.v (l.map CE.me)=some (l.findIdx? fun x=>decide (x.s=s))
 | []=>rfl
 |x::l=>by
  rw[Kj,fA,Kq];simp only[CE.me,yV];by_cases h:s=x.s
  ·simp[h]
  have h':¬x.s=s:=fun e=>h e.symm;have ih:=kT s l;simp[h,h',ih]
def Fv(l:List CE)(c:Nat)(s:Sp):List CE×Nat×Nat:=match l.findIdx? (fun x=>decide (x.s=s)) with
 |some j=>(l,j,c)
 |none=>(l++[⟨s,0,c⟩],l.length,c+1)
def yN(l:List CE)(c:Nat)(s:Sp)(d:Int):List CE×Nat:=
 let (l1,j,c1):=Fv l c s
 let n:=IntKind.i64.wrap (cZ l s+d)
 if n=0 then (l1.eraseIdx j,c1) else (l1.set j ⟨s,n,(l1.getD j default).b⟩,c1)
theorem dh{α:Type}{p:α→Bool}{l:List α}{j:Nat}(h:l.findIdx? p=some j):∃hj:j<l.length,p l[j]=true∧l.find? p=some l[j]:=by
 induction l generalizing j with
 |nil=>simp at h
 |cons a l ih=>
  rw[Kq] at h;by_cases ha:p a=true
  ·rw[if_pos ha] at h;injection h with h;subst h;exact⟨Zm,ha,by simp[KL,ha]⟩
  rw[if_neg ha] at h;obtain⟨j',h',rfl⟩:=Option.map_eq_some_iff.1 h;obtain⟨h1,h2,h3⟩:=ih h';refine⟨by simpa using h1,by simpa using h2,?_⟩;rw[KL];simp only[Bool.not_eq_true] at ha;simp only[ha];simpa using h3
theorem pu{l:List CE}{c:Nat}(h:eO l c)(s:Sp):∃l1 j c1,Fv l c s=(l1,j,c1)∧∃hj:j<l1.length,l1[j].s=s∧l1[j].n=cZ l s∧(l1.map (·.s)).Nodup∧(l1.map (·.b)).Nodup∧(∀x∈l1,x.b<c1)∧c≤c1∧(∀x∈l1,x.n≠0∨x.s=s)∧
 ((l.findIdx? (fun x=>decide (x.s=s))=some j∧l1=l∧c1=c)∨(l.findIdx? (fun x=>decide (x.s=s))=none∧l1=l++[⟨s,0,c⟩]∧j=l.length∧c1=c+1∧cZ l s=0))∧(∀t,t≠s→cZ l1 t=cZ l t):=by
 unfold Fv;cases hf:l.findIdx? (fun x=>decide (x.s=s)) with
 |some j=>
  obtain⟨hj,h1,h2⟩:=dh hf;refine⟨l,j,c,rfl,hj,by simpa using h1,?_,h.key,h.num,h.lt,Kk _,fun x hx=> .inl (h.nz x hx), .inl ⟨rfl,rfl,rfl⟩,fun _ _=>rfl⟩;unfold cZ;rw[h2];rfl
 |none=>
  have hn:∀x∈l,x.s≠s:=by
   intro x hx;have:=KF.1 hf x hx;simpa using this
  have h0:cZ l s=0:=iP hn;refine⟨_,_,_,rfl,Zm,Zm,by simp[h0],?_,?_,?_,Nat.le_succ _,?_, .inr ⟨rfl,rfl,rfl,rfl,h0⟩,?_⟩
  ·rw[Kz,KW];refine⟨h.key,Zm,fun a ha b hb hab=>?_⟩;obtain⟨x,hx,rfl⟩:=Ko.1 ha;simp only[Kj,KI,Kh] at hb;exact hn x hx (hab.trans hb)
  ·rw[Kz,KW];refine⟨h.num,Zm,fun a ha b hb hab=>?_⟩;obtain⟨x,hx,rfl⟩:=Ko.1 ha;simp only[Kj,KI,Kh] at hb;have:=h.lt x hx;omega
  ·intro x hx;rcases Kf.1 hx with hx|hx
   ·have:=h.lt x hx;omega
   rw[Kh.1 hx];exact Nat.lt_succ_self _
  ·intro x hx;rcases Kf.1 hx with hx|hx
   ·exact .inl (h.nz x hx)
   rw[Kh.1 hx];exact .inr rfl
  intro t ht;unfold cZ;rw[List.find?_append];cases l.find? (fun x=>decide (x.s=t)) with
  |some x=>rfl
  |none=>
   have:¬s=t:=fun e=>ht e.symm;simp[this]
theorem Ft{l:List CE}(hn:(l.map (·.b)).Nodup){j:Nat}(hj:j<l.length):(l.map CE.me).findIdx? (fun e=>((e.b:Nat):Int)==(l[j].b:Int))=some j:=by
 induction l generalizing j with
 |nil=>simp at hj
 |cons a l ih=>
  rw[Kj,KK] at hn;rw[Kj,Kq];cases j with
  |zero=>simp[CE.me]
  |succ j=>
   have hj':j<l.length:=by simpa using hj
   have hne:¬a.b=l[j].b:=fun e=>hn.1 (Ko.2 ⟨l[j],Kg _,e.symm⟩);have hb:(((CE.me a).b:Int)==(((a::l)[j+1]).b:Int))=false:=by
    simp only[Ks,CE.me,beq_eq_false_iff_ne,ne_eq];omega
   rw[hb];have:=ih hn.2 hj';simp only[Ks];rw[this];rfl
theorem tI(l:List CE)(s:Sp):rK false (.int .i64 0) (l.map CE.me) (l.findIdx? fun x=>decide (x.s=s))= .int .i64 (cZ l s):=by
 cases hf:l.findIdx? (fun x=>decide (x.s=s)) with
 |none=>
  have hn:∀x∈l,x.s≠s:=fun x hx=>by simpa using KF.1 hf x hx
  rw[iP hn];rfl
 |some j=>
  obtain⟨hj,h1,h2⟩:=dh hf;have:(l.map CE.me).getD j default=CE.me l[j]:=by rw[Kc,Km,Kd hj];rfl
  simp only[rK,this];unfold cZ;rw[h2];rfl
theorem iw{l:List CE}(hk:(l.map (·.s)).Nodup){j:Nat}(hj:j<l.length):l.findIdx? (fun x=>decide (x.s=l[j].s))=some j:=by
 induction l generalizing j with
 |nil=>simp at hj
 |cons a l ih=>
  rw[Kj,KK] at hk;rw[Kq];cases j with
  |zero=>simp
  |succ j=>
   have hj':j<l.length:=by simpa using hj
   have hne:¬a.s=l[j].s:=fun e=>hk.1 (Ko.2 ⟨l[j],Kg _,e.symm⟩);have:=ih hk.2 hj';simp only[Ks,hne,decide_false,KV,if_false,this];rfl
theorem zn{l:List CE}{j:Nat}(hj:j<l.length):(l.map CE.me).set j ⟨l[j].s.v,((l.map CE.me).getD j default).v,((l.map CE.me).getD j default).b⟩=l.map CE.me:=by
 have:(l.map CE.me).getD j default=CE.me l[j]:=by rw[Kc,Km,Kd hj];rfl
 rw[this];apply KZ
 ·simp
 intro i h1 h2;rw[Kv];split
 ·rename_i e;subst e;rw[Qa];rfl
 rfl
theorem Eu{l:List CE}{j:Nat}(hj:j<l.length){s:Sp}(hs:l[j].s=s)(n:Int):(l.map CE.me).set j ⟨((l.map CE.me).getD j default).k, .int .i64 n,((l.map CE.me).getD j default).b⟩=(l.set j ⟨s,n,l[j].b⟩).map CE.me:=by
 have:(l.map CE.me).getD j default=CE.me l[j]:=by rw[Kc,Km,Kd hj];rfl
 rw[this,KJ];simp only[CE.me,hs]
theorem Hp.set_set(h:Hp)(n:Nat)(a b:Blk):(h.set n a).set n b=h.set n b:=by
 funext m;simp only[Hp.set];split<;>rfl
theorem Hp.set_comm(h:Hp){n m:Nat}(hne:n≠m)(a b:Blk):(h.set n a).set m b=(h.set m b).set n a:=by
 funext q;simp only[Hp.set];split
 ·rename_i e;subst e;rw[if_neg (fun e=>hne e.symm)]
 rfl
attribute [local irreducible] KB
set_option maxRecDepth 100000 in
theorem Ed(l:List CE)(c:Nat)(h:eO l c)(s:Sp)(d:Int)(m:Nat)(h':Hp)(nx:Nat)(hm:h' m=some (.mp (l.map CE.me) c)):
 bD Tryz.prog 71 [.map m,s.v, .int .i64 d] h' nx fun v h'' _=>h''=h'.set m (.mp ((yN l c s d).1.map CE.me) (yN l c s d).2):=by
 refine aF L.aX7 fun hd=>?_;simp only[KG,List.length_nil,KR,KS,List.replicate_succ,List.replicate_zero,KY,Qh,Ka];obtain⟨l1,j,c1,he,hj,hjs,hjn,hk1,hb1,aEo,hcc,aOV,aEx,aGR⟩:=pu h s;have hmn:m<nx:=hd _ _ hm;have hsf:=Sp.aAC s;have ha:yN l c s d=if IntKind.i64.wrap (cZ l s+d)=0 then (l1.eraseIdx j,c1) else (l1.set j ⟨s,IntKind.i64.wrap (cZ l s+d),(l1.getD j default).b⟩,c1):=by
  unfold yN;rw[he]
 have hgj:l1.getD j default=l1[j]:=by rw[Kc,Kd hj];rfl
 rw[hgj] at ha;have hg1:cZ l1 s=cZ l s:=by rw[←hjn,←hjs];exact gT hk1 (Kg _)
 refine bI (bL ?_);refine eU rfl (by simp only[hsf,go_sem,reduceIte,KR,KS,Qk,Qb,reduceCtorEq,Qc,Qi];try omega) ?_;simp only[hsf,go_sem,reduceIte,KR,KS,Qk,Qb,reduceCtorEq,Qc,Qi];refine aM (bI (pJ ?_));obtain⟨n,hn⟩:∃n,n=IntKind.i64.wrap (cZ l s+d):=⟨_,rfl⟩;obtain⟨H0,hH0⟩:∃H0,H0=h'.set nx (.arr (.agg 3) [s.v]):=⟨_,rfl⟩;obtain⟨F,hF⟩:∃F:(Nat→Bool)→List V,∀D,F D=[.map m,s.v, .int .i64 d, .tup [], .ptr nx (.agg 3) 0 0, .tup [],if D 0=true then .map m else .tup [],if D 1=true then s.v else .tup [],if D 2=true then .int .i64 (cZ l s) else .tup [],if D 3=true then .int .i64 d else .tup [],if D 4=true then .int .i64 n else .tup [],
  if D 5=true then .tup [.int .i64 (cZ l s), .int .i64 l1[j].b] else .tup [],if D 6=true then .int .i64 l1[j].b else .tup [], .tup [], .tup [], .tup [], .tup [], .tup [], .tup []]:=⟨_,fun _=>rfl⟩
 obtain⟨H,hH⟩:∃H:(Nat→Bool)→Hp,∀D,H D=if D 7=true then H0.set m (.mp ((l1.set j ⟨s,n,l1[j].b⟩).map CE.me) c1) else if D 5=true then H0.set m (.mp (l1.map CE.me) c1) else H0:=⟨_,fun _=>rfl⟩
 refine⟨fun D s'=>∃nx',s'=⟨F D,H D,nx'⟩∧nx+1≤nx',⟨nx+1,by simp[hF,hH,hH0],Kk _⟩,?_,?_⟩
 ·rintro D i o aAR s' hi hDi aAZ hcl ⟨nx',rfl,hnx⟩;have hne:nx≠m:=or;have aAg:H D nx=some (.arr (.agg 3) [s.v]):=by
   rw[hH,hH0];split
   ·simp[Hp.set,hne]
   split<;>simp[Hp.set,hne]
  have h7:D 7=true→D 0=true∧D 1=true∧D 2=true∧D 3=true∧D 4=true∧D 5=true∧D 6=true:=fun h=>by
   have:=hcl 7 _ _ rfl h;exact⟨this 0 ZM,this 1 ZM,this 2 ZM,this 3 ZM,this 4 ZM,this 5 ZM,this 6 ZM⟩
  rcases i with _|_|_|_|_|_|_|_|i;all_goals first|(injection hi with hi;injection hi with q1 q2;subst q1;subst q2)|skip
  ·simp[bF,LOp.run,bR.sem,aP.ev,bQ,Ka,hF,hH,hnx]
  ·simp[bF,LOp.run,bR.sem,aP.ev,bQ,Ka,hF,aAg,gF,(rfl:cK (.agg 3) 0 s.v=s.v),V.fits,hnx];simp[hH];first|omega|exact hnx|exact⟨_,rfl,hnx⟩|exact⟨_,⟨rfl,rfl⟩,hnx⟩
  ·have d0:=aAZ 0 ZM;have d1:=aAZ 1 ZM;have d7:D 7=false:=by
    cases h:D 7 with
    |false=>rfl
    |true=>have:=(h7 h).2.2.1;rw[this] at hDi;cases hDi
   cases h5:D 5 with
   |true=>
    have hHm:H D m=some (.mp (l1.map CE.me) c1):=by rw[hH,if_neg (by simp[d7]),if_pos h5];simp[Hp.set]
    simp[bF,LOp.run,bR.sem,aP.ev,bQ,Ka,hF,d0,d1,hsf,hHm,kT,tI,hg1,hnx];simp[hH]<;>omega
   |false=>
    have hHm:H D m=some (.mp (l.map CE.me) c):=by rw[hH,if_neg (by simp[d7]),if_neg (by simp[h5]),hH0];simp[Hp.set,Ne.symm hne,hm]
    simp[bF,LOp.run,bR.sem,aP.ev,bQ,Ka,hF,d0,d1,hsf,hHm,kT,tI,hg1,hnx];simp[hH]<;>omega
  ·simp[bF,LOp.run,bR.sem,aP.ev,bQ,Ka,hF,hH,hnx]
  ·have d2:=aAZ 2 ZM;have d3:=aAZ 3 ZM;simp[bF,LOp.run,bR.sem,aP.ev,bQ,Ka,hF,d2,d3,Aw,←hn,hnx];simp[hH]<;>omega
  ·have d0:=aAZ 0 ZM;have d1:=aAZ 1 ZM;have d7:D 7=false:=by
    cases h:D 7 with
    |false=>rfl
    |true=>have:=(h7 h).2.2.2.2.2.1;rw[this] at hDi;cases hDi
   have hHm:H D m=some (.mp (l.map CE.me) c):=by rw[hH,if_neg (by simp[d7]),if_neg (by simp[hDi]),hH0];simp[Hp.set,Ne.symm hne,hm]
   have hHD:H D=H0:=by rw[hH,if_neg (by simp[d7]),if_neg (by simp[hDi])]
   have hgo:∀R:V→Hp→Prop,R (.tup [.int .i64 (cZ l s), .int .i64 l1[j].b]) (H0.set m (.mp (l1.map CE.me) c1))→(MOp.ent (.agg 3) [.int, .int, .int] (.int .i64 0) (.slot 6) (.slot 7)).sem (F D) (H D) nx' R:=by
    intro R hR;simp only[MOp.sem,aP.ev,hF,KT,KU,d0,d1,if_true,hsf,hHm,kT,true_and];rw[hHD];rcases aEx with⟨e1,rfl,rfl⟩|⟨e1,rfl,rfl,rfl,e0⟩
    ·simp only[e1];have hg:(l1.map CE.me).getD j default=CE.me l1[j]:=by rw[Kc,Km,Kd hj];rfl
     have:=zn hj;rw[hjs] at this;rw[this,hg];simp only[CE.me,hjn];exact hR
    simp only[e1];simp only[e0,Kz,Kj,KI] at hR;simpa [CE.me] using hR
   show(MOp.ent (.agg 3) [.int, .int, .int] (.int .i64 0) (.slot 6) (.slot 7)).sem (F D) (H D) nx' (fun v h'=>bF Tryz.prog [] _ ⟨bQ (F D) (some 11) v,h',nx'+1⟩);refine hgo _ ?_;simp[bF,bQ,hF,hH,d7]<;>omega
  ·have d5:=aAZ 5 ZM;simp[bF,LOp.run,bR.sem,aP.ev,bQ,Ka,hF,d5,hnx];simp[hH]<;>omega
  ·have d0:=aAZ 0 ZM;have d4:=aAZ 4 ZM;have d5:=aAZ 5 ZM;have d6:=aAZ 6 ZM;have hHD:H D=H0.set m (.mp (l1.map CE.me) c1):=by rw[hH,if_neg (by simp[hDi]),if_pos d5]
   have hHm:H D m=some (.mp (l1.map CE.me) c1):=by rw[hHD];simp[Hp.set]
   have hgo:∀R:V→Hp→Prop,R Ka (H0.set m (.mp ((l1.set j ⟨s,n,l1[j].b⟩).map CE.me) c1))→(MOp.est (.slot 6) (.slot 12) (.slot 10)).sem (F D) (H D) nx' R:=by
    intro R hR;simp only[MOp.sem,aP.ev,hF,KT,KU,d0,d4,d6,if_true,hHm];refine⟨j,Ft hb1 hj,?_⟩;rw[hHD,Hp.set_set,Eu hj hjs];exact hR
   show(MOp.est (.slot 6) (.slot 12) (.slot 10)).sem (F D) (H D) nx' (fun v h'=>bF Tryz.prog [] _ ⟨bQ (F D) none v,h',nx'+1⟩);refine hgo _ ?_;simp[bF,bQ,hF,hH]<;>omega
  simp[L.aHQ] at hi
 rintro D s' hD ⟨nx',rfl,hnx⟩;have dd:=fun i (h:i<8)=>hD i h;have hFD:F D=[.map m,s.v, .int .i64 d, .tup [], .ptr nx (.agg 3) 0 0, .tup [], .map m,s.v, .int .i64 (cZ l s), .int .i64 d, .int .i64 n, .tup [.int .i64 (cZ l s), .int .i64 l1[j].b], .int .i64 l1[j].b, .tup [], .tup [], .tup [], .tup [], .tup [], .tup []]:=by
  rw[hF];simp[dd 0,dd 1,dd 2,dd 3,dd 4,dd 5,dd 6]
 have hHD:H D=H0.set m (.mp ((l1.set j ⟨s,n,l1[j].b⟩).map CE.me) c1):=by rw[hH,if_pos (dd 7 ZM)]
 rw[hFD,hHD];obtain⟨l2,hl2⟩:∃l2,l2=l1.set j ⟨s,n,l1[j].b⟩:=⟨_,rfl⟩;rw[←hl2];have hj2:j<l2.length:=by rw[hl2];simpa using hj
 have hat:l2[j]=⟨s,n,l1[j].b⟩:=by simp[hl2]
 have hks:l2.map (·.s)=l1.map (·.s):=by
  rw[hl2,KJ];have:(l1.map (·.s)).set j s=(l1.map (·.s)).set j ((l1.map (·.s))[j]'(by simpa using hj)):=by simp[hjs]
  rw[this,Kw]
 have hk2:(l2.map (·.s)).Nodup:=by rw[hks];exact hk1
 have hg2:cZ l2 s=n:=by
  have:=gT hk2 (Kg hj2);rw[hat] at this;exact this
 have hf2:l2.findIdx? (fun x=>decide (x.s=s))=some j:=by
  have:=iw hk2 hj2;rw[hat] at this;exact this
 have hne:¬nx=m:=or;have aOY:¬m=nx:=or;have hb2:(H0.set m (.mp (l2.map CE.me) c1)) nx=some (.arr (.agg 3) [s.v]):=by rw[hH0];simp[Hp.set,hne]
 have hm2:(H0.set m (.mp (l2.map CE.me) c1)) m=some (.mp (l2.map CE.me) c1):=by simp[Hp.set]
 have hle:∀X:Blk,(h'.set m X).le (H0.set m X):=fun X=>by
  rw[hH0,Hp.set_comm _ hne];exact eV (Kb _) (by simp only[Hp.set];rw[if_neg hne];exact aI.none hd (Kk _)) _
 have aAT:∀X,(H0.set m (.mp (l2.map CE.me) c1)).set m X=H0.set m X:=fun X=>Hp.set_set _ _ _ _;have aVr:=hle (.mp (l2.map CE.me) c1);generalize H0.set m (.mp (l2.map CE.me) c1)=h2 at hb2 hm2 aAT aVr⊢;show nW _ _ cM.normal _;refine aM ?_;by_cases h0:n=0
 ·rw[if_pos (by rw[←hn];exact h0)] at ha;have hc0:(n==0)=true:=by simp[h0]
  rw[ha];have her:(l2.map CE.me).eraseIdx j=(l1.eraseIdx j).map CE.me:=by
   rw[hl2];apply KZ
   ·simp[List.length_eraseIdx]
   intro i h1 h2;simp only[List.getElem_eraseIdx,Kv,Qa];split
   ·rw[if_neg or]
   rw[if_neg or]
  refine aue (ee7 hb2 hm2 kT tI hg2 hc0 hsf) ?_;refine wd hsf rfl hm2 (by rw[show aP.ev _ _=s.v from rfl,kT,hf2]) ?_;rw[her,aAT];refine au ?_;exact⟨_,hle _,rfl⟩
 rw[if_neg (by rw[←hn];exact h0),←hn,←hl2] at ha;have hc0:(n==0)=false:=by simp[h0]
 rw[ha];refine aue (ee7 hb2 hm2 kT tI hg2 hc0 hsf) ?_;exact⟨_,aVr,rfl⟩
theorem o9{α:Type}{l:List α}{j:Nat}{x:α}:x∈l.eraseIdx j↔∃(i:Nat) (h:i<l.length),i≠j∧l[i]=x:=by
 rw[List.mem_eraseIdx_iff_getElem]
theorem Du{l:List CE}(hk:(l.map (·.s)).Nodup){i j:Nat}(hi:i<l.length)(hj:j<l.length)(h:l[i].s=l[j].s):i=j:=by
 have h1:=iw hk hi;have h2:=iw hk hj;rw[h,h2] at h1;injection h1 with h1;exact h1.symm
theorem EY{l:List CE}{c:Nat}(h:eO l c)(s:Sp)(d:Int):
 eO (yN l c s d).1 (yN l c s d).2∧(∀t,cZ (yN l c s d).1 t=if t=s then IntKind.i64.wrap (cZ l s+d) else cZ l t)∧(yN l c s d).1.length≤l.length+1:=by
 obtain⟨l1,j,c1,he,hj,hjs,hjn,hk1,hb1,aEo,hcc,aOV,aEx,aGR⟩:=pu h s;have hgj:l1.getD j default=l1[j]:=by rw[Kc,Kd hj];rfl
 have hlen:l1.length≤l.length+1:=by
  rcases aEx with⟨_,rfl,_⟩|⟨_,rfl,_⟩
  ·omega
  simp
 have ha:yN l c s d=if IntKind.i64.wrap (cZ l s+d)=0 then (l1.eraseIdx j,c1) else (l1.set j ⟨s,IntKind.i64.wrap (cZ l s+d),l1[j].b⟩,c1):=by
  unfold yN;rw[he];simp only[hgj]
 generalize IntKind.i64.wrap (cZ l s+d)=n at ha⊢;by_cases h0:n=0
 ·rw[if_pos h0] at ha;rw[ha];have aAw:∀{x},x∈l1.eraseIdx j→x∈l1∧x.s≠s:=by
   intro x hx;obtain⟨i,hi,hne,rfl⟩:=o9.1 hx;refine⟨Kg _,fun e=>hne (Du hk1 hi hj (e.trans hjs.symm))⟩
  have aGM:((l1.eraseIdx j).map (·.s)).Nodup:=(List.Sublist.map _ (KM _ _)).nodup hk1;refine⟨⟨aGM,(List.Sublist.map _ (KM _ _)).nodup hb1,fun x hx=>aEo x (aAw hx).1,fun x hx=>(aOV x (aAw hx).1).resolve_right (aAw hx).2⟩,fun t=>?_,?_⟩
  ·split
   ·rename_i e;subst e;rw[iP (fun x hx=>(aAw hx).2),h0]
   rename_i e;rw[←aGR t e];by_cases hex:∃x∈l1,x.s=t
   ·obtain⟨x,hx,rfl⟩:=hex;have hx':x∈l1.eraseIdx j:=by
     obtain⟨i,hi,rfl⟩:=Kx.1 hx;exact o9.2 ⟨i,hi,fun e2=>e (by subst e2;exact hjs),rfl⟩
    rw[gT aGM hx',gT hk1 hx]
   rw[iP (fun x hx e2=>hex ⟨x,(aAw hx).1,e2⟩),iP (fun x hx e2=>hex ⟨x,hx,e2⟩)]
  have:=List.length_eraseIdx_le l1 j;show(l1.eraseIdx j).length≤_;omega
 rw[if_neg h0] at ha;rw[ha];obtain⟨l2,hl2⟩:∃l2,l2=l1.set j ⟨s,n,l1[j].b⟩:=⟨_,rfl⟩;rw[←hl2];have hj2:j<l2.length:=by rw[hl2];simpa using hj
 have hat:l2[j]=⟨s,n,l1[j].b⟩:=by simp[hl2]
 have hks:l2.map (·.s)=l1.map (·.s):=by
  rw[hl2,KJ];have:(l1.map (·.s)).set j s=(l1.map (·.s)).set j ((l1.map (·.s))[j]'(by simpa using hj)):=by simp[hjs]
  rw[this,Kw]
 have hbs:l2.map (·.b)=l1.map (·.b):=by
  rw[hl2,KJ];have:(l1.map (·.b)).set j l1[j].b=(l1.map (·.b)).set j ((l1.map (·.b))[j]'(by simpa using hj)):=Zm;rw[this,Kw]
 have hk2:(l2.map (·.s)).Nodup:=by rw[hks];exact hk1
 have aAw:∀{x},x∈l2→x=⟨s,n,l1[j].b⟩∨(x∈l1∧x.s≠s):=by
  intro x hx;obtain⟨i,hi,rfl⟩:=Kx.1 hx;have hi1:i<l1.length:=by rw[hl2] at hi;simpa using hi
  by_cases e:i=j
  ·subst e;exact .inl hat
  right;have:l2[i]=l1[i]:=by simp[hl2,Kv,Ne.symm e]
  rw[this];exact⟨Kg _,fun e2=>e (Du hk1 hi1 hj (e2.trans hjs.symm))⟩
 refine⟨⟨hk2,by rw[hbs];exact hb1,fun x hx=>?_,fun x hx=>?_⟩,fun t=>?_,?_⟩
 ·rcases aAw hx with rfl|hx
  ·exact aEo l1[j] (Kg _)
  exact aEo x hx.1
 ·rcases aAw hx with rfl|hx
  ·exact h0
  exact(aOV x hx.1).resolve_right hx.2
 ·split
  ·rename_i e;subst e;have:=gT hk2 (Kg hj2);rw[hat] at this;exact this
  rename_i e;rw[←aGR t e];by_cases hex:∃x∈l1,x.s=t
  ·obtain⟨x,hx,rfl⟩:=hex;have hx':x∈l2:=by
    obtain⟨i,hi,rfl⟩:=Kx.1 hx;have hne:i≠j:=fun e2=>e (by subst e2;exact hjs);have:l2[i]'(by rw[hl2];simpa using hi)=l1[i]:=by simp[hl2,Kv,Ne.symm hne]
    rw[←this];exact Kg _
   rw[gT hk2 hx',gT hk1 hx]
  refine(iP fun x hx e2=>?_).trans (iP fun x hx e2=>hex ⟨x,hx,e2⟩).symm;rcases aAw hx with rfl|hx
  ·exact e e2.symm
  exact hex ⟨x,hx.1,e2⟩
 show l2.length≤_;rw[hl2,List.length_set];exact hlen
def eN:List CE→Nat→List Cg→List CE×Nat
 |l,c,[]=>(l,c)
 |l,c,x::r=>eN (yN l c x.s x.d).1 (yN l c x.s x.d).2 r
theorem cd(x:Cg):∀(r:List Cg) (l:List CE) (c:Nat),eN l c (r++[x])=yN (eN l c r).1 (eN l c r).2 x.s x.d
 | [],_,_=>rfl
 |y::r,l,c=>cd x r _ _
def qC(f:Sp→Int)(l:List Cg)(s:Sp):Int:=l.foldl (fun n x=>if x.s=s then IntKind.i64.wrap (n+x.d) else n) (f s)
theorem lQ:∀(r:List Cg) {l:List CE} {c:Nat},eO l c→eO (eN l c r).1 (eN l c r).2∧(∀t,cZ (eN l c r).1 t=qC (cZ l) r t)∧(eN l c r).1.length≤l.length+r.length
 | [],l,c,h=>⟨h,fun _=>rfl,by simp[eN]⟩
 |x::r,l,c,h=>by
  obtain⟨h1,h2,h3⟩:=EY h x.s x.d;obtain⟨q1,q2,q3⟩:=lQ r h1;refine⟨q1,fun t=>?_,?_⟩
  ·rw[eN,q2 t];unfold qC;rw[Qg,h2 t];congr 1;by_cases e:x.s=t
   ·subst e;simp
   rw[if_neg e,if_neg (fun e2=>e e2.symm)]
  rw[eN,KG];omega
end Go.Proofs.YtecepaehmojpgaaGreat
namespace Go.Proofs.YtecepaehmojpgaaGreat
open Go.RowKit
attribute [local irreducible] KB
theorem Sp.aAN(s:Sp)(L:Nat→Prop):s.v.names L:=by simp[Sp.v,V.names,bU]
theorem Cg.aAN(L:Nat→Prop)(s:Cg):s.v.names L:=by simp[Cg.v,V.names,bU]
def cgs(o:Own)(l:List Cg):V:= .sl (.agg 4) o (l.map Cg.v)
theorem yD(n:Int)(h:Hp):aY Tryz.prog 68 [.int .i64 n] h (.bool (decide (-1000000≤n)&&decide (n≤1000000))):=by
 refine aR (fun L=>trivial) fun h' nx hh=>aF L.aX8 fun hd=>?_;simp only[jL,jM,jA,jB,jN,jO,jP,jQ,Ka];by_cases h0:-1000000≤n
 all_goals
  have hc:=decide_eq_true h0
  (repeat' (first|(with_reducible first|refine stp ?_|refine bJ ZM ?_|refine iQ (fun _=>?_) (fun _=>?_))|((first|(with_reducible refine fV ?_;first|refine eJ rfl ?_ ?_|refine Zx ?_)|(with_reducible refine fW ?_;first|refine cB rfl ?_ ?_|refine ZX ?_)|refine Zy ?_)<;>try simp only[hc,go_sem,reduceIte,jA,jB,jC,jD,reduceCtorEq,jE,jF])|refine ZY ?_|omega))
  all_goals refine aG h' (by repeat (first|exact Kb _|refine aJ hd ?_ or _|refine aL hd ?_ or)) ⟨?_,rfl⟩
  all_goals ((try simp_all [hc])<;>(try omega))
theorem AI(a b:Sp):aY Tryz.prog 93 [a.v,b.v] Ki (.int .i64 (pS a b)):=by
 refine aR (fun L=>trivial) fun h' nx hh=>aF L.aXW fun hd=>?_;simp only[jL,jM,jA,jB,jN,jO,jP,jQ,Ka]
 (repeat' (first|(with_reducible first|refine stp ?_|refine bJ ZM ?_|refine iQ (fun _=>?_) (fun _=>?_))|((first|(with_reducible refine fV ?_;first|refine eJ rfl ?_ ?_|refine Zx ?_)|(with_reducible refine fW ?_;first|refine cB rfl ?_ ?_|refine bK (rB qM dc a.p b.p Ki) rfl (bM _) ?_|refine bK (qc a.t b.t) rfl (bM _) ?_|refine bK (zD zJ _ [lO a.p b.p,nX a.t b.t] Zm Ki) rfl (bM _) ?_|refine ZX ?_)|refine Zy ?_)<;>try simp only[Sp.v,go_sem,reduceIte,jA,jB,jC,jD,reduceCtorEq,jE,jF])|refine ZY ?_|omega))
 exact aG h' (by repeat (first|exact Kb _|refine aJ hd ?_ or _|refine aL hd ?_ or)) ⟨rfl,rfl⟩
theorem ua(a b:Sp)(h:Hp):aY Tryz.prog 116 [a.v,b.v] h (.bool (a.less b)):=by
 refine aR (fun L=>trivial) fun h' nx hh=>aF L.aW6 fun hd=>?_;simp only[jL,jM,jA,jB,jN,jO,jP,jQ,Ka];by_cases h0:a.p=b.p
 ·have hc:(a.p != b.p)=false:=by simp[h0]
  have hl:a.less b=a.t.less b.t:=by simp[Sp.less,h0]
  have C1:=fun h=>fk a.t b.t h;refine aue (ee2 Sp.v.eq_1 hc) ?_;rw[hl];exact aG h' (by repeat (first|exact Kb _|refine aJ hd ?_ or _|refine aL hd ?_ or)) ⟨rfl,rfl⟩
 have hc:(a.p != b.p)=true:=by simp[h0]
 have hl:a.less b=decide (a.p<b.p):=by simp[Sp.less,h0]
 refine aue (ee2 Sp.v.eq_1 hc) ?_;rw[hl];exact aG h' (by repeat (first|exact Kb _|refine aJ hd ?_ or _|refine aL hd ?_ or)) ⟨rfl,rfl⟩
theorem oD(a:Sp)(h:Hp):aY Tryz.prog 24 [a.v] h a.v:=by
 refine aR (fun L=>a.aAN L) fun h' nx hh=>aF L.aY1 fun hd=>?_;simp only[jL,jM,jA,jB,jN,jO,jP,jQ,Ka];have ht:∀h,aY Tryz.prog 56 [.agg [.int .i64 a.t.e, .int .i64 a.t.r]] h (.agg [.int .i64 a.t.e, .int .i64 a.t.r]):=fun h=>zr a.t h;have D1:=fun h=>ht h;refine aue Sp.v.eq_1 ?_;refine rZ (by simp only[go_sem,reduceIte,jA,jB,jC,jD,reduceCtorEq,jE,jF]) h' (by repeat (first|exact Kb _|refine aJ hd ?_ or _|refine aL hd ?_ or)) ⟨?_,rfl⟩;simp only[go_sem,reduceIte,jA,jB,jC,jD,reduceCtorEq,jE,jF]
theorem bY{α:Type}(f:α→V)(d:V)(l:List α)(i:Nat)(h:i<l.length):(l.map f).getD i d=f l[i]:=by
 rw[Kc,Km,Kd h];rfl
def xV(l:List Cg)(s:Sp):Int:=((l.find? fun x=>decide (x.s=s)).map (·.d)).getD 0
theorem nh(o:Own)(l:List Cg)(s:Sp)(hl:l.length≤1000000)(h:Hp):aY Tryz.prog 59 [cgs o l,s.v] h (.int .i64 (xV l s)):=by
 have hlp:cK (.agg 3) 0 s.v=s.v:=rfl;refine aR (fun L=>trivial) fun h' nx hh=>aF L.aYN fun hd=>?_;simp only[jL,jM,jA,jB,jN,jO,jP,jQ,Ka];have hsf:=Sp.aAC s;refine aue hsf ?_
 refine aO (fun i:Nat=>aB 24 0 [(0,cgs o l),(3, .ptr nx (.agg 3) 0 0),(5, .int .i64 i)])
  (fun i hp nx1=>i≤l.length∧nx+1≤nx1∧aI hp nx1∧Hp.same (nx+1) (h'.set nx (.arr (.agg 3) [s.v])) hp∧∀x∈l.take i,x.s≠s)
  (fun i=>l.length-i) 0 ⟨KN _,Zm,(by(try dsimp only);repeat (first|exact aI.up hd or|refine aI.aAh ?_ or _|refine aI.del ?_|refine aI.aAb ?_ _)),Hp.same.aBG,Zm⟩ ?_ ?_
 ·simp only[WkL,aB,jH,jI,jJ,cgs,go_sem,reduceIte,jA,jB,jC,jD,reduceCtorEq,jE,jF]
 rintro i hp nx1 ⟨hi,hnx,hdm,hsm,hno⟩;generalize hQ:bH _ _ _ _ _=Q0;have c1:hp nx=some (.arr (.agg 3) [s.v]):=by rw[hsm nx or];simp only[go_sem,reduceIte,jA,jB,jC,jD,reduceCtorEq,jE,jF]
 simp only[aB,cgs,go_sem,reduceIte,jA,jB,jC,jD,reduceCtorEq,jE,jF];rcases KC i l.length with hlt|hge
 ·have hc:decide ((i:Int)<(l.length:Int))=true:=decide_eq_true or;have hg:(l.map Cg.v).getD i (.tup [])= .agg [.int .i64 l[i].s.p, .int .i64 l[i].s.t.e, .int .i64 l[i].s.t.r, .int .i64 l[i].d]:=bY Cg.v _ l i hlt;have hw:IntKind.i64.wrap ((i:Int)+1)=((i+1:Nat):Int):=by rw[bB]<;>omega
  have hq:veq (.plain (.agg 3) [.int, .int, .int]) (.agg [.int .i64 l[i].s.p, .int .i64 l[i].s.t.e, .int .i64 l[i].s.t.r]) s.v=some (decide (l[i].s=s)):=yV l[i].s s;by_cases he:l[i].s=s
  ·have hb:=decide_eq_true he;have aEV:xV l s=l[i].d:=by
    unfold xV;have:l.find? (fun x=>decide (x.s=s))=some l[i]:=by
     rw[List.find?_eq_some_iff_append];refine⟨hb,l.take i,l.drop (i+1),?_,fun x hx=>by simpa using hno x hx⟩;rw[←List.drop_eq_getElem_cons hlt,List.take_append_drop]
    rw[this];rfl
   rw[hb] at hq;refine aue (ee7 c1 hc hg hlt hw hq hlp) ?_;rw[←hQ];refine au ?_;exact aG h' (hsm.le (fun m b e=>by have:=hd m b e;omega) (by repeat (first|exact Kb _|refine aJ hd ?_ or _|refine aL hd ?_ or))) ⟨by rw[aEV];rfl,rfl⟩
  have hb:=decide_eq_false he;rw[hb] at hq;refine aue (ee7 c1 hc hg hlt hw hq hlp) ?_;rw[←hQ];refine aD (i+1) or ⟨hlt,or,(by(try dsimp only);repeat (first|exact aI.up hdm or|refine aI.aAh ?_ or _|refine aI.del ?_|refine aI.aAb ?_ _)),(by(try dsimp only);repeat (first|exact hsm|refine aW ?_ or _|refine aX ?_ or)),?_⟩ ?_
  ·intro x hx;rw[Ke hlt] at hx;rcases Kf.1 hx with hx|hx
   ·exact hno x hx
   rw[Kh.1 hx];exact he
  simp only[WkL,aB,jH,jI,jJ,cgs,go_sem,reduceIte,jA,jB,jC,jD,reduceCtorEq,jE,jF]
 have hc:decide ((i:Int)<(l.length:Int))=false:=decide_eq_false or;have aEV:xV l s=0:=by
  unfold xV;rw[KD.2 (fun x hx=>by
   rw[Kt or] at hno;simpa using hno x hx)]
  rfl
 refine aue hc ?_;rw[←hQ];refine au ?_;exact aG h' (hsm.le (fun m b e=>by have:=hd m b e;omega) (by repeat (first|exact Kb _|refine aJ hd ?_ or _|refine aL hd ?_ or))) ⟨by rw[aEV];rfl,rfl⟩
end Go.Proofs.YtecepaehmojpgaaGreat
namespace Go.Proofs.YtecepaehmojpgaaGreat
open Go.RowKit
attribute [local irreducible] KB
theorem xN:aH Tryz.prog 91=some (LB.aAq (.agg 3) 121 122):=Zz
theorem gw:aH Tryz.prog 121=some (LB.Collect (.agg 3) 145):=Zz
theorem zN:aH Tryz.prog 145=some (LB.aAf (.agg 3) (.agg [.int .i64 0, .int .i64 0, .int .i64 0]) 24):=Zz
theorem v8:aH Tryz.prog 92=some (LB.Keys 123):=Zz
theorem rl:aH Tryz.prog 123=some (LB.aNn (.agg 3) (.agg [.int .i64 0, .int .i64 0, .int .i64 0])):=Zz
noncomputable def pH(l:List CE):List Sp:=dU pS (l.map (·.s))
def pk(m cp:Nat)(l:List CE)(c:Nat):Hp:=(Hp.none.set m (.mp (l.map CE.me) c)).set cp (.arr .leaf [.map m])
theorem B4{m cp:Nat}{l:List CE}{c:Nat}{h:Hp}(h1:h m=some (.mp (l.map CE.me) c))(h2:h cp=some (.arr .leaf [.map m])):(pk m cp l c).has h:=by
 intro n b hb _;unfold pk at hb;simp only[Hp.set] at hb;split at hb
 ·rename_i e;rw[e,←hb];exact h2
 split at hb
 ·rename_i e;rw[e,←hb];exact h1
 cases hb
theorem BO(l:List CE)(c:Nat)(hok:eO l c)(hl:l.length≤1000000)(m cp:Nat)(hne:m≠cp):
 aY Tryz.prog 91 [.fn (.func 123) [] [.ptr cp .leaf 0 0], .fn (.func 93) [] []] (pk m cp l c) (lst (.agg 3) ((pH l).map Sp.v)):=by
 have hlk:(l.map (·.s)).length=l.length:=Zm
 exact zA Sp.v Fd Sp.aAC (fun x L=>x.aAN L) (by intro w;exact Tryz.isAgg37 w) (by intro w;exact Tryz.sizeOf37 w) Zz xN gw zN rfl or rfl _ _ _ (l.map (·.s)) _
  (Aq rl rfl CE.me (·.s) Sp.v Sp.aAC (fun _=>rfl) l hok.num c hok.lt m cp (pk m cp l c) (by simp[pk,Hp.set]) (by simp[pk,Hp.set,hne]))
  (fun xs x h=>by have:=h.2;omega) or pS my BB _ [] (fun x y=>by simpa using AI x y)
noncomputable def dT(l:List CE):List Cg:=(pH l).map fun s=>⟨s,cZ l s⟩
theorem sC(l:List CE):(pH l).length=l.length:=by
 unfold pH;rw[(dX pS (l.map (·.s))).length_eq,List.length_map]
end Go.Proofs.YtecepaehmojpgaaGreat
namespace Go.Proofs.YtecepaehmojpgaaGreat
open Go.RowKit
attribute [local irreducible] KB
def mH(l:List Cg)(i:Nat)(s:Sp):Nat→Bool
 |0=>true
 |k+1=>if (l.getD k default).s=s then (mH l i s k&&decide (i≤k)) else mH l i s k
theorem xa(l:List Cg)(i:Nat)(s:Sp):∀k,k≤l.length→mH l i s k=((l.take (min k i)).all fun x=>decide (x.s≠s))
 |0,_=>by simp[mH]
 |k+1,hk=>by
  have hlt:k<l.length:=hk;have hg:l.getD k default=l[k]:=by rw[Kc,Kd hlt];rfl
  rw[mH,hg,xa l i s k or];rcases KC k i with hki|hki
  ·rw[Qj (by omega:k≤i),Qj (by omega:k+1≤i),Ke hlt,List.all_append];have hd:decide (i≤k)=false:=decide_eq_false or;by_cases he:l[k].s=s
   ·simp[he,hd]
   simp[he]
  rw[KH (by omega:i≤k),KH (by omega:i≤k+1)];have hd:decide (i≤k)=true:=decide_eq_true or;by_cases he:l[k].s=s
  ·rw[if_pos he,hd,Bool.and_true]
  rw[if_neg he]
theorem Cc{l:List Cg}{i:Nat}(hi:i<l.length):mH l i (l.getD i default).s l.length=oX l i:=by
 rw[xa l i _ _ (Kk _),KH or];rfl
theorem CX{l:List Cg}{k:Nat}(hk:k<l.length)(s:Sp):tot (l.take (k+1)) s=if l[k].s=s then IntKind.i64.wrap (tot (l.take k) s+l[k].d) else tot (l.take k) s:=by
 rw[Ke hk,CY]
set_option maxRecDepth 100000 in
set_option maxHeartbeats 4000000 in
theorem BH(own:Own)(l:List Cg)(hl:l.length≤100000)(h:Hp):aY Tryz.prog 81 [cgs own l] h (lst (.agg 4) ((vJ l).map Cg.v)):=by
 refine dB (fun L=>cP (fun L=>bG (Cg.aAN L) _) L) fun h' nx hh=>aF L.aXp fun hd=>?_;simp only[jL,jM,jA,jB,jN,jO,jP,jQ,Ka]
 (repeat' (first|(with_reducible first|refine stp ?_|refine bJ ZM ?_|refine iQ (fun _=>?_) (fun _=>?_))|((first|(with_reducible refine fV ?_;first|refine eJ rfl ?_ ?_|refine Zx ?_)|(with_reducible refine fW ?_;first|refine cB rfl ?_ ?_|refine ZX ?_)|refine Zy ?_)<;>try simp only[ go_sem,reduceIte,jA,jB,jC,jD,reduceCtorEq,jE,jF])|refine ZY ?_|omega))
 refine aO (fun q:Nat×Own=>aB 89 0 [(0,cgs own l),(3,cgs q.2 (cX l q.1)),(4, .int .i64 q.1)])
  (fun q hp nx1=>q.1≤l.length∧nx≤nx1∧aI hp nx1∧Hp.same nx h' hp∧Acc hp nx q.2 ((cX l q.1).map Cg.v))
  (fun q=>l.length-q.1) (0, .nil) ⟨KN _,Kk _,hd,Hp.same.aBG,Acc.nil⟩ ?_ ?_
 ·simp only[WkL,aB,jH,jI,jJ,cgs,cX,KI,go_sem,reduceIte,jA,jB,jC,jD,reduceCtorEq,jE,jF]
 rintro⟨i,o⟩ hp nx1 ⟨hi,hnx,hdm,hsm,aAU⟩;generalize hQ:bH _ _ _ _ _=Q0;dsimp only at hi aAU;simp only[aB,cgs,go_sem,reduceIte,jA,jB,jC,jD,reduceCtorEq,jE,jF];rcases KC i l.length with hlt|hge
 ·have hc:decide ((i:Int)<(l.length:Int))=true:=decide_eq_true or;have hgi:l.getD i default=l[i]:=by rw[Kc,Kd hlt];rfl
  have hg:(l.map Cg.v).getD i (.tup [])= .agg [.int .i64 l[i].s.p, .int .i64 l[i].s.t.e, .int .i64 l[i].s.t.r, .int .i64 l[i].d]:=bY Cg.v _ l i hlt;have hw:IntKind.i64.wrap ((i:Int)+1)=((i+1:Nat):Int):=by rw[bB]<;>omega
  (repeat' (first|(with_reducible first|refine stp ?_|refine bJ ZM ?_|refine iQ (fun _=>?_) (fun _=>?_))|((first|(with_reducible refine fV ?_;first|refine eJ rfl ?_ ?_|refine Zx ?_)|(with_reducible refine fW ?_;first|refine cB rfl ?_ ?_|refine ZX ?_)|refine Zy ?_)<;>try simp only[hc,jK,go_sem,reduceIte,jA,jB,jC,jD,reduceCtorEq,jE,jF])|refine ZY ?_|omega))
  refine aO (fun k:Nat=>aB 89 0 [(0,cgs own l),(3,cgs o (cX l i)),(4, .int .i64 i),(5, .bool (mH l i l[i].s k)),(6, .int .i64 (tot (l.take k) l[i].s)),(7, .int .i64 k)])
   (fun k h2 nx2=>k≤l.length∧h2=hp∧nx1≤nx2) (fun k=>l.length-k) 0 ⟨KN _,rfl,Zm⟩ ?_ ?_
  ·simp only[WkL,aB,jH,jI,jJ,cgs,mH,List.take_zero,Er,go_sem,reduceIte,jA,jB,jC,jD,reduceCtorEq,jE,jF]
  rintro k h2 nx2 ⟨hk,rfl,aBs⟩;generalize hQ2:bH _ _ _ _ _=Q2;simp only[aB,cgs,go_sem,reduceIte,jA,jB,jC,jD,reduceCtorEq,jE,jF];rcases KC k l.length with aBt|aVf
  ·have hck:decide ((k:Int)<(l.length:Int))=true:=decide_eq_true or;have aVe:l.getD k default=l[k]:=by rw[Kc,Kd aBt];rfl
   have hgk:(l.map Cg.v).getD k (.tup [])= .agg [.int .i64 l[k].s.p, .int .i64 l[k].s.t.e, .int .i64 l[k].s.t.r, .int .i64 l[k].d]:=bY Cg.v _ l k aBt;have hwk:IntKind.i64.wrap ((k:Int)+1)=((k+1:Nat):Int):=by rw[bB]<;>omega
   have hq:veq (.plain (.agg 3) [.int, .int, .int]) (.agg [.int .i64 l[k].s.p, .int .i64 l[k].s.t.e, .int .i64 l[k].s.t.r]) (.agg [.int .i64 l[i].s.p, .int .i64 l[i].s.t.e, .int .i64 l[i].s.t.r])=some (decide (l[k].s=l[i].s)):=yV l[k].s l[i].s;have ht:=CX aBt l[i].s;by_cases he:l[k].s=l[i].s
   ·rw[decide_eq_true he] at hq;rw[if_pos he] at ht;have hf:mH l i l[i].s (k+1)=(mH l i l[i].s k&&decide (i≤k)):=by rw[mH,aVe,if_pos he]
    have aDA:decide ((k:Int)≥(i:Int))=decide (i≤k):=by rw[Ky];simp
    have aHG:decide ((i:Int)≤(k:Int))=decide (i≤k):=by rw[Ky];simp
    cases hfk:mH l i l[i].s k with
    |true=>
     rw[hfk,Bool.true_and] at hf
     (repeat' (first|(with_reducible first|refine stp ?_|refine bJ ZM ?_|refine iQ (fun _=>?_) (fun _=>?_))|((first|(with_reducible refine fV ?_;first|refine eJ rfl ?_ ?_|refine Zx ?_)|(with_reducible refine fW ?_;first|refine cB rfl ?_ ?_|refine ZX ?_)|refine Zy ?_)<;>try simp only[hck,hg,hgk,hlt,aBt,hwk,hq,hfk,aDA,aHG,←ht,jK,jG,go_sem,reduceIte,jA,jB,jC,jD,reduceCtorEq,jE,jF])|refine ZY ?_|omega))
     rw[←hQ2];refine aD (k+1) or ⟨aBt,rfl,ZN⟩ ?_;simp only[WkL,aB,jH,jI,jJ,cgs,hf,go_sem,reduceIte,jA,jB,jC,jD,reduceCtorEq,jE,jF]
    |false=>
     rw[hfk,Bool.false_and] at hf
     (repeat' (first|(with_reducible first|refine stp ?_|refine bJ ZM ?_|refine iQ (fun _=>?_) (fun _=>?_))|((first|(with_reducible refine fV ?_;first|refine eJ rfl ?_ ?_|refine Zx ?_)|(with_reducible refine fW ?_;first|refine cB rfl ?_ ?_|refine ZX ?_)|refine Zy ?_)<;>try simp only[hck,hg,hgk,hlt,aBt,hwk,hq,hfk,aDA,aHG,←ht,jK,jG,go_sem,reduceIte,jA,jB,jC,jD,reduceCtorEq,jE,jF])|refine ZY ?_|omega))
     rw[←hQ2];refine aD (k+1) or ⟨aBt,rfl,ZN⟩ ?_;simp only[WkL,aB,jH,jI,jJ,cgs,hf,go_sem,reduceIte,jA,jB,jC,jD,reduceCtorEq,jE,jF]
   rw[decide_eq_false he] at hq;rw[if_neg he] at ht;have hf:mH l i l[i].s (k+1)=mH l i l[i].s k:=by rw[mH,aVe,if_neg he]
   (repeat' (first|(with_reducible first|refine stp ?_|refine bJ ZM ?_|refine iQ (fun _=>?_) (fun _=>?_))|((first|(with_reducible refine fV ?_;first|refine eJ rfl ?_ ?_|refine Zx ?_)|(with_reducible refine fW ?_;first|refine cB rfl ?_ ?_|refine ZX ?_)|refine Zy ?_)<;>try simp only[hck,hg,hgk,hlt,aBt,hwk,hq,jK,jG,go_sem,reduceIte,jA,jB,jC,jD,reduceCtorEq,jE,jF])|refine ZY ?_|omega))
   rw[←hQ2];refine aD (k+1) or ⟨aBt,rfl,ZN⟩ ?_;simp only[WkL,aB,jH,jI,jJ,cgs,hf,ht,go_sem,reduceIte,jA,jB,jC,jD,reduceCtorEq,jE,jF]
  have hck:decide ((k:Int)<(l.length:Int))=false:=decide_eq_false or;have hkl:l.take k=l:=Kt aVf;have hke:k=l.length:=or;have hfa:mH l i l[i].s k=oX l i:=by rw[hke,←hgi];exact Cc hlt
  rw[hkl,hfa];have aBY:cX l (i+1)=if oX l i=true∧tot l l[i].s≠0 then kz (cX l i) ⟨l[i].s,tot l l[i].s⟩ else cX l i:=by rw[cX,hgi]
  by_cases hft:oX l i=true∧tot l l[i].s≠0;case neg=>
   rw[if_neg hft] at aBY;cases hfb:oX l i with
   |false=>
    (repeat' (first|(with_reducible first|refine stp ?_|refine bJ ZM ?_|refine iQ (fun _=>?_) (fun _=>?_))|((first|(with_reducible refine fV ?_;first|refine eJ rfl ?_ ?_|refine Zx ?_)|(with_reducible refine fW ?_;first|refine cB rfl ?_ ?_|refine ZX ?_)|refine Zy ?_)<;>try simp only[hck,hfb,hw,jK,go_sem,reduceIte,jA,jB,jC,jD,reduceCtorEq,jE,jF])|refine ZY ?_|omega))
    rw[←hQ2];clear hQ2 Q2
    (repeat' (first|(with_reducible first|refine stp ?_|refine bJ ZM ?_|refine iQ (fun _=>?_) (fun _=>?_))|((first|(with_reducible refine fV ?_;first|refine eJ rfl ?_ ?_|refine Zx ?_)|(with_reducible refine fW ?_;first|refine cB rfl ?_ ?_|refine ZX ?_)|refine Zy ?_)<;>try simp only[hfb,hw,go_sem,reduceIte,jA,jB,jC,jD,reduceCtorEq,jE,jF])|refine ZY ?_|omega))
    rw[←hQ];refine aD (i+1,o) Zw ⟨hlt,ZN,(by(try dsimp only);repeat (first|exact aI.up hdm or|refine aI.aAh ?_ or _|refine aI.del ?_|refine aI.aAb ?_ _)),hsm,by dsimp only;rw[aBY];exact aAU⟩ ?_;simp only[WkL,aB,jH,jI,jJ,cgs,aBY,go_sem,reduceIte,jA,jB,jC,jD,reduceCtorEq,jE,jF]
   |true=>
    have h0:tot l l[i].s=0:=by
     by_cases h0:tot l l[i].s=0
     ·exact h0
     exact absurd ⟨hfb,h0⟩ hft
    have hz:(tot l l[i].s==0)=true:=by simp[h0]
    (repeat' (first|(with_reducible first|refine stp ?_|refine bJ ZM ?_|refine iQ (fun _=>?_) (fun _=>?_))|((first|(with_reducible refine fV ?_;first|refine eJ rfl ?_ ?_|refine Zx ?_)|(with_reducible refine fW ?_;first|refine cB rfl ?_ ?_|refine ZX ?_)|refine Zy ?_)<;>try simp only[hck,hfb,hw,hz,jK,go_sem,reduceIte,jA,jB,jC,jD,reduceCtorEq,jE,jF])|refine ZY ?_|omega))
    rw[←hQ2];clear hQ2 Q2
    (repeat' (first|(with_reducible first|refine stp ?_|refine bJ ZM ?_|refine iQ (fun _=>?_) (fun _=>?_))|((first|(with_reducible refine fV ?_;first|refine eJ rfl ?_ ?_|refine Zx ?_)|(with_reducible refine fW ?_;first|refine cB rfl ?_ ?_|refine ZX ?_)|refine Zy ?_)<;>try simp only[hfb,hw,hz,go_sem,reduceIte,jA,jB,jC,jD,reduceCtorEq,jE,jF])|refine ZY ?_|omega))
    rw[←hQ];refine aD (i+1,o) Zw ⟨hlt,ZN,(by(try dsimp only);repeat (first|exact aI.up hdm or|refine aI.aAh ?_ or _|refine aI.del ?_|refine aI.aAb ?_ _)),hsm,by dsimp only;rw[aBY];exact aAU⟩ ?_;simp only[WkL,aB,jH,jI,jJ,cgs,aBY,go_sem,reduceIte,jA,jB,jC,jD,reduceCtorEq,jE,jF]
  case pos=>
   rw[if_pos hft] at aBY;have hfb:=hft.1;have hz:(tot l l[i].s==0)=false:=by simp[hft.2]
   (repeat' (first|(with_reducible first|refine stp ?_|refine bJ ZM ?_|refine iQ (fun _=>?_) (fun _=>?_))|((first|(with_reducible refine fV ?_;first|refine eJ rfl ?_ ?_|refine Zx ?_)|(with_reducible refine fW ?_;first|refine cB rfl ?_ ?_|refine ZX ?_)|refine Zy ?_)<;>try simp only[hck,hfb,hw,hz,jK,go_sem,reduceIte,jA,jB,jC,jD,reduceCtorEq,jE,jF])|refine ZY ?_|omega))
   rw[←hQ2];clear hQ2 Q2
   (repeat' (first|(with_reducible first|refine stp ?_|refine bJ ZM ?_|refine iQ (fun _=>?_) (fun _=>?_))|((first|(with_reducible refine fV ?_;first|refine eJ rfl ?_ ?_|refine Zx ?_)|(with_reducible refine fW ?_;first|refine cB rfl ?_ ?_|refine ZX ?_)|refine Zy ?_)<;>try simp only[hfb,hw,hz,go_sem,reduceIte,jA,jB,jC,jD,reduceCtorEq,jE,jF])|refine ZY ?_|omega))
   have aOd:(cX l i).length≤i:=yY l i
   refine aO (fun a:Nat=>aB 89 0 [(0,cgs own l),(3,cgs o (cX l i)),(4, .int .i64 i),(6, .int .i64 (tot l l[i].s)),(8, .int .i64 a)])
    (fun a h2' nx3=>a≤(cX l i).length∧(∀x∈(cX l i).take a,x.s.less l[i].s=true)∧h2'=h2∧nx1≤nx3) (fun a=>(cX l i).length-a) 0 ⟨KN _,Zm,rfl,ZN⟩ ?_ ?_
   ·simp only[WkL,aB,jH,jI,jJ,cgs,go_sem,reduceIte,jA,jB,jC,jD,reduceCtorEq,jE,jF]
   rintro a h3 nx3 ⟨ha,aDK,rfl,aDl⟩;generalize hQ3:bH _ _ _ _ _=Q3;simp only[aB,cgs,go_sem,reduceIte,jA,jB,jC,jD,reduceCtorEq,jE,jF]
   have fin:∀nx4,nx1≤nx4→(cX l i).takeWhile (fun y=>y.s.less l[i].s)=(cX l i).take a→(cX l i).dropWhile (fun y=>y.s.less l[i].s)=(cX l i).drop a→
    lwp Tryz.prog (.draw 18 L.aFH L.aDr) (fP 1 (nW (lwp Tryz.prog (.ops L.aFG)) Q0)) ⟨aB 89 0 [(0,cgs own l),(3,cgs o (cX l i)),(4, .int .i64 i),(6, .int .i64 (tot l l[i].s)),(8, .int .i64 a)],h3,nx4⟩:=by
    intro nx4 aGD w1 w2;have aEW:cX l (i+1)=(cX l i).take a++⟨l[i].s,tot l l[i].s⟩::(cX l i).drop a:=by rw[aBY];unfold kz;rw[w1,w2]
    simp only[aB,cgs,go_sem,reduceIte,jA,jB,jC,jD,reduceCtorEq,jE,jF];refine dO rfl ?_;refine cB rfl (by simp only[hg,cgs,jK,Qd,Qe,Kp,jG,go_sem,reduceIte,jA,jB,jC,jD,reduceCtorEq,jE,jF];try omega) ?_;simp only[hg,cgs,jK,Qd,Qe,Kp,jG,go_sem,reduceIte,jA,jB,jC,jD,reduceCtorEq,jE,jF];have htk:(List.map Cg.v (cX l i)).take (cX l i).length=List.map Cg.v (cX l i):=by
     rw[Kt Zm]
    refine cG (eF ?_);refine Zn ?_
    (repeat' (first|(with_reducible first|refine stp ?_|refine bJ ZM ?_|refine iQ (fun _=>?_) (fun _=>?_))|((first|(with_reducible refine fV ?_;first|refine eJ rfl ?_ ?_|refine Zx ?_)|(with_reducible refine fW ?_;first|refine cB rfl ?_ ?_|refine ZX ?_)|refine Zy ?_)<;>try simp only[hw,go_sem,reduceIte,jA,jB,jC,jD,reduceCtorEq,jE,jF])|refine ZY ?_|omega))
    rw[←hQ];refine aD (i+1, .tok (nx4+17)) Zw ⟨hlt,ZN,?_,?_,?_⟩ ?_
    ·have hdm:=hdm.up aGD;exact(by(try dsimp only);repeat (first|exact aI.up hdm or|refine aI.aAh ?_ or _|refine aI.del ?_|refine aI.aAb ?_ _))
    ·exact(by(try dsimp only);repeat (first|exact hsm|refine aW ?_ or _|refine aX ?_ or))
    ·dsimp only;rw[aEW];exact .inr ⟨Zm,nx4+17,or,rfl,by simp only[go_sem,reduceIte,jA,jB,jC,jD,reduceCtorEq,jE,jF]⟩
    simp only[WkL,aB,jH,jI,jJ,cgs,aEW,htk,Cg.v,Kz,Kj,List.map_take,List.map_drop,List.append_assoc,go_sem,reduceIte,jA,jB,jC,jD,reduceCtorEq,jE,jF]
   rcases KC a (cX l i).length with hal|hal
   ·have aHJ:decide ((a:Int)<((cX l i).length:Int))=true:=decide_eq_true or;have hga:((cX l i).map Cg.v).getD a (.tup [])= .agg [.int .i64 (cX l i)[a].s.p, .int .i64 (cX l i)[a].s.t.e, .int .i64 (cX l i)[a].s.t.r, .int .i64 (cX l i)[a].d]:=bY Cg.v _ (cX l i) a hal;have hwa:IntKind.i64.wrap ((a:Int)+1)=((a+1:Nat):Int):=by rw[bB]<;>omega
    have hsp:∀h,aY Tryz.prog 116 [.agg [.int .i64 (cX l i)[a].s.p, .int .i64 (cX l i)[a].s.t.e, .int .i64 (cX l i)[a].s.t.r], .agg [.int .i64 l[i].s.p, .int .i64 l[i].s.t.e, .int .i64 l[i].s.t.r]] h (.bool ((cX l i)[a].s.less l[i].s)):=fun h=>ua _ _ h;cases hls:(cX l i)[a].s.less l[i].s with
    |true=>
     rw[hls] at hsp
     (repeat' (first|(with_reducible first|refine stp ?_|refine bJ ZM ?_|refine iQ (fun _=>?_) (fun _=>?_))|((first|(with_reducible refine fV ?_;first|refine eJ rfl ?_ ?_|refine Zx ?_)|(with_reducible refine fW ?_;first|refine cB rfl ?_ ?_|refine bK (hsp _) rfl (bM _) ?_|refine ZX ?_)|refine Zy ?_)<;>try simp only[aHJ,hga,hg,hal,hlt,hwa,jK,jG,go_sem,reduceIte,jA,jB,jC,jD,reduceCtorEq,jE,jF])|refine ZY ?_|omega))
     rw[←hQ3];refine aD (a+1) or ⟨or,?_,rfl,ZN⟩ ?_
     ·intro x hx;rw[Ke hal,Kf,Kh] at hx;rcases hx with hx|rfl
      ·exact aDK x hx
      exact hls
     simp only[WkL,aB,jH,jI,jJ,cgs,go_sem,reduceIte,jA,jB,jC,jD,reduceCtorEq,jE,jF]
    |false=>
     rw[hls] at hsp
     (repeat' (first|(with_reducible first|refine stp ?_|refine bJ ZM ?_|refine iQ (fun _=>?_) (fun _=>?_))|((first|(with_reducible refine fV ?_;first|refine eJ rfl ?_ ?_|refine Zx ?_)|(with_reducible refine fW ?_;first|refine cB rfl ?_ ?_|refine bK (hsp _) rfl (bM _) ?_|refine ZX ?_)|refine Zy ?_)<;>try simp only[aHJ,hga,hg,hal,hlt,hwa,jK,jG,go_sem,reduceIte,jA,jB,jC,jD,reduceCtorEq,jE,jF])|refine ZY ?_|omega))
     obtain⟨w1,w2⟩:=wK (fun y:Cg=>y.s.less l[i].s) (cX l i) a ha aDK (fun _=>hls);rw[←hQ3];refine dC ?_;refine cR ?_;refine fT _ (kM ?_ (Kb _) (Kk _)) (fin _ ZN w1 w2);simp only[WkL,aB,jH,jI,jJ,cgs,go_sem,reduceIte,jA,jB,jC,jD,reduceCtorEq,jE,jF]
   have aHJ:decide ((a:Int)<((cX l i).length:Int))=false:=decide_eq_false or
   (repeat' (first|(with_reducible first|refine stp ?_|refine bJ ZM ?_|refine iQ (fun _=>?_) (fun _=>?_))|((first|(with_reducible refine fV ?_;first|refine eJ rfl ?_ ?_|refine Zx ?_)|(with_reducible refine fW ?_;first|refine cB rfl ?_ ?_|refine ZX ?_)|refine Zy ?_)<;>try simp only[aHJ,hg,hlt,jK,jG,go_sem,reduceIte,jA,jB,jC,jD,reduceCtorEq,jE,jF])|refine ZY ?_|omega))
   obtain⟨w1,w2⟩:=wK (fun y:Cg=>y.s.less l[i].s) (cX l i) a ha aDK (fun h=>absurd h or);rw[←hQ3];refine dC ?_;refine cR ?_;refine fT _ (kM ?_ (Kb _) (Kk _)) (fin _ ZN w1 w2);simp only[WkL,aB,jH,jI,jJ,cgs,go_sem,reduceIte,jA,jB,jC,jD,reduceCtorEq,jE,jF]
 have hc:decide ((i:Int)<(l.length:Int))=false:=decide_eq_false or;have hil:i=l.length:=or
 (repeat' (first|(with_reducible first|refine stp ?_|refine bJ ZM ?_|refine iQ (fun _=>?_) (fun _=>?_))|((first|(with_reducible refine fV ?_;first|refine eJ rfl ?_ ?_|refine Zx ?_)|(with_reducible refine fW ?_;first|refine cB rfl ?_ ?_|refine ZX ?_)|refine Zy ?_)<;>try simp only[hc,jK,go_sem,reduceIte,jA,jB,jC,jD,reduceCtorEq,jE,jF])|refine ZY ?_|omega))
 rw[←hQ]
 (repeat' (first|(with_reducible first|refine stp ?_|refine bJ ZM ?_|refine iQ (fun _=>?_) (fun _=>?_))|((first|(with_reducible refine fV ?_;first|refine eJ rfl ?_ ?_|refine Zx ?_)|(with_reducible refine fW ?_;first|refine cB rfl ?_ ?_|refine ZX ?_)|refine Zy ?_)<;>try simp only[ go_sem,reduceIte,jA,jB,jC,jD,reduceCtorEq,jE,jF])|refine ZY ?_|omega))
 subst hil;refine aG h' (hsm.le hd (Kb _)) ⟨?_,Kb _⟩;refine Zn ?_;rw[aAU.loose];rfl
end Go.Proofs.YtecepaehmojpgaaGreat
