/-
Texts of this proof,one behind the other. No conditions.
-/
import Derived.Test.YtlhedpgobaellaaGreatDoorKs
import Derived.Test.YtlhedpgobaellaaGreatDoorKk
open List renaming drop_eq_getElem_cons→Ka,append_nil→Kb
open Nat renaming reduceAdd→jA,reduceSub→jB,reduceLT→jC,reduceLeDiff→jD,reduceEqDiff→jE
open Int renaming reduceToNat→jF,toNat_natCast→jG,natCast_add→jH,natCast_one→jI,natCast_zero→jJ
open List renaming length_map→jK
set_option linter.all false
set_option maxHeartbeats 8000000
namespace Go.Proofs.YtlhedpgobaellaaGreatDoor
open Go.RowKit Go.Sort
attribute [local irreducible] IntKind.wrap
def nA:List Tr→List Vl→List Tr→Option (List Tr)
 |a::r,v::vs,l=>if a.x.size=0 then (if a.w=v then nA r vs l else none) else
  match lkB a.x l with
  |none=>nA r vs (l++[⟨a.x,v⟩])
  |some w=>if w=v then nA r vs l else none
 |_,_,l=>some l
theorem tE(a:Tr)(r:List Tr)(v:Vl)(vs:List Vl)(l:List Tr):nA (a::r) (v::vs) l=if a.x.size=0 then (if a.w=v then nA r vs l else none) else (match lkB a.x l with
 |none=>nA r vs (l++[⟨a.x,v⟩])
 |some w=>if w=v then nA r vs l else none):=rfl
def qF(a:Am)(t:List Vl)(l:List Tr):Option (List Tr):=if a.l.length≠t.length then none else nA a.l t l
def Ht(r:Option (List Tr))(nx:Nat)(v:V)(h':Hp)(nx':Nat):Prop:=match r with
 |none=>v= .tup [.aAH, .bool false]
 |some l=>∃n es c,v= .tup [.map n, .bool true]∧nx≤n∧n<nx'∧h' n=some (.mp es c)∧tO es c l
theorem vw(a:Am)(ha:a.l.length≤1000000)(o:Own)(t:List Vl)(l:List Tr)(n:Nat)(es:List ME)(c:Nat)(h:Hp)(nx:Nat)(hm:h n=some (.mp es c))(he:tO es c l):
 aR Tryz.prog 80 [a.v,vls o t, .map n] h nx fun v h' nx'=>Ht (qF a t l) nx v h' nx'∧∀k,k<nx→h' k=h k:=by
 refine aB L.aYu fun hd=>?_;have hd:aV h nx:=hd;obtain⟨ar,ao,ts⟩:=a;have ha:ts.length≤1000000:=ha;refine ZK ?_;have hn2:n<nx:=hd _ _ hm;unfold qF;dsimp only;by_cases hne:ts.length=t.length
 ·have g:((ts.length:Int) != (t.length:Int))=false:=bnf;rw[if_neg (by simpa using hne)];refine aue (e5 Am.v.eq_1 trs.eq_1 g (@jK Tr V) (@jK Vl V)) ?_;refine aU ((nJ n es c l he _ _ ?_).dom.mono ?_)
  ·simp only[hm,hn2,go_sem,reduceIte,jA,jB,jC,jD,reduceCtorEq,jE,jF]
  rintro v h2 nx2 hle ⟨⟨m,es2,c2,rfl,q1,q2,q3,q4,q5⟩,hd2,_⟩;unfold bQ;dsimp only at q1 q5;refine Zn ?_;have hb0:h2 nx=some (.arr (.agg 2) [.agg [.str ar, .sl (.agg 4) ao (ts.map Tr.v)]]):=by rw[q5 nx or];simp only[go_sem,reduceIte,jA,jB,jC,jD,reduceCtorEq,jE,jF]
  have hk2:∀k,k<nx→h2 k=h k:=fun k hk=>by
   rw[q5 k or];simp only[Hp.set];rw[if_neg or]
  obtain⟨RES,aA4⟩:∃R,nA ts t l=R:=⟨_,rfl⟩;rw[aA4];have n0:nx<nx2:=or;refine aue (e5 Am.v.eq_1 trs.eq_1 hb0 n0 (@jK Tr V)) ?_
  refine aQ (fun q:Nat×List Tr=>aD 60 0 [(1,vls o t),(6, .aAH),(7, .bool false),(8, .map m),(22, .sl (.agg 4) ao (ts.map Tr.v)),(23, .int .i64 ts.length),(24, .int .i64 q.1)])
   (fun q hp nx1=>q.1≤ts.length∧m<nx1∧aV hp nx1∧(∀k,k<nx→hp k=h k)∧(∃es c,hp m=some (.mp es c)∧tO es c q.2)∧RES=nA (ts.drop q.1) (t.drop q.1) q.2)
   (fun q=>ts.length-q.1) (0,l) ⟨Nat.zero_le _,q2,hd2,hk2,⟨es2,c2,q3,q4⟩,aA4.symm⟩ (by simp only[WkL,aD,jH,jI,jJ,jK,go_sem,reduceIte,jA,jB,jC,jD,reduceCtorEq,jE,jF]) ?_
  clear hk2 hb0 q5 q3 q4 n0 hd2 aA4;rintro⟨i,L⟩ hp nx1 ⟨hi,hnx,hdm,hsm,⟨es,c,hmp,aHQ⟩,hmt⟩;generalize hQ:bB _ _ _ _ _=Q0;dsimp only at hi aHQ hmt;refine Zk ?_;rcases Nat.lt_or_ge i ts.length with hlt|hge
  ·have hlv:i<t.length:=or;have hc:decide ((i:Int)<(ts.length:Int))=true:=dct;have hg:=aN Tr.v ts i hlt;have hg2:=aN Vl.v t i hlv;have hw:IntKind.i64.wrap ((i:Int)+1)=((i+1:Nat):Int):=wrp;rw[Ka hlt,Ka hlv] at hmt;rw[tE] at hmt;generalize ts[i]=T at*;generalize t[i]=w at*;have hTf:=Tr.aAD T;have hwf:=Vl.aAD w;have hWf:=Vl.aAD T.w;have hT:T.v= .agg [.str T.x, .int .i64 T.w.k, .int .i64 T.w.n, .str T.w.s]:=rfl;have hTw:V.agg [.int .i64 T.w.k, .int .i64 T.w.n, .str T.w.s]=T.w.v:=rfl;have z0:=wR T.x;have hv:=ab T.w w;have stay:∀(sl:List V) (hp2:Hp) (aOn:Nat),RES=nA (ts.drop (i+1)) (t.drop (i+1)) L→nx1≤aOn→aV hp2 aOn→(∀k,k<nx1→hp2 k=hp k)→WkL sl (aD 60 0 [(1,vls o t),(6, .aAH),(7, .bool false),(8, .map m),(22, .sl (.agg 4) ao (ts.map Tr.v)),(23, .int .i64 ts.length),(24, .int .i64 ((i+1:Nat):Int))])→Q0 .normal ⟨sl,hp2,aOn⟩:=by
    intro sl hp2 aOn e h1 h2 h3 h4;rw[←hQ];exact aF (i+1,L) Zw ⟨hlt,or,h2,fun k hk=>(h3 k or).trans (hsm k hk),⟨es,c,(h3 m hnx).trans hmp,aHQ⟩,e⟩ h4
   by_cases hs:T.x.size=0
   ·rw[decide_eq_true hs] at z0;rw[if_pos hs] at hmt;by_cases hw2:T.w=w
    ·rw[if_pos hw2] at hmt;rw[decide_eq_true hw2] at hv;refine aue (e12 hc hg hg2 hlt hlv hTf hwf hT hWf hTw z0 (e5 hv (@jK Tr V) (@jK Vl V) jG hw)) ?_;exact stay _ _ _ hmt or (dmo hdm) (fun k hk=>by simp only[Hp.set];repeat rw[if_neg or]) (by simp only[WkL,aD,jH,jI,jJ,go_sem,reduceIte,jA,jB,jC,jD,reduceCtorEq,jE,jF])
    rw[if_neg hw2] at hmt;rw[decide_eq_false hw2] at hv;refine aue (e12 hc hg hg2 hlt hlv hTf hwf hT hWf hTw z0 (e5 hv (@jK Tr V) (@jK Vl V) jG hw)) ?_;rw[←hQ];refine au ?_;rw[hmt];refine aO _ (Hp.le_refl _) ⟨rfl,fun k hk=>?_⟩;refine Eq.trans ?_ (hsm k hk);simp only[Hp.set];repeat rw[if_neg or]
   rw[decide_eq_false hs] at z0;rw[if_neg hs] at hmt;have hx:=aHQ.at T.x;have n3:m<nx1:=hnx;cases k:lkB T.x L with
   |some w2=>
    rw[k] at hmt hx;obtain⟨j,hj1,hj2,hj3⟩:=hx;have hg0:iY true (.agg [.int .i64 0, .int .i64 0, .str ⟨#[]⟩]) es (some j)= .tup [w2.v, .bool true]:=by rw[←hj2];rfl
    have aVb:=Vl.aAD w2;have hv2:=ab w2 w;dsimp only at hmt;by_cases hw2:w2=w
    ·rw[if_pos hw2] at hmt;rw[decide_eq_true hw2] at hv2;refine aue (e14 hc hg hg2 hlt hlv hTf hwf hT hWf hTw z0 hmp n3 (e8 hv2 (@jK Tr V) (@jK Vl V) jG hw hj1 hg0 aVb)) ?_;exact stay _ _ _ hmt or (dmo hdm) (fun k hk=>by simp only[Hp.set];repeat rw[if_neg or]) (by simp only[WkL,aD,jH,jI,jJ,go_sem,reduceIte,jA,jB,jC,jD,reduceCtorEq,jE,jF])
    rw[if_neg hw2] at hmt;rw[decide_eq_false hw2] at hv2;refine aue (e14 hc hg hg2 hlt hlv hTf hwf hT hWf hTw z0 hmp n3 (e8 hv2 (@jK Tr V) (@jK Vl V) jG hw hj1 hg0 aVb)) ?_;rw[←hQ];refine au ?_;rw[hmt];refine aO _ (Hp.le_refl _) ⟨rfl,fun k hk=>?_⟩;refine Eq.trans ?_ (hsm k hk);simp only[Hp.set];repeat rw[if_neg or]
   |none=>
    rw[k] at hmt hx;have hg0:iY true (.agg [.int .i64 0, .int .i64 0, .str ⟨#[]⟩]) es none= .tup [.agg [.int .i64 0, .int .i64 0, .str ⟨#[]⟩], .bool false]:=rfl;dsimp only at hmt;refine aue (e14 hc hg hg2 hlt hlv hTf hwf hT hWf hTw z0 hmp n3 (e6 (@jK Tr V) (@jK Vl V) jG hw hx hg0)) ?_;refine kB (es:=es) (c:=c) (n:=m) rfl rfl (by simp only[hmp,n3,(fls:(m=nx1)=False),(fls:(m=nx1+2)=False),go_sem,reduceIte,jA,jB,jC,jD,reduceCtorEq,jE,jF]) hx ?_;refine Zn ?_;refine aue hw ?_;rw[←hQ];refine aF (i+1,L++[⟨T.x,w⟩]) Zw ⟨hlt,or,dmo hdm,fun k hk=>?_,⟨_,_,by simp only[go_sem,reduceIte,jA,jB,jC,jD,reduceCtorEq,jE,jF],aHQ.add ⟨T.x,w⟩ k⟩,hmt⟩ (by simp only[WkL,aD,jH,jI,jJ,go_sem,reduceIte,jA,jB,jC,jD,reduceCtorEq,jE,jF]);refine Eq.trans ?_ (hsm k hk);simp only[Hp.set];repeat rw[if_neg or]
  have hc:decide ((i:Int)<(ts.length:Int))=false:=dcf;rw[List.drop_of_length_le or] at hmt;refine aue hc ?_;rw[←hQ];refine au ?_;rw[hmt];exact aO hp (Hp.le_refl _) ⟨⟨m,es,c,rfl,or,hnx,hmp,aHQ⟩,hsm⟩
 have g:((ts.length:Int) != (t.length:Int))=true:=bnt;rw[if_pos hne];refine aue (e5 Am.v.eq_1 trs.eq_1 g (@jK Tr V) (@jK Vl V)) ?_;refine aO _ (Hp.le_refl _) ⟨rfl,fun k hk=>?_⟩;simp only[Hp.set];rw[if_neg or]
def zS5:V:= .agg [.int .i64 0, .int .i64 0, .sl .leaf .nil [], .sl .leaf .nil [], .sl .leaf .nil []]
def Hw:V:= .agg [.int .i64 0, .str ⟨#[]⟩, .sl (.agg 4) .nil [], .int .i64 0, .int .i64 0, .str ⟨#[]⟩, .int .i64 0, .int .i64 0, .str ⟨#[]⟩, .sl (.agg 6) .nil [], .int .i64 0, .str ⟨#[]⟩, .int .i64 0, .int .i64 0, .str ⟨#[]⟩, .sl (.agg 6) .nil [], .int .i64 0]
def stF(nx:Nat)(oS:Own)(PL:List V)(oB:Own)(BL:List V)(k si:Nat)(S X:V):List (Nat×Nat×V):=[(0,19, .ptr nx (.agg 7) 0 6),(1,20, .sl (.agg 5) oS PL),(2,21, .int .i64 k),(3,22, .ept (.agg 5) PL k 0),(4,23,S),(5,24, .ptr nx (.agg 7) 0 0),(6,25, .ptr nx (.agg 7) 0 4),(7,26, .sl (.agg 17) oB BL),(8,27, .ptr nx (.agg 7) 0 6),(9,28, .sl (.agg 5) oS PL),(10,29, .int .i64 k),(11,30, .ept (.agg 5) PL k 0),(12,31, .ept (.agg 5) PL k 1),(13,32, .int .i64 si),(14,33, .ept (.agg 17) BL si 0),(15,34,X),(18,6, .nilIface)]
def stX(nx k:Nat):List (Nat×V):=[(1, .int .i64 k),(2, .ptr nx (.agg 7) 0 0),(4, .ptr (nx+1) (.agg 5) 0 0),(5, .ptr (nx+2) (.agg 17) 0 0)]
structure StR(A:Hp)(nx:Nat)(oS:Own)(PL:List V)(oB:Own)(BL:List V)(k si:Nat)(S X:V)(D:Nat→Bool)(s:St):Prop where
 sl:RG (stF nx oS PL oB BL k si S X) (stX nx k) 35 D s.sl
 h1:s.h (nx+1)=some (.arr (.agg 5) [if D 16=true then S else zS5])
 h2:s.h (nx+2)=some (.arr (.agg 17) [if D 17=true then X else Hw])
 ho:∀x,x≠nx+1→x≠nx+2→s.h x=A x
structure PlS(R:Ru)(s:PS):Prop where
 li:s.i<R.b.length
 nd:s.hv.Nodup
 hl:s.hv.length≤1000000000
 wl:s.wt.length≤1000000000
 kl:s.ky.length≤6
 kc:∀c∈s.ky,c<(R.b.getD s.i default).a.l.length
 rl:bS (R.b.getD s.i default)=true
 kd:s.k=(R.b.getD s.i default).k
 al:(R.b.getD s.i default).a.l.length≤6
end Go.Proofs.YtlhedpgobaellaaGreatDoor
namespace Go.Proofs.YtlhedpgobaellaaGreatDoor
open Go.RowKit Go.Sort
theorem vG{x:ByteArray}{w:Vl}{l:List Tr}(h:lkB x l=some w):∀m:List Tr,lkB x (l++m)=some w:=by
 intro m;induction l with
 |nil=>cases h
 |cons a l ih=>
  simp only[List.cons_append,lkB] at h⊢;split at h
  ·rename_i e;rw[if_pos e];exact h
  rename_i e;rw[if_neg e];exact ih h
theorem kA:∀{ts:List Tr} {vs:List Vl} {l l2:List Tr},nA ts vs l=some l2→∃m,l2=l++m
 | [],_,l,l2,h=>⟨[],by have:some l=some l2:=h;injection this with e;rw[e,Kb]⟩
 |a::r,[],l,l2,h=>⟨[],by have:some l=some l2:=h;injection this with e;rw[e,Kb]⟩
 |a::r,v::vs,l,l2,h=>by
  rw[tE] at h;split at h
  ·split at h
   ·exact kA h
   cases h
  split at h
  ·obtain⟨m,e⟩:=kA h;exact⟨⟨a.x,v⟩::m,by rw[e,List.append_assoc];rfl⟩
  split at h
  ·exact kA h
  cases h
structure PlT(R:Ru)(s:PS):Prop extends PlS R s where
 pre:∃m,s.wt=s.hv++m
 told:s.k=1→∀c∈s.ky,((R.b.getD s.i default).a.l.getD c default).x.size=0∧bK ((R.b.getD s.i default).a.l.getD c default).w=true∨((R.b.getD s.i default).a.l.getD c default).x.size≠0∧((R.b.getD s.i default).a.l.getD c default).x∈s.hv
end Go.Proofs.YtlhedpgobaellaaGreatDoor
