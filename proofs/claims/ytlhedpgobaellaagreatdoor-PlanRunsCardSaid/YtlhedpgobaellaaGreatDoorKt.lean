/-
Texts of this proof,one behind the other. No conditions.
-/
import Derived.Test.YtlhedpgobaellaaGreatDoorKz
open List renaming mem_cons_of_mem→Ka,mem_cons_self→Kb,mem_singleton→Kc,mem_append→Ke,getD_eq_getElem?_getD→Kf,filterMap_cons→Kg,getElem?_eq_getElem→Kh,mem_cons→Ki,drop_eq_getElem_cons→Kj,mem_map→Kk,append_nil→Km,mem_filterMap→Kq,map_filterMap→Ks,flatMap_cons→Ku,mem_flatMap→Kv,getElem_mem→Kw,nil_append→Kx,map_cons→Ky
open Bool renaming and_eq_true→Kd,false_and→Ko,or_false→Kp
open Int renaming toNat_natCast→Kt
set_option linter.all false
set_option maxHeartbeats 8000000
namespace Go.Proofs.YtlhedpgobaellaaGreatDoor
open Go.RowKit Go.Sort
theorem cq{t:Tr}{l:List Tr}(h:(cH t l).2=0)(m:List Tr):cH t (l++m)=cH t l:=by
 unfold cH at h⊢;by_cases h0:t.x.size=0
 ·rw[if_pos h0,if_pos h0]
 rw[if_neg h0] at h⊢;rw[if_neg h0];cases k:lkB t.x l with
 |none=>rw[k] at h;cases h
 |some w=>rw[wK k]
theorem qg{p:Vl×Int}(h:(mE p).2=0):p.2=0:=by
 unfold mE at h;split at h
 ·rename_i h1;exact absurd h h1
 rename_i h1;simpa using h1
theorem vE{l:List Tr}(m:List Tr):∀(n:Nat) (e:Ex),(bV l n e).2=0→bV (l++m) n e=bV l n e
 |0, .mk op t o ks,h=>cq h m
 |n+1, .mk op t o ks,h=>by
  unfold bV at h⊢;by_cases h0:op=0
  ·rw[if_pos h0] at h;rw[if_pos h0,if_pos h0];exact cq h m
  rw[if_neg h0] at h;rw[if_neg h0,if_neg h0];match ks with
  | [a,b]=>
   simp only at h⊢;by_cases h1:(mE (bV l n a)).2=0
   ·rw[if_neg (by simpa using h1)] at h;by_cases h2:(mE (bV l n b)).2=0
    ·rw[vE m n a (qg h1),vE m n b (qg h2)]
    rw[if_pos h2] at h;exact absurd h h2
   rw[if_pos h1] at h;exact absurd h h1
  | []=>rfl
  | [_]=>rfl
  |_::_::_::_=>rfl
def rtB(l:List Tr):Prop:=∀t∈l,bU t.w=true
theorem A2{l:List Tr}(h:rtB l){t:Tr}(ht:bU t.w=true):rtB (l++[t]):=fun x hx=>by
 rcases Ke.1 hx with q|q
 ·exact h x q
 rw[Kc.1 q];exact ht
theorem EY{x:ByteArray}{w:Vl}{l:List Tr}(h:lkB x l=none)(m:List Tr):lkB x (l++[⟨x,w⟩]++m)=some w:=wK (by rw[qE,h];simp) m
theorem fg:∀{ts:List Tr} {vs:List Vl} {l l2:List Tr},ts.length=vs.length→kE ts vs l=some l2→rtB l→(∀v∈vs,bU v=true)→rtB l2∧∀acc,iS l2 acc ts=(acc++vs,0)
 | [],[],l,l2,_,h,hl,_=>by
  have:some l=some l2:=h;injection this with e;subst e;exact⟨hl,fun acc=>by simp[iS]⟩
 |a::r,v::vs,l,l2,hn,h,hl,hv=>by
  have hv0:=hv v Kb;have key:∀{l0:List Tr},kE r vs l0=some l2→rtB l0→cH a l2=(v,0)→rtB l2∧∀acc,iS l2 acc (a::r)=(acc++v::vs,0):=fun h1 h2 h3=>
   have⟨p,q⟩:=fg (by simpa using hn) h1 h2 fun x hx=>hv x (Ka _ hx)
   ⟨p,fun acc=>by rw[gN,h3,if_neg Zm,q];simp⟩
  rw[kK] at h;by_cases h0:a.x.size=0
  ·rw[if_pos h0] at h;by_cases e:a.w=v
   ·rw[if_pos e] at h;exact key h hl (by unfold cH;rw[if_pos h0,e,if_pos hv0])
   rw[if_neg e] at h;cases h
  rw[if_neg h0] at h;cases k:lkB a.x l with
  |none=>
   rw[k] at h;simp only at h;obtain⟨m,e⟩:=kJ h;exact key h (A2 hl hv0) (by unfold cH;rw[if_neg h0,e,EY k];simp only;rw[if_pos hv0])
  |some w=>
   rw[k] at h;simp only at h;by_cases e:w=v
   ·rw[if_pos e] at h;obtain⟨m,e2⟩:=kJ h;exact key h hl (by unfold cH;rw[if_neg h0,e2,wK k];simp only;rw[e,if_pos hv0])
   rw[if_neg e] at h;cases h
theorem sh{l:List Tr}{e:Ex}(h:(dP l e).size≠0):e.op=0∧dP l e=e.t.x:=by
 unfold dP at h⊢;split at h
 ·exact absurd rfl h
 rename_i hc;rw[if_neg hc];exact⟨by simpa using(not_or.1 hc).1,rfl⟩
theorem Do{e:Ex}{l:List Tr}{w:Vl}(h0:e.op=0)(hx:e.t.x.size≠0)(hk:lkB e.t.x l=some w)(hw:bU w=true)(n:Nat):bV l n e=(w,0):=by
 obtain⟨op,t,o,ks⟩:=e;have h0:op=0:=h0;have ht:cH t l=(w,0):=by
  unfold cH;rw[if_neg (show¬t.x.size=0 from hx),show lkB t.x l=some w from hk];simp only;rw[if_pos hw]
 cases n with
 |zero=>exact ht
 |succ n=>unfold bV;rw[if_pos h0];exact ht
theorem ld{l:List Tr}{x:ByteArray}{e:Ex}{l2:List Tr}(h:(tZ l x e).1=some l2):(bV l 20 e).2=0∧l2=l++[⟨x,(bV l 20 e).1⟩]:=by
 unfold tZ at h;split at h
 ·cases h
 rename_i h1;injection h with h;exact⟨by simpa using h1,h.symm⟩
theorem td{l l2:List Tr}{x:Li}(hx:bO x=true)(h3:x.k=3)(hl:rtB l)(h:(cZ l x).1=some l2):rtB l2∧(∃m,l2=l++m)∧mN l2 x=(true,0):=by
 obtain⟨_,_,px,py⟩:=mT hx h3;have two:∀{e f:Ex},(dP l e).size≠0→dR 20 f=true→(tZ l (dP l e) f).1=some l2→rtB l2∧(∃m,l2=l++m)∧∃w,bV l2 20 e=(w,0)∧bV l2 20 f=(w,0):=by
  intro e f hu hf hs;obtain⟨q1,q2⟩:=ld hs;obtain⟨o1,o2⟩:=sh hu;have hn:=rD hu;rw[o2] at q2 hn hu;have hw:=xB hf q1;refine⟨by rw[q2];exact A2 hl hw,⟨_,q2⟩,_,Do o1 hu ?_ hw 20,?_⟩
  ·rw[q2,qE,hn];simp
  rw[q2,vE _ _ _ q1];exact Prod.ext rfl q1
 unfold cZ at h;split at h
 ·rename_i hc;obtain⟨a,b,w,e1,e2⟩:=two hc.2 py h;exact⟨a,b,by unfold mN nu;rw[e1,e2,hc.1];simp⟩
 split at h
 ·rename_i hc;obtain⟨a,b,w,e1,e2⟩:=two hc.2 px h;exact⟨a,b,by unfold mN nu;rw[e1,e2,hc.1];simp⟩
 split at h
 ·cases h
 rename_i hc;injection h with h;subst h;simp only[not_or,Classical.not_not,Bool.not_eq_false] at hc;exact⟨hl,⟨[],(Km _).symm⟩,Prod.ext hc.2 hc.1⟩
def okB(G:ByteArray→List (List Vl))(x:Li)(e:List Tr):Prop:=if x.k=3 then mN e x=(true,0) else (bY x.a e).2=0∧nL (G x.a.r) (bY x.a e).1=decide (x.k=1)
theorem yJ(a:Am)(L:List (List Vl)):∀(es acc:List (List Tr)),(nX a L acc es).2=0→∀e∈(nX a L acc es).1,e∈acc∨e∈es∧(bY a e).2=0∧nL L (bY a e).1=false
 | [],acc,_,e,he=> .inl he
 |x::r,acc,h,e,he=>by
  rw[qA] at h he;by_cases hx:(bY a x).2=0
  ·rw[if_neg (by simpa using hx)] at h he;rcases yJ a L r _ h e he with q|q
   ·split at q
    ·exact .inl q
    rename_i hn;rcases Ke.1 q with q|q
    ·exact .inl q
    rw[Kc.1 q];exact .inr ⟨Kb,hx,by simpa using hn⟩
   exact .inr ⟨Ka _ q.1,q.2⟩
  rw[if_pos hx] at he;cases he
theorem sM(x:Li):∀(es acc:List (List Tr)),(kD x acc es).2=0→∀e∈(kD x acc es).1,e∈acc∨∃e0∈es,(cZ e0 x).1=some e
 | [],acc,_,e,he=> .inl he
 |y::r,acc,h,e,he=>by
  rw[pR] at h he;obtain⟨⟨o,n⟩,ho⟩:∃p,cZ y x=p:=⟨_,rfl⟩;rw[ho] at h he;cases o with
  |some l=>
   rcases sM x r _ h e he with q|⟨e0,q,q2⟩
   ·rcases Ke.1 q with q|q
    ·exact .inl q
    rw[Kc.1 q];exact .inr ⟨y,Kb,by rw[ho]⟩
   exact .inr ⟨e0,Ka _ q,q2⟩
  |none=>
   simp only at h he;by_cases hn:n=0
   ·rw[if_neg (by simpa using hn)] at h he;rcases sM x r _ h e he with q|⟨e0,q,q2⟩
    ·exact .inl q
    exact .inr ⟨e0,Ka _ q,q2⟩
   rw[if_pos hn] at he;cases he
theorem D0{G:ByteArray→List (List Vl)}(hG:∀x,∀t∈G x,∀v∈t,bU v=true){x:Li}(hx:bO x=true){es:List (List Tr)}(he:∀e∈es,rtB e)(h:(gX G x es).2=0):∀e∈(gX G x es).1,rtB e∧okB G x e∧∃e0∈es,∃m,e=e0++m:=by
 intro e hm;unfold gX at h hm;unfold okB;by_cases h1:x.k=1
 ·rw[if_pos h1] at hm;unfold yL at hm;obtain⟨e0,q0,hm⟩:=Kv.1 hm;obtain⟨t,ht,hm⟩:=Kq.1 hm;unfold gY at hm;split at hm
  ·cases hm
  rename_i hl;have hl:x.a.l.length=t.length:=by simpa using hl
  have h6:x.a.l.length≤6:=(gH hx).1;obtain⟨p,q⟩:=fg hl hm (he e0 q0) (hG _ t ht);have hA:bY x.a e=(t,0):=by unfold bY;rw[if_neg or,q];rfl
  rw[if_neg or,hA];exact⟨p,⟨rfl,by rw[decide_eq_true h1];exact List.any_eq_true.2 ⟨t,ht,decide_eq_true rfl⟩⟩,e0,q0,kJ hm⟩
 rw[if_neg h1] at h hm;by_cases h2:x.k=2
 ·rw[if_pos h2] at h hm;rcases yJ _ _ _ _ h e hm with q|⟨q,q1,q2⟩
  ·cases q
  rw[if_neg or];exact⟨he e q,⟨q1,by rw[q2,decide_eq_false h1]⟩,e,q,[],(Km _).symm⟩
 rw[if_neg h2] at h hm;have h3:x.k=3:=by have:=lF hx;omega
 rcases sM _ _ _ h e hm with q|⟨e0,q,q2⟩
 ·cases q
 obtain⟨a,b,c⟩:=td hx h3 (he e0 q) q2;rw[if_pos h3];exact⟨a,c,e0,q,b⟩
theorem Hq{r:Ru}(h:qB r=0):dF r=true∧eF r (kC r) false=[]:=by
 unfold qB at h;split at h
 ·cases h
 rename_i h1;split at h
 ·cases h
 rename_i h2;exact⟨by simpa using h1,by simpa using h2⟩
theorem BO{t:List Vl}(h:qV t=true):∀v∈t,bU v=true:=by
 unfold qV at h;simp only[Kd] at h;exact List.all_eq_true.1 h.2
theorem sj{S:List Sr}(hS:∀s∈S,fR s.ar s.zs):∀x,∀t∈cD S x,∀v∈t,bU v=true:=by
 intro x t ht;have key:∀{l:List Sr} {s:Sr},lkS x l=some s→s∈l:=by
  intro l s h;induction l with
  |nil=>cases h
  |cons a l ih=>
   unfold lkS at h;split at h
   ·injection h with h;rw[←h];exact Kb
   exact Ka _ (ih h)
 unfold cD at ht;cases k:lkS x S with
 |none=>rw[k] at ht;cases ht
 |some s=>
  rw[k] at ht;obtain⟨z,hz,rfl⟩:=Kk.1 ht;exact BO ((hS s (key k)).row z hz).1
def qX(l:List Tr)(x:ByteArray):Prop:=∃w,lkB x l=some w
theorem Dd{l:List Tr}{x:ByteArray}(h:qX l x)(m:List Tr):qX (l++m) x:=h.imp fun _ k=>wK k m
def HR(l:List Tr)(ts:List Tr):Prop:=∀t∈ts,t.x.size≠0→qX l t.x
theorem zf{e:Ex}(he:dR 20 e=true)(h0:e.op=0):e.ts=[e.t]:=by
 obtain⟨op,t,o,ks⟩:=e;have h0:op=0:=h0;unfold dR at he;rw[if_pos h0] at he;simp only[decide_eq_true_eq] at he;rw[Ex.aCF];exact if_pos he.1
theorem cn{t:Tr}{l:List Tr}(h:(cH t l).2=0)(h0:t.x.size≠0):qX l t.x:=by
 unfold cH at h;rw[if_neg h0] at h;cases k:lkB t.x l with
 |none=>rw[k] at h;cases h
 |some w=>exact⟨w,k⟩
theorem uw{l:List Tr}:∀(ts:List Tr) (acc:List Vl),(iS l acc ts).2=0→HR l ts
 | [],acc,_,t,ht,_=>by cases ht
 |a::r,acc,h,t,ht,h0=>by
  rw[gN] at h;by_cases e:(cH a l).2=0
  ·rw[if_neg (by simpa using e)] at h;rcases Ki.1 ht with rfl|ht
   ·exact cn e h0
   exact uw r _ h t ht h0
  rw[if_pos e] at h;exact absurd h e
theorem xA{l:List Tr}:∀(n:Nat) (e:Ex),dR n e=true→(bV l n e).2=0→HR l e.ts
 |0, .mk op t o ks,hr,h=>by
  unfold dR at hr;simp only[decide_eq_true_eq] at hr;obtain⟨_,rfl,_⟩:=hr;rw[Ex.aCF];intro t' ht h0;have:t'=t:=by simpa [Ex.kids,Ex.t] using ht
  subst this;exact cn h h0
 |n+1, .mk op t o ks,hr,h=>by
  unfold bV at h;unfold dR at hr;by_cases h0:op=0
  ·rw[if_pos h0] at hr h;simp only[decide_eq_true_eq] at hr;obtain⟨rfl,_⟩:=hr;rw[Ex.aCF];intro t' ht h0;have:t'=t:=by simpa [Ex.kids,Ex.t] using ht
   subst this;exact cn h h0
  rw[if_neg h0] at hr h;match ks,hr,h with
  | [a,b],hr,h=>
   simp only[decide_eq_true_eq] at hr h;have hts:(Ex.mk op t o [a,b]).ts=a.ts++b.ts:=by rw[Ex.aCF];simp[Ex.kids]
   by_cases h1:(mE (bV l n a)).2=0
   ·rw[if_neg (by simpa using h1)] at h;by_cases h2:(mE (bV l n b)).2=0
    ·rw[hts];intro t' ht h0;rcases Ke.1 ht with q|q
     ·exact xA n a hr.2.2.2.1 (qg h1) t' q h0
     exact xA n b hr.2.2.2.2 (qg h2) t' q h0
    rw[if_pos h2] at h;exact absurd h h2
   rw[if_pos h1] at h;exact absurd h h1
theorem Hg{G:ByteArray→List (List Vl)}{x:Li}(hx:bO x=true)(h2:x.k≠2){e:List Tr}(h:okB G x e):∀v∈x.vars,qX e v:=by
 intro v hv;obtain⟨t,ht,rfl,h0⟩:=pD.1 hv;unfold okB at h;unfold Li.ts at ht;simp only[Ke] at ht;by_cases h3:x.k=3
 ·rw[if_pos h3] at h;obtain⟨_,_,px,py⟩:=mT hx h3;have ha:x.a.l=[]:=by
   unfold bO at hx;rw[if_neg or] at hx;simp only[Kd,decide_eq_true_eq] at hx;exact hx.1.1.2.2.1
  unfold mN at h;split at h
  ·rename_i e1;injection h with _ h;exact absurd h e1
  rename_i e1;split at h
  ·rename_i e2;injection h with _ h;exact absurd h e2
  rename_i e2;rcases ht with ht|ht|ht
  ·rw[ha] at ht;cases ht
  ·exact xA 20 _ px (by simpa using e1) t ht h0
  exact xA 20 _ py (by simpa using e2) t ht h0
 rw[if_neg h3] at h;have h1:x.k=1:=by have:=lF hx;omega
 have hz:qQ x.x=true∧qQ x.y=true:=by
  unfold bO at hx;rw[if_pos (.inl h1)] at hx;simp only[Kd] at hx;exact⟨hx.1.2,hx.2⟩
 have h6:x.a.l.length≤6:=(gH hx).1;rcases ht with ht|ht|ht
 ·have hm:=h.1;unfold bY at hm;rw[if_neg or] at hm;exact uw _ _ hm t ht h0
 ·obtain⟨q1,q2⟩:=rr hz.1;rw[q1] at ht;rw[Kc.1 ht] at h0;exact absurd q2 h0
 obtain⟨q1,q2⟩:=rr hz.2;rw[q1] at ht;rw[Kc.1 ht] at h0;exact absurd q2 h0
def pz(b:List Li):List ByteArray→List Nat→Prop
 |_,[]=>True
 |s,k::ks=>((b.getD k default).k=1∨eR s (b.getD k default)=true)∧pz b (s++(b.getD k default).vars) ks
theorem uk(r:Ru):pz r.b [] (bA r):=by
 have key:∀(n:Nat) (s:List ByteArray) (left:List Nat),pz r.b s ((iZ r n s left).map Prod.fst):=by
  intro n;induction n with
  |zero=>exact fun _ _=>trivial
  |succ n ih=>
   intro s left;unfold iZ;split
   ·trivial
   rename_i h;rcases ei r s left with e|⟨i,e,hi⟩
   ·omega
   rw[e];simp only[Kt,Ky];refine⟨?_,ih _ _⟩;have hd:left.getD i 0=left[i]:=by rw[Kf,Kh hi];rfl
   rw[hd];unfold nA at e;split at e
   ·obtain⟨_,q,_⟩:=(rX _ left).2 i e;exact .inr q
   obtain⟨_,q,_⟩:=(rX _ left).2 i e;exact .inl (by simpa using q)
 exact key _ _ _
theorem vD{α β:Type}{f g:α→List β}:∀{l:List α},(∀a∈l,f a=g a)→l.flatMap f=l.flatMap g
 | [],_=>rfl
 |a::l,h=>by rw[Ku,Ku,h a Kb,vD fun b hb=>h b (Ka _ hb)]
theorem jZ{α β:Type}{f g:α→Option β}:∀{l:List α},(∀a∈l,f a=g a)→l.filterMap f=l.filterMap g
 | [],_=>rfl
 |a::l,h=>by rw[Kg,Kg,h a Kb,jZ fun b hb=>h b (Ka _ hb)]
def Eqv(a b:List Tr):Prop:=∀x,lkB x a=lkB x b
def OEq:Option (List Tr)→Option (List Tr)→Prop
 |some a,some b=>Eqv a b
 |none,none=>True
 |_,_=>False
theorem Eqv.snoc{a b:List Tr}(h:Eqv a b)(t:Tr):Eqv (a++[t]) (b++[t]):=fun x=>by rw[qE,qE,h x]
theorem xT{a b:List Tr}(h:Eqv a b)(t:Tr):cH t a=cH t b:=by unfold cH;rw[h t.x]
theorem yN{a b:List Tr}(h:Eqv a b):∀(ts:List Tr) (acc:List Vl),iS a acc ts=iS b acc ts
 | [],_=>rfl
 |t::r,acc=>by rw[gN,gN,xT h,yN h r]
theorem Ct{a b:List Tr}(h:Eqv a b)(m:Am):bY m a=bY m b:=by unfold bY;rw[yN h]
theorem pK{a b:List Tr}(h:Eqv a b):∀(n:Nat) (e:Ex),bV a n e=bV b n e
 |0, .mk op t o ks=>xT h t
 |n+1, .mk op t o ks=>by
  unfold bV;by_cases h0:op=0
  ·rw[if_pos h0,if_pos h0];exact xT h t
  rw[if_neg h0,if_neg h0];match ks with
  | [x,y]=>simp only;rw[pK h n x,pK h n y]
  | []=>rfl
  | [_]=>rfl
  |_::_::_::_=>rfl
theorem cj{a b:List Tr}(h:Eqv a b)(e:Ex):dP a e=dP b e:=by unfold dP;rw[h]
theorem BQ{a b:List Tr}(h:Eqv a b)(x:Li):mN a x=mN b x:=by unfold mN;rw[pK h,pK h]
theorem tq{a b:List Tr}(h:Eqv a b)(x:ByteArray)(e:Ex):OEq (tZ a x e).1 (tZ b x e).1∧(tZ a x e).2=(tZ b x e).2:=by
 unfold tZ;rw[pK h];split
 ·exact⟨trivial,rfl⟩
 exact⟨h.snoc _,rfl⟩
theorem y0{a b:List Tr}(h:Eqv a b)(x:Li):OEq (cZ a x).1 (cZ b x).1∧(cZ a x).2=(cZ b x).2:=by
 unfold cZ;rw[cj h,cj h,BQ h];split
 ·exact tq h _ _
 split
 ·exact tq h _ _
 split
 ·exact⟨trivial,rfl⟩
 exact⟨h,rfl⟩
theorem sR:∀(ts:List Tr) (vs:List Vl) {a b:List Tr},Eqv a b→OEq (kE ts vs a) (kE ts vs b)
 | [],[],_,_,h=>h
 | [],_::_,_,_,h=>h
 |_::_,[],_,_,h=>h
 |x::r,v::vs,a,b,h=>by
  rw[kK,kK];split
  ·split
   ·exact sR r vs h
   trivial
  rw[h x.x];cases lkB x.x b with
  |none=>exact sR r vs (h.snoc _)
  |some w=>
   simp only;split
   ·exact sR r vs h
   trivial
theorem Cr{a b:List Tr}(h:Eqv a b)(m:Am)(t:List Vl):OEq (gY m t a) (gY m t b):=by
 unfold gY;split
 ·trivial
 exact sR _ _ h
theorem tz{a b:List Tr}(h:Eqv a b)(xs:List ByteArray):fM a xs=fM b xs:=by
 unfold fM;exact List.map_congr_left fun x _=>by rw[h x]
def rb(l:List Tr)(xs:List ByteArray):Prop:=∀x,qX l x↔x∈xs
theorem Bv{f:ByteArray→Vl}:∀{hv:List ByteArray} {x:ByteArray},x∈hv→lkB x (nM hv (hv.map f))=some (f x)
 |y::ys,x,h=>by
  show lkB x (⟨y,f y⟩::nM ys (ys.map f))=_;unfold lkB;by_cases e:y=x
  ·rw[if_pos e,e]
  rw[if_neg e];exact Bv ((Ki.1 h).resolve_left fun q=>e q.symm)
theorem bp{e:List Tr}{hv:List ByteArray}(hd:rb e hv):Eqv (nM hv (fM e hv)) e:=fun x=>by
 by_cases hx:x∈hv
 ·obtain⟨w,hw⟩:=(hd x).2 hx;have:=Bv (f:=fun x=>(lkB x e).getD oQ) hx;rw[hw] at this⊢;exact this
 rw[qw hx];cases k:lkB x e with
 |none=>rfl
 |some w=>exact absurd ((hd x).1 ⟨w,k⟩) hx
theorem nw{l:List Tr}{t:Tr}{x:ByteArray}(h:qX (l++[t]) x):qX l x∨t.x=x:=by
 obtain⟨w,hw⟩:=h;rw[qE] at hw;cases k:lkB x l with
 |some v=>exact .inl ⟨v,k⟩
 |none=>
  rw[k] at hw;simp only at hw;split at hw
  ·rename_i e;exact .inr e
  cases hw
theorem ff:∀{ts:List Tr} {vs:List Vl} {l l2:List Tr},kE ts vs l=some l2→∀x,qX l2 x→qX l x∨∃t∈ts,t.x=x∧t.x.size≠0
 | [],[],l,l2,h,x,hx=>by have h:some l=some l2:=h;injection h with h;subst h;exact .inl hx
 | [],_::_,l,l2,h,x,hx=>by have h:some l=some l2:=h;injection h with h;subst h;exact .inl hx
 |_::_,[],l,l2,h,x,hx=>by have h:some l=some l2:=h;injection h with h;subst h;exact .inl hx
 |a::r,v::vs,l,l2,h,x,hx=>by
  have key:∀{l0:List Tr},kE r vs l0=some l2→qX l0 x∨∃t∈a::r,t.x=x∧t.x.size≠0:=fun h1=>
   (ff h1 x hx).imp id fun⟨t,ht,q⟩=>⟨t,Ka _ ht,q⟩
  rw[kK] at h;by_cases h0:a.x.size=0
  ·rw[if_pos h0] at h;split at h
   ·exact key h
   cases h
  rw[if_neg h0] at h;cases k:lkB a.x l with
  |none=>
   rw[k] at h;rcases key h with q|q
   ·rcases nw q with q|q
    ·exact .inl q
    exact .inr ⟨a,Kb,q,h0⟩
   exact .inr q
  |some w=>
   rw[k] at h;simp only at h;split at h
   ·exact key h
   cases h
theorem DS{l:List Tr}{e:Ex}(he:dR 20 e=true)(h:(dP l e).size≠0):∃t∈e.ts,t.x=dP l e∧t.x.size≠0:=by
 obtain⟨h0,h1⟩:=sh h;rw[zf he h0];exact⟨e.t,Kc.2 rfl,h1.symm,h1▸h⟩
theorem tc{l l2:List Tr}{x:Li}(hx:bO x=true)(h3:x.k=3)(h:(cZ l x).1=some l2):∀y,qX l2 y→qX l y∨y∈x.vars:=by
 obtain⟨_,_,px,py⟩:=mT hx h3;intro y hy;have two:∀{e f:Ex},dR 20 e=true→(∀t∈e.ts,t∈x.ts)→(dP l e).size≠0→(tZ l (dP l e) f).1=some l2→qX l y∨y∈x.vars:=fun he hs hu hb=>by
  obtain⟨_,q2⟩:=ld hb;rw[q2] at hy;rcases nw hy with q|q
  ·exact .inl q
  obtain⟨t,ht,e1,e2⟩:=DS he hu;exact .inr (pD.2 ⟨t,hs t ht,e1.trans q,e2⟩)
 unfold cZ at h;split at h
 ·rename_i hc;exact two px HP hc.2 h
 split at h
 ·rename_i hc;exact two py HO hc.2 h
 split at h
 ·cases h
 injection h with h;subst h;exact .inl hy
theorem ur(a:Am)(L:List (List Vl)):∀(es acc:List (List Tr)),(nX a L acc es).2=0→(nX a L acc es).1=acc++es.filter (fun e=> !nL L (bY a e).1)∧∀e∈es,(bY a e).2=0
 | [],acc,_=>⟨by simp[nX],Zm⟩
 |e::r,acc,h=>by
  rw[qA] at h⊢;by_cases h0:(bY a e).2=0
  ·rw[if_neg (by simpa using h0)] at h⊢;obtain⟨p,q⟩:=ur a L r _ h;refine⟨?_,fun y hy=>?_⟩
   ·rw[p,List.filter_cons];cases nL L (bY a e).1<;>simp
   rcases Ki.1 hy with rfl|hy
   ·exact h0
   exact q y hy
  rw[if_pos h0] at h;exact absurd h h0
theorem df(x:Li):∀(es acc:List (List Tr)),(kD x acc es).2=0→(kD x acc es).1=acc++es.filterMap (fun e=>(cZ e x).1)∧∀e∈es,(cZ e x).1=none→(cZ e x).2=0
 | [],acc,_=>⟨by simp[kD],Zm⟩
 |e::r,acc,h=>by
  rw[pR] at h⊢;obtain⟨⟨o,n⟩,ho⟩:∃p,cZ e x=p:=⟨_,rfl⟩;rw[ho] at h⊢;cases o with
  |some l=>
   obtain⟨p,q⟩:=df x r _ h;refine⟨?_,fun y hy hn=>?_⟩
   ·show(kD x (acc++[l]) r).1=_;rw[p,Kg,ho];simp
   rcases Ki.1 hy with rfl|hy
   ·rw[ho] at hn;cases hn
   exact q y hy hn
  |none=>
   simp only at h⊢;by_cases hn:n=0
   ·rw[if_neg (by simpa using hn)] at h⊢;obtain⟨p,q⟩:=df x r _ h;refine⟨?_,fun y hy h1=>?_⟩
    ·rw[p,Kg,ho]
    rcases Ki.1 hy with rfl|hy
    ·rw[ho];exact hn
    exact q y hy h1
   rw[if_pos hn] at h;exact absurd h hn
theorem ut{hv:List ByteArray}{x:Li}{y:ByteArray}:y∈nmL hv x.ts↔y∈hv∨y∈x.vars:=by rw[qi,pD]
theorem F3{G:ByteArray→List (List Vl)}(hG:∀x,∀t∈G x,∀v∈t,bU v=true){x:Li}(hx:bO x=true){hv:List ByteArray}{es:List (List Tr)}(hes:∀e∈es,rtB e∧rb e hv)(hr:x.k=1∨eR hv x=true)(h0:(gX G x es).2=0):
 ∀e∈(gX G x es).1,rtB e∧rb e (nmL hv x.ts):=by
 intro e he;obtain⟨q1,q2,e0,q3,m,q4⟩:=D0 hG hx (fun e he=>(hes e he).1) h0 e he;refine⟨q1,fun y=>?_⟩;rw[ut];constructor
 ·intro hy;unfold gX at h0 he;by_cases h1:x.k=1
  ·rw[if_pos h1] at he;obtain⟨e1,p1,p2⟩:=Kv.1 he;obtain⟨t,_,p3⟩:=Kq.1 p2;unfold gY at p3;split at p3
   ·cases p3
   rcases ff p3 y hy with q|⟨t,ht,q⟩
   ·exact .inl (((hes e1 p1).2 y).1 q)
   exact .inr (pD.2 ⟨t,by simp[Li.ts,ht],q⟩)
  rw[if_neg h1] at he h0;by_cases h2:x.k=2
  ·rw[if_pos h2] at he h0;rcases yJ _ _ _ _ h0 e he with q|⟨q,_⟩
   ·cases q
   exact .inl (((hes e q).2 y).1 hy)
  rw[if_neg h2] at he h0;have h3:x.k=3:=by have:=lF hx;omega
  rcases sM _ _ _ h0 e he with q|⟨e1,p1,p2⟩
  ·cases q
  rcases tc hx h3 p2 y hy with q|q
  ·exact .inl (((hes e1 p1).2 y).1 q)
  exact .inr q
 intro hy;have old:y∈hv→qX e y:=fun q=>by rw[q4];exact Dd (((hes e0 q3).2 y).2 q) m
 rcases hy with q|q
 ·exact old q
 by_cases h2:x.k=2
 ·refine old ?_;have hr:=hr.resolve_left or;unfold eR iE at hr;rw[show(decide (x.k=3∧x.op=1))=false from decide_eq_false or] at hr;simp only[Ko,Kp,Kd] at hr;exact lQ.1 hr.2 y q
 exact Hg hx h2 q2 y q
section
variable{R:Ru}{ps:List PS}{i:Int}{x:Li}{k:Nat}{hv:List ByteArray}
theorem ml(hi:0≤i∧i<ps.length)(hs:dW ps i=cY x k hv)(hl:nJ R ps i=x)(h1:x.k=1){e:List Tr}(hd:rb e hv)(t:List Vl):
 gA R ps i (fM e hv) t=(match gY x.a t e with
  |some l=>(fM l (nmL hv x.ts),true,0)
  |none=>([],false,0)):=by
 have hE:=Cr (bp hd) x.a t;have hk:(cY x k hv).k=1:=by unfold cY;simp[h1]
 unfold gA;rw[if_neg (fun q=>q hi),hs,hl,if_neg (by simp[cY,fM])];unfold goB;rw[if_pos hk,show(cY x k hv).hv=hv from rfl,show(cY x k hv).wt=nmL hv x.ts from rfl];simp only;revert hE;cases gY x.a t (nM hv (fM e hv))<;>cases gY x.a t e<;>intro hE
 ·rfl
 ·cases hE
 ·cases hE
 simp only;rw[tz hE]
theorem mj(hi:0≤i∧i<ps.length)(hs:dW ps i=cY x k hv)(hl:nJ R ps i=x)(h3:x.k=3){e:List Tr}(hd:rb e hv)(t:List Vl):
 gA R ps i (fM e hv) t=(match (cZ e x).1 with
  |some l=>(fM l (nmL hv x.ts),true,0)
  |none=>([],false,(cZ e x).2)):=by
 obtain⟨hE,hE2⟩:=y0 (bp hd) x;have hk:(cY x k hv).k=3:=by unfold cY;simp[h3]
 unfold gA;rw[if_neg (fun q=>q hi),hs,hl,if_neg (by simp[cY,fM])];unfold goB;rw[if_neg or,if_neg or,show(cY x k hv).hv=hv from rfl,show(cY x k hv).wt=nmL hv x.ts from rfl,hE2];revert hE;cases (cZ (nM hv (fM e hv)) x).1<;>cases (cZ e x).1<;>intro hE
 ·rfl
 ·cases hE
 ·cases hE
 simp only;rw[tz hE]
theorem sk{s:List ByteArray}{L:List Tr}:∀(ts:List Tr) (i:Nat),L.drop i=ts→(∀t∈ts,t.x.size≠0→t.x∈s)→(iQ s i ts).map (fun c=>L.getD c default)=ts
 | [],i,_,_=>rfl
 |t::r,i,h,hs=>by
  have hlt:i<L.length:=by
   rcases Nat.lt_or_ge i L.length with q|q
   ·exact q
   rw[List.drop_of_length_le q] at h;cases h
  rw[Kj hlt] at h;injection h with h1 h2;unfold iQ;rw[if_pos,Ky,sk r (i+1) h2 fun t ht=>hs t (Ka _ ht)]
  ·rw[Kf,Kh hlt];show L[i]::r=_;rw[h1]
  by_cases h0:t.x.size=0
  ·rw[decide_eq_true h0];rfl
  rw[eY.2 (hs t Kb h0)];simp
theorem nh(hi:0≤i∧i<ps.length)(hs:dW ps i=cY x k hv)(hl:nJ R ps i=x)(h2:x.k=2)(hx:bO x=true)(hr:eR hv x=true){e:List Tr}(hd:rb e hv):pG R ps i (fM e hv)=bY x.a e:=by
 have hk:(cY x k hv).k=2:=by unfold cY;simp[h2]
 have hal:=(gH hx).1;have aAc:∀y∈x.vars,y∈hv:=by
  unfold eR iE at hr;rw[show(decide (x.k=3∧x.op=1))=false from decide_eq_false or] at hr;simp only[Ko,Kp,Kd] at hr;exact lQ.1 hr.2
 have hky:CK R ps i=x.a.l:=by
  unfold CK;rw[hs,hl];have:(cY x k hv).ky=iQ hv 0 x.a.l:=by unfold cY;simp[h2,rF]
  rw[this];exact sk _ 0 rfl fun t ht h0=>aAc _ (pD.2 ⟨t,by simp[Li.ts,ht],rfl,h0⟩)
 unfold pG;rw[if_neg (by rw[hs];omega),hky,hs,if_neg (by simp[cY,fM]),show(cY x k hv).hv=hv from rfl,yN (bp hd)];unfold bY;rw[if_neg or]
end
def Ef(G:ByteArray→List (List Vl))(R:Ru)(ps:List PS)(i:Int)(L:List (List Vl)):List (List Vl):=
 if (dW ps i).k=1 then L.flatMap fun v=>(G (nJ R ps i).a.r).filterMap fun t=>if (gA R ps i v t).2.1=true then some (gA R ps i v t).1 else none
 else if (dW ps i).k=2 then L.filter fun v=> !nL (G (nJ R ps i).a.r) (pG R ps i v).1
 else L.filterMap fun v=>if (gA R ps i v []).2.1=true then some (gA R ps i v []).1 else none
def F4(G:ByteArray→List (List Vl))(R:Ru)(ps:List PS)(i:Int)(L:List (List Vl)):Prop:=
 ∀v∈L,((dW ps i).k=1→∀t,(gA R ps i v t).2.2=0)∧((dW ps i).k=2→(pG R ps i v).2=0)∧((dW ps i).k=3→(gA R ps i v []).2.2=0)
theorem Ed{G:ByteArray→List (List Vl)}{R:Ru}{ps:List PS}{i:Int}{x:Li}{k:Nat}{hv:List ByteArray}(hi:0≤i∧i<ps.length)(hs:dW ps i=cY x k hv)(hl:nJ R ps i=x)(hx:bO x=true){es:List (List Tr)}(hes:∀e∈es,rb e hv)(hr:x.k=1∨eR hv x=true)(h0:(gX G x es).2=0):
 F4 G R ps i (es.map fun e=>fM e hv)∧Ef G R ps i (es.map fun e=>fM e hv)=(gX G x es).1.map fun e=>fM e (nmL hv x.ts):=by
 have hk:(dW ps i).k=x.k:=by rw[hs];exact pl hx k hv
 unfold F4 Ef;rw[hk,hl];unfold gX at h0⊢;by_cases h1:x.k=1
 ·simp only[if_pos h1];refine⟨fun v hv'=>?_,?_⟩
  ·obtain⟨e,he,rfl⟩:=Kk.1 hv';refine⟨fun _ t=>?_,fun q=>or,fun q=>or⟩;rw[ml hi hs hl h1 (hes e he)];cases gY x.a t e<;>rfl
  unfold yL;rw[List.map_flatMap,List.flatMap_map];refine vD fun e he=>?_;rw[Ks];refine jZ fun t ht=>?_;rw[ml hi hs hl h1 (hes e he)];cases gY x.a t e<;>rfl
 simp only[if_neg h1] at h0⊢;by_cases h2:x.k=2
 ·simp only[if_pos h2] at h0⊢;have hr:=hr.resolve_left h1;obtain⟨p,q⟩:=ur _ _ _ _ h0;have hw:nmL hv x.ts=hv:=by
   unfold eR iE at hr;rw[show(decide (x.k=3∧x.op=1))=false from decide_eq_false or] at hr;simp only[Ko,Kp,Kd] at hr;have aAc:=lQ.1 hr.2;rw[um,List.filter_eq_nil_iff.2,Km];intro y hy;rw[eY.2 (aAc y hy)];simp
  refine⟨fun v hv'=>?_,?_⟩
  ·obtain⟨e,he,rfl⟩:=Kk.1 hv';refine⟨fun q=>or,fun _=>?_,fun q=>or⟩;rw[nh hi hs hl h2 hx hr (hes e he)];exact q e he
  rw[p,hw,Kx,List.filter_map];congr 1;refine List.filter_congr fun e he=>?_;show(!nL _ (pG R ps i (fM e hv)).1)=_;rw[nh hi hs hl h2 hx hr (hes e he)]
 simp only[if_neg h2] at h0⊢;have h3:x.k=3:=by have:=lF hx;omega
 obtain⟨p,q⟩:=df _ _ _ h0;refine⟨fun v hv'=>?_,?_⟩
 ·obtain⟨e,he,rfl⟩:=Kk.1 hv';refine⟨fun q=>or,fun q=>or,fun _=>?_⟩;rw[mj hi hs hl h3 (hes e he)];have:=q e he;cases hso:(cZ e x).1 with
  |none=>exact this hso
  |some l=>rfl
 rw[p,Kx,Ks,List.filterMap_map];refine jZ fun e he=>?_;show(if (gA R ps i (fM e hv) []).2.1=true then _ else _)=_;rw[mj hi hs hl h3 (hes e he)];cases (cZ e x).1<;>rfl
theorem uh(r:Ru):∀(ks:List Nat) (hv:List ByteArray) (i:Nat) (h:i<ks.length),(lG r ks hv).getD i default=cY (r.b.getD ks[i] default) ks[i] (cB r (ks.take i) hv)
 |k::ks,hv,0,_=>rfl
 |k::ks,hv,i+1,h=>by
  have:=uh r ks (nmL hv (r.b.getD k default).ts) i (by simpa using h);simpa [lG,cB] using this
structure jk(G:ByteArray→List (List Vl))(r:Ru)(i:Nat)(L:List (List Vl)):Prop where
 le:i≤(bA r).length
 ex:∃es,L=es.map (fun e=>fM e (cB r ((bA r).take i) []))∧(∀e∈es,rtB e∧rb e (cB r ((bA r).take i) []))∧jY G r.b ((bA r).drop i) es=jY G r.b (bA r) [[]]∧es.length≤20000
 rd:∃s,(∀v,v∈s↔v∈cB r ((bA r).take i) [])∧pz r.b s ((bA r).drop i)
theorem B5(G:ByteArray→List (List Vl))(r:Ru):jk G r 0 [[]]:=by
 refine⟨Nat.zero_le _,⟨[[]],rfl,fun e he=>?_,rfl,Zm⟩,⟨[],fun v=>Iff.rfl,uk r⟩⟩;rw[Kc.1 he];exact⟨fun t ht=>(by cases ht),fun x=>⟨fun⟨w,hw⟩=>(by cases hw),fun h=>(by cases h)⟩⟩
theorem Ar{s t:List ByteArray}(h:∀v,v∈s↔v∈t)(x:Li):eR s x=eR t x:=by
 have hb:∀y,cR y s=cR y t:=fun y=>by rw[Bool.eq_iff_iff,eY,eY];exact h y
 have ha:∀vs,nR s vs=nR t vs:=fun vs=>by unfold nR;exact congrArg _ (funext hb)
 unfold eR iE;rw[ha,ha,ha,hb,hb]
theorem jk.step{G:ByteArray→List (List Vl)}(hG:∀x,∀t∈G x,∀v∈t,bU v=true){r:Ru}(hr:dF r=true)(h0:(jY G r.b (bA r) [[]]).2=0){i:Nat}{L:List (List Vl)}(hR:jk G r i L)(hi:i<(bA r).length):
 F4 G r.lo (bG r) i L∧jk G r (i+1) (Ef G r.lo (bG r) i L):=by
 obtain⟨_,⟨es,rfl,hes,hf,hel⟩,s,hs,hrd⟩:=hR;have hlt:=rO r _ (Kw hi);have hdr:=Kj hi;have htk:(bA r).take (i+1)=(bA r).take i++[(bA r)[i]]:=List.take_succ_eq_append_getElem hi;rw[hdr] at hf hrd;have hsp:dW (bG r) (i:Int)=cY (r.b.getD (bA r)[i] default) (bA r)[i] (cB r ((bA r).take i) []):=by
  unfold dW bG;rw[Kt,uh r _ _ i hi]
 have hli:nJ r.lo (bG r) (i:Int)=r.b.getD (bA r)[i] default:=by
  unfold nJ;rw[hsp];rfl
 have hlen:(bG r).length=(bA r).length:=pA r _ _;have hx:bO (r.b.getD (bA r)[i] default)=true:=by
  rw[Kf,Kh hlt];exact(dE hr).2.2 _ (Kw hlt)
 have hbe:cB r ((bA r).take (i+1)) []=nmL (cB r ((bA r).take i) []) (r.b.getD (bA r)[i] default).ts:=by rw[htk,qO]
 generalize (bA r)[i]=k at*;generalize cB r ((bA r).take i) []=hv at*;have hre:(r.b.getD k default).k=1∨eR hv (r.b.getD k default)=true:=by
  rw[←Ar hs];exact hrd.1
 rw[←hf] at h0;have hst:(gX G (r.b.getD k default) es).2=0:=by
  unfold jY at h0;split at h0
  ·rename_i q;exact absurd h0 q
  rename_i q;simpa using q
 have hfl:(gX G (r.b.getD k default) es).1.length≤20000:=by
  unfold jY at h0;rw[if_neg (by simpa using hst)] at h0;split at h0
  ·cases h0
  omega
 obtain⟨p,q⟩:=Ed (R:=r.lo) (ps:=bG r) (i:=i) or hsp hli hx (fun e he=>(hes e he).2) hre hst;refine⟨p,hi,⟨(gX G (r.b.getD k default) es).1,by rw[q,hbe],?_,?_,hfl⟩,s++(r.b.getD k default).vars,fun v=>?_,hrd.2⟩
 ·rw[hbe];exact F3 hG hx hes hre hst
 ·rw[←hf];conv=>rhs;unfold jY
  rw[if_neg (by simpa using hst),if_neg or]
 rw[hbe,ut,Ke,hs]
theorem jk.done{G:ByteArray→List (List Vl)}{r:Ru}{L:List (List Vl)}(hR:jk G r (bA r).length L):∀{es:List (List Tr)},jY G r.b (bA r) [[]]=(es,0)→L=es.map (fun e=>fM e (cB r (bA r) []))∧∀e∈es,rb e (cB r (bA r) []):=by
 intro es h0;obtain⟨_,⟨es',rfl,hes,hf,_⟩,_⟩:=hR;rw[List.drop_length,h0] at hf;injection hf with hf _;rw[List.take_length] at hes⊢;exact⟨by rw[hf],fun e he=>(hes e (hf▸he)).2⟩
end Go.Proofs.YtlhedpgobaellaaGreatDoor
