/-
Texts of this proof,one behind the other. No conditions.
-/
import Derived.Test.YtlhedpgobaellaaGreatDoorKw
open List renaming mem_cons_of_mem→Ka,mem_append→Kb,mem_cons_self→Kc,mem_singleton→Kd,getD_eq_getElem?_getD→Ke,getElem?_eq_getElem→Kf,mem_cons→Kg,mem_flatMap→Ki,mem_map→Kj,mem_filterMap→Kk,drop_eq_getElem_cons→Ko,getElem_mem→Kp,append_nil→Kq,take_append_drop→Ks,mem_range→Kt,pairwise_cons→Ku,all_eq_true→Kw,mem_filter→Kx,map_cons→Kz
open Bool renaming and_eq_true→Kh,or_eq_true→Ky
open Classical renaming not_not→Km
open Int renaming toNat_natCast→Kv
set_option linter.all false
set_option maxHeartbeats 8000000
namespace Go.Proofs.YtlhedpgobaellaaGreatDoor
open Go.RowKit Go.Sort
theorem sQ{t:Tr}{l:List Tr}(h:(cN t l).2=0)(m:List Tr):cN t (l++m)=cN t l:=by
 unfold cN at h⊢;by_cases h0:t.x.size=0
 ·rw[if_pos h0,if_pos h0]
 rw[if_neg h0] at h⊢;rw[if_neg h0];cases k:lkB t.x l with
 |none=>rw[k] at h;cases h
 |some w=>rw[vG k]
theorem og{p:Vl×Int}(h:(jT p).2=0):p.2=0:=by
 unfold jT at h;split at h
 ·rename_i h1;exact absurd h h1
 rename_i h1;simpa using h1
theorem mS{l:List Tr}(m:List Tr):∀(n:Nat) (e:Ex),(bO l n e).2=0→bO (l++m) n e=bO l n e
 |0, .mk op t o ks,h=>sQ h m
 |n+1, .mk op t o ks,h=>by
  unfold bO at h⊢;by_cases h0:op=0
  ·rw[if_pos h0] at h;rw[if_pos h0,if_pos h0];exact sQ h m
  rw[if_neg h0] at h;rw[if_neg h0,if_neg h0];match ks with
  | [a,b]=>
   simp only at h⊢;by_cases h1:(jT (bO l n a)).2=0
   ·rw[if_neg (by simpa using h1)] at h;by_cases h2:(jT (bO l n b)).2=0
    ·rw[mS m n a (og h1),mS m n b (og h2)]
    rw[if_pos h2] at h;exact absurd h h2
   rw[if_pos h1] at h;exact absurd h h1
  | []=>rfl
  | [_]=>rfl
  |_::_::_::_=>rfl
theorem ct{l:List Tr}(m:List Tr):∀(ts:List Tr) (acc:List Vl),(kT l acc ts).2=0→kT (l++m) acc ts=kT l acc ts
 | [],acc,h=>rfl
 |t::r,acc,h=>by
  rw[iC] at h⊢;by_cases e:(cN t l).2=0
  ·rw[if_neg (by simpa using e)] at h;rw[sQ e,iC,if_neg (by simpa using e),if_neg (by simpa using e)];exact ct m r _ h
  rw[if_pos e] at h;exact absurd h e
theorem yj{a:Am}{l:List Tr}(h:(cV a l).2=0)(m:List Tr):cV a (l++m)=cV a l:=by
 unfold cV at h⊢;by_cases e:6<a.l.length
 ·rw[if_pos e,if_pos e]
 rw[if_neg e] at h;rw[if_neg e,if_neg e];exact ct m _ _ h
theorem w7{x:Li}{l:List Tr}(h:gL l x=(true,0))(m:List Tr):gL (l++m) x=(true,0):=by
 have h':=h;unfold gL at h⊢;by_cases e1:(bO l 20 x.x).2=0
 ·rw[if_neg (by simpa using e1)] at h;by_cases e2:(bO l 20 x.y).2=0
  ·rw[if_neg (by simpa using e2)] at h;rw[mS m _ _ e1,mS m _ _ e2,if_neg (by simpa using e1),if_neg (by simpa using e2)];exact h
  rw[if_pos e2] at h;cases h
 rw[if_pos e1] at h;cases h
def rtB(l:List Tr):Prop:=∀t∈l,bK t.w=true
theorem Aw{l:List Tr}(h:rtB l){t:Tr}(ht:bK t.w=true):rtB (l++[t]):=fun x hx=>by
 rcases Kb.1 hx with q|q
 ·exact h x q
 rw[Kd.1 q];exact ht
theorem DY{x:ByteArray}{w:Vl}{l:List Tr}(h:lkB x l=none)(m:List Tr):lkB x (l++[⟨x,w⟩]++m)=some w:=vG (by rw[zQ,h];simp) m
theorem cr:∀{ts:List Tr} {vs:List Vl} {l l2:List Tr},ts.length=vs.length→nA ts vs l=some l2→rtB l→(∀v∈vs,bK v=true)→rtB l2∧∀acc,kT l2 acc ts=(acc++vs,0)
 | [],[],l,l2,_,h,hl,_=>by
  have:some l=some l2:=h;injection this with e;subst e;exact⟨hl,fun acc=>by simp[kT]⟩
 |a::r,v::vs,l,l2,hn,h,hl,hv=>by
  have hv0:=hv v Kc;have key:∀{l0:List Tr},nA r vs l0=some l2→rtB l0→cN a l2=(v,0)→rtB l2∧∀acc,kT l2 acc (a::r)=(acc++v::vs,0):=fun h1 h2 h3=>
   have⟨p,q⟩:=cr (by simpa using hn) h1 h2 fun x hx=>hv x (Ka _ hx)
   ⟨p,fun acc=>by rw[iC,h3,if_neg Zm,q];simp⟩
  rw[tE] at h;by_cases h0:a.x.size=0
  ·rw[if_pos h0] at h;by_cases e:a.w=v
   ·rw[if_pos e] at h;exact key h hl (by unfold cN;rw[if_pos h0,e,if_pos hv0])
   rw[if_neg e] at h;cases h
  rw[if_neg h0] at h;cases k:lkB a.x l with
  |none=>
   rw[k] at h;simp only at h;obtain⟨m,e⟩:=kA h;exact key h (Aw hl hv0) (by unfold cN;rw[if_neg h0,e,DY k];simp only;rw[if_pos hv0])
  |some w=>
   rw[k] at h;simp only at h;by_cases e:w=v
   ·rw[if_pos e] at h;obtain⟨m,e2⟩:=kA h;exact key h hl (by unfold cN;rw[if_neg h0,e2,vG k];simp only;rw[e,if_pos hv0])
   rw[if_neg e] at h;cases h
theorem qq{l:List Tr}{e:Ex}(h:(dU l e).size≠0):e.op=0∧dU l e=e.t.x:=by
 unfold dU at h⊢;split at h
 ·exact absurd rfl h
 rename_i hc;rw[if_neg hc];exact⟨by simpa using(not_or.1 hc).1,rfl⟩
theorem Ck{e:Ex}{l:List Tr}{w:Vl}(h0:e.op=0)(hx:e.t.x.size≠0)(hk:lkB e.t.x l=some w)(hw:bK w=true)(n:Nat):bO l n e=(w,0):=by
 obtain⟨op,t,o,ks⟩:=e;have h0:op=0:=h0;have ht:cN t l=(w,0):=by
  unfold cN;rw[if_neg (show¬t.x.size=0 from hx),show lkB t.x l=some w from hk];simp only;rw[if_pos hw]
 cases n with
 |zero=>exact ht
 |succ n=>unfold bO;rw[if_pos h0];exact ht
theorem Bo{l:List Tr}{x:ByteArray}{e:Ex}{l2:List Tr}(h:(wV l x e).1=some l2):(bO l 20 e).2=0∧l2=l++[⟨x,(bO l 20 e).1⟩]:=by
 unfold wV at h;split at h
 ·cases h
 rename_i h1;injection h with h;exact⟨by simpa using h1,h.symm⟩
theorem rh{l l2:List Tr}{x:Li}(hx:bS x=true)(h3:x.k=3)(hl:rtB l)(h:(fA l x).1=some l2):rtB l2∧(∃m,l2=l++m)∧gL l2 x=(true,0):=by
 obtain⟨_,_,px,py⟩:=mB hx h3;have two:∀{e f:Ex},(dU l e).size≠0→cH 20 f=true→(wV l (dU l e) f).1=some l2→rtB l2∧(∃m,l2=l++m)∧∃w,bO l2 20 e=(w,0)∧bO l2 20 f=(w,0):=by
  intro e f hu hf hs;obtain⟨q1,q2⟩:=Bo hs;obtain⟨o1,o2⟩:=qq hu;have hn:=mX hu;rw[o2] at q2 hn hu;have hw:=vY hf q1;refine⟨by rw[q2];exact Aw hl hw,⟨_,q2⟩,_,Ck o1 hu ?_ hw 20,?_⟩
  ·rw[q2,zQ,hn];simp
  rw[q2,mS _ _ _ q1];exact Prod.ext rfl q1
 unfold fA at h;split at h
 ·rename_i hc;obtain⟨a,b,w,e1,e2⟩:=two hc.2 py h;exact⟨a,b,by unfold gL dz;rw[e1,e2,hc.1];simp⟩
 split at h
 ·rename_i hc;obtain⟨a,b,w,e1,e2⟩:=two hc.2 px h;exact⟨a,b,by unfold gL dz;rw[e1,e2,hc.1];simp⟩
 split at h
 ·cases h
 rename_i hc;injection h with h;subst h;simp only[not_or,Km,Bool.not_eq_false] at hc;exact⟨hl,⟨[],(Kq _).symm⟩,Prod.ext hc.2 hc.1⟩
def okB(G:ByteArray→List (List Vl))(x:Li)(e:List Tr):Prop:=if x.k=3 then gL e x=(true,0) else (cV x.a e).2=0∧tF (G x.a.r) (cV x.a e).1=decide (x.k=1)
theorem Dq{G:ByteArray→List (List Vl)}{x:Li}{e:List Tr}(h:okB G x e)(m:List Tr):okB G x (e++m):=by
 unfold okB at h⊢;split
 ·rename_i h3;rw[if_pos h3] at h;exact w7 h m
 rename_i h3;rw[if_neg h3] at h;rw[yj h.1];exact h
theorem ku(a:Am)(L:List (List Vl)):∀(es acc:List (List Tr)),(qD a L acc es).2=0→∀e∈(qD a L acc es).1,e∈acc∨e∈es∧(cV a e).2=0∧tF L (cV a e).1=false
 | [],acc,_,e,he=> .inl he
 |x::r,acc,h,e,he=>by
  rw[tD] at h he;by_cases hx:(cV a x).2=0
  ·rw[if_neg (by simpa using hx)] at h he;rcases ku a L r _ h e he with q|q
   ·split at q
    ·exact .inl q
    rename_i hn;rcases Kb.1 q with q|q
    ·exact .inl q
    rw[Kd.1 q];exact .inr ⟨Kc,hx,by simpa using hn⟩
   exact .inr ⟨Ka _ q.1,q.2⟩
  rw[if_pos hx] at he;cases he
theorem rE(x:Li):∀(es acc:List (List Tr)),(iH x acc es).2=0→∀e∈(iH x acc es).1,e∈acc∨∃e0∈es,(fA e0 x).1=some e
 | [],acc,_,e,he=> .inl he
 |y::r,acc,h,e,he=>by
  rw[lX] at h he;obtain⟨⟨o,n⟩,ho⟩:∃p,fA y x=p:=⟨_,rfl⟩;rw[ho] at h he;cases o with
  |some l=>
   rcases rE x r _ h e he with q|⟨e0,q,q2⟩
   ·rcases Kb.1 q with q|q
    ·exact .inl q
    rw[Kd.1 q];exact .inr ⟨y,Kc,by rw[ho]⟩
   exact .inr ⟨e0,Ka _ q,q2⟩
  |none=>
   simp only at h he;by_cases hn:n=0
   ·rw[if_neg (by simpa using hn)] at h he;rcases rE x r _ h e he with q|⟨e0,q,q2⟩
    ·exact .inl q
    exact .inr ⟨e0,Ka _ q,q2⟩
   rw[if_pos hn] at he;cases he
theorem rg{G:ByteArray→List (List Vl)}(hG:∀x,∀t∈G x,∀v∈t,bK v=true){x:Li}(hx:bS x=true){es:List (List Tr)}(he:∀e∈es,rtB e)(h:(gM G x es).2=0):∀e∈(gM G x es).1,rtB e∧okB G x e∧∃e0∈es,∃m,e=e0++m:=by
 intro e hm;unfold gM at h hm;unfold okB;by_cases h1:x.k=1
 ·rw[if_pos h1] at hm;unfold yX at hm;obtain⟨e0,q0,hm⟩:=Ki.1 hm;obtain⟨t,ht,hm⟩:=Kk.1 hm;unfold qF at hm;split at hm
  ·cases hm
  rename_i hl;have hl:x.a.l.length=t.length:=by simpa using hl
  have h6:x.a.l.length≤6:=(mC hx).1;obtain⟨p,q⟩:=cr hl hm (he e0 q0) (hG _ t ht);have hA:cV x.a e=(t,0):=by unfold cV;rw[if_neg or,q];rfl
  rw[if_neg or,hA];exact⟨p,⟨rfl,by rw[decide_eq_true h1];exact List.any_eq_true.2 ⟨t,ht,decide_eq_true rfl⟩⟩,e0,q0,kA hm⟩
 rw[if_neg h1] at h hm;by_cases h2:x.k=2
 ·rw[if_pos h2] at h hm;rcases ku _ _ _ _ h e hm with q|⟨q,q1,q2⟩
  ·cases q
  rw[if_neg or];exact⟨he e q,⟨q1,by rw[q2,decide_eq_false h1]⟩,e,q,[],(Kq _).symm⟩
 rw[if_neg h2] at h hm;have h3:x.k=3:=by have:=br hx;omega
 rcases rE _ _ _ h e hm with q|⟨e0,q,q2⟩
 ·cases q
 obtain⟨a,b,c⟩:=rh hx h3 (he e0 q) q2;rw[if_pos h3];exact⟨a,c,e0,q,b⟩
theorem um{G:ByteArray→List (List Vl)}(hG:∀x,∀t∈G x,∀v∈t,bK v=true){b:List Li}:∀(ks:List Nat) (es:List (List Tr)),(∀k∈ks,bS (b.getD k default)=true)→(∀e∈es,rtB e)→(gB G b ks es).2=0→
 ∀e∈(gB G b ks es).1,rtB e∧(∀k∈ks,okB G (b.getD k default) e)∧∃e0∈es,∃m,e=e0++m
 | [],es,_,he,_,e,hm=>⟨he e hm,fun k hk=>(by cases hk),e,hm,[],(Kq _).symm⟩
 |k::ks,es,hb,he,h,e,hm=>by
  unfold gB at h hm;split at h
  ·rename_i h1;exact absurd h h1
  rename_i h1;rw[if_neg h1] at hm;split at h
  ·cases h
  rename_i h2;rw[if_neg h2] at hm;have S:=rg hG (hb k Kc) he (by simpa using h1);obtain⟨p,q,e0,r1,m,r2⟩:=um hG ks _ (fun j hj=>hb j (Ka _ hj)) (fun e he=>(S e he).1) h e hm;obtain⟨s1,s2,e1,t1,m1,t2⟩:=S e0 r1;refine⟨p,fun j hj=>?_,e1,t1,m1++m,by rw[r2,t2,List.append_assoc]⟩;rcases Kg.1 hj with rfl|hj
  ·rw[r2];exact Dq s2 m
  exact q j hj
theorem BC{r:Ru}(hr:dW r=true)(hs:dP r (eQ r) false=[]):∀k,k<r.b.length→k∈fP r:=by
 obtain⟨_,_,b3⟩:=dC hr;have h1:∀x∈r.vars,x∈eQ r:=fun x hx=>by
  cases hb:iD x (eQ r) with
  |true=>exact oI.1 hb
  |false=>
   have:x∈dP r (eQ r) false:=Kx.2 ⟨hx,by rw[hb];rfl⟩;rw[hs] at this;cases this
 have key:∀(n:Nat) (s:List ByteArray) (left:List Nat),left.length=n→(∀k∈left,k<r.b.length)→(∀k,k<r.b.length→k∈left∨∀x∈(r.b.getD k default).vars,x∈s)→∀k∈left,k∈(gR r n s left).map Prod.fst:=by
  intro n;induction n with
  |zero=>
   intro s left hl _ _ k hk;have:left=[]:=List.length_eq_zero_iff.1 hl;subst this;cases hk
  |succ n ih=>
   intro s left hl hlt inv k hk;unfold gR;split
   ·rename_i h;exfalso;have hst:=G5 b3 h inv;have hkl:=hlt k hk;have hD:r.b.getD k default=r.b[k]:=by rw[Ke,Kf hkl];rfl
    have aAZ:kH s (r.b.getD k default).vars=true:=gZ.2 fun x hx=>hst x (h1 x (yH.2 (.inr ⟨r.b.getD k default,hD▸Kp hkl,hx⟩)));unfold jU at h;split at h
    ·omega
    rename_i h2;have e1:=lM h k hk;have e2:=lM (Int.not_le.1 h2) k hk;simp only[decide_eq_false_iff_not] at e1;unfold gC at e2;rw[aAZ,decide_eq_true e1] at e2;simp at e2
   rename_i h;rcases vB r s left with e|⟨i,e,hi⟩
   ·omega
   rw[e];simp only[Kv,Kz,Kg];have hd:left.getD i 0=left[i]:=by rw[Ke,Kf hi];rfl
   rw[hd];have e2:left=left.take i++left[i]::left.drop (i+1):=by rw[List.getElem_cons_drop,Ks]
   have sp:∀j,j∈left→j=left[i]∨j∈left.eraseIdx i:=fun j hj=>by
    have h3:j∈left.take i++left[i]::left.drop (i+1):=e2▸hj;rw[List.eraseIdx_eq_take_drop_succ];simp only[Kb,Kg] at h3⊢;rcases h3 with h3|h3|h3
    ·exact .inr (.inl h3)
    ·exact .inl h3
    exact .inr (.inr h3)
   rcases sp k hk with q|q
   ·exact .inl q
   refine .inr (ih _ _ (by rw[List.length_eraseIdx_of_lt hi];omega) (fun j hj=>hlt j (List.mem_of_mem_eraseIdx hj)) (fun j hj=>?_) k q);rcases inv j hj with h2|h2
   ·rcases sp j h2 with q|q
    ·subst q;exact .inr fun y hy=>Kb.2 (.inr hy)
    exact .inl q
   exact .inr fun y hy=>Kb.2 (.inl (h2 y hy))
 exact fun k hk=>key _ [] (List.range r.b.length) Zm (fun k h=>Kt.1 h) (fun k h=> .inl (Kt.2 h)) k (Kt.2 hk)
theorem Dj{r:Ru}(hr:dW r=true):∀k,bS (r.b.getD k default)=true∨r.b.length≤k:=fun k=>by
 rcases Nat.lt_or_ge k r.b.length with h|h
 ·rw[Ke,Kf h];exact .inl ((dC hr).2.2 _ (Kp h))
 exact .inr h
theorem oi{r:Ru}(h:xD r=0):dW r=true∧dP r (eQ r) false=[]:=by
 unfold xD at h;split at h
 ·cases h
 rename_i h1;split at h
 ·cases h
 rename_i h2;exact⟨by simpa using h1,by simpa using h2⟩
theorem GQ{G:ByteArray→List (List Vl)}(hG:∀x,∀t∈G x,∀v∈t,bK v=true){r:Ru}(h:(lO G r).2=0):∀e∈(lO G r).1,rtB e∧∀x∈r.b,okB G x e:=by
 unfold lO at h⊢;by_cases hm:xD r=0
 ·rw[if_neg (by simpa using hm)] at h⊢;obtain⟨hr,hs⟩:=oi hm;intro e he;obtain⟨p,q,_⟩:=um hG (fP r) [[]] (fun k hk=>(Dj hr k).resolve_right (by have:=bx r k hk;omega)) (fun e he=>by rw[Kd.1 he];intro t ht;cases ht) h e he;refine⟨p,fun x hx=>?_⟩;obtain⟨k,hk,rfl⟩:=List.mem_iff_getElem.1 hx;have:=q k (BC hr hs k hk);rwa [Ke,Kf hk] at this
 rw[if_pos hm] at h;exact absurd h hm
theorem Bf{t:List Vl}(h:pQ t=true):∀v∈t,bK v=true:=by
 unfold pQ at h;simp only[Kh] at h;exact Kw.1 h.2
theorem yA{S:List Sr}(hS:∀s∈S,eB s.ar s.zs):∀x,∀t∈cO S x,∀v∈t,bK v=true:=by
 intro x t ht;have key:∀{l:List Sr} {s:Sr},lkS x l=some s→s∈l:=by
  intro l s h;induction l with
  |nil=>cases h
  |cons a l ih=>
   unfold lkS at h;split at h
   ·injection h with h;rw[←h];exact Kc
   exact Ka _ (ih h)
 unfold cO at ht;cases k:lkS x S with
 |none=>rw[k] at ht;cases ht
 |some s=>
  rw[k] at ht;obtain⟨z,hz,rfl⟩:=Kj.1 ht;exact Bf ((hS s (key k)).row z hz).1
end Go.Proofs.YtlhedpgobaellaaGreatDoor
namespace Go.Proofs.YtlhedpgobaellaaGreatDoor
open Go.RowKit Go.Sort
attribute [local irreducible] IntKind.wrap
set_option maxRecDepth 100000
theorem As:∀(l:List Fc) (i n:Nat) (S S':List Sr),(∀f∈l,f.ok)→(∀s∈S,eB s.ar s.zs)→yU i n S l=some S'→∀s∈S',eB s.ar s.zs
 | [],i,n,S,S',_,hS,h=>by
  injection h with h;exact h▸hS
 |f::r,i,n,S,S',hl,hS,h=>by
  rw[rD] at h;split at h
  ·cases h
  refine As r _ _ _ _ (fun g hg=>hl g (Ka _ hg)) (fun s hs=>?_) h;rcases Kb.1 hs with q|q
  ·exact hS s q
  rw[Kd.1 q];exact nw fun p hp=>((hl f Kc).2 p hp).1
end Go.Proofs.YtlhedpgobaellaaGreatDoor
namespace Go.Proofs.YtlhedpgobaellaaGreatDoor
open Go.RowKit Go.Sort
theorem bd(x:Li):∀(es acc:List (List Tr)),(iH x acc es).2=0→(∀e∈acc,e∈(iH x acc es).1)∧∀e0∈es,∀e,(fA e0 x).1=some e→e∈(iH x acc es).1
 | [],acc,_=>⟨fun e h=>h,fun e0 h=>by cases h⟩
 |y::r,acc,h=>by
  rw[lX] at h⊢;obtain⟨⟨o,n⟩,ho⟩:∃p,fA y x=p:=⟨_,rfl⟩;rw[ho] at h⊢;cases o with
  |some l=>
   obtain⟨p,q⟩:=bd x r _ h;refine⟨fun e he=>p e (Kb.2 (.inl he)),fun e0 he e hs=>?_⟩;rcases Kg.1 he with rfl|he
   ·rw[ho] at hs;injection hs with hs;subst hs;exact p _ Zm
   exact q e0 he e hs
  |none=>
   simp only at h⊢;by_cases hn:n=0
   ·rw[if_neg (by simpa using hn)] at h⊢;obtain⟨p,q⟩:=bd x r _ h;refine⟨p,fun e0 he e hs=>?_⟩;rcases Kg.1 he with rfl|he
    ·rw[ho] at hs;cases hs
    exact q e0 he e hs
   rw[if_pos hn] at h;exact absurd h hn
theorem xc{G G':ByteArray→List (List Vl)}(hG:∀x,∀t∈G x,t∈G' x){x:Li}(h2:x.k≠2){es es':List (List Tr)}(he:∀e∈es,e∈es')(h:(gM G x es).2=0)(h':(gM G' x es').2=0):∀e∈(gM G x es).1,e∈(gM G' x es').1:=by
 intro e hm;unfold gM at h h' hm⊢;by_cases h1:x.k=1
 ·rw[if_pos h1] at hm⊢;obtain⟨e0,q0,hm⟩:=Ki.1 hm;obtain⟨t,ht,hm⟩:=Kk.1 hm;exact Ki.2 ⟨e0,he e0 q0,Kk.2 ⟨t,hG _ t ht,hm⟩⟩
 rw[if_neg h1,if_neg h2] at h h' hm⊢;rcases rE _ _ _ h e hm with q|⟨e0,q,q2⟩
 ·cases q
 exact(bd x es' [] h').2 e0 (he e0 q) e q2
theorem ew{G G':ByteArray→List (List Vl)}(hG:∀x,∀t∈G x,t∈G' x){b:List Li}:∀(ks:List Nat) (es es':List (List Tr)),(∀k∈ks,(b.getD k default).k≠2)→(∀e∈es,e∈es')→(gB G b ks es).2=0→(gB G' b ks es').2=0→∀e∈(gB G b ks es).1,e∈(gB G' b ks es').1
 | [],es,es',_,he,_,_,e,hm=>he e hm
 |k::ks,es,es',hb,he,h,h',e,hm=>by
  unfold gB at h h' hm⊢;split at h
  ·rename_i h1;exact absurd h h1
  rename_i h1;rw[if_neg h1] at hm;split at h
  ·cases h
  rename_i h2;rw[if_neg h2] at hm;split at h'
  ·rename_i h3;exact absurd h' h3
  rename_i h3;rw[if_neg h3];split at h'
  ·cases h'
  rename_i h4;rw[if_neg h4];exact ew hG ks _ _ (fun j hj=>hb j (Ka _ hj)) (xc hG (hb k Kc) he (by simpa using h1) (by simpa using h3)) h h' e hm
def xJ(l:List Tr)(x:ByteArray):Prop:=∃w,lkB x l=some w
theorem B8{l:List Tr}{x:ByteArray}(h:xJ l x)(m:List Tr):xJ (l++m) x:=h.imp fun _ k=>vG k m
def uV(l:List Tr)(ts:List Tr):Prop:=∀t∈ts,t.x.size≠0→xJ l t.x
theorem GB{l:List Tr}(hl:rtB l){x:ByteArray}{w:Vl}(k:lkB x l=some w):bK w=true:=by
 induction l with
 |nil=>cases k
 |cons a l ih=>
  unfold lkB at k;split at k
  ·injection k with k;rw[←k];exact hl a Kc
  exact ih (fun t ht=>hl t (Ka _ ht)) k
theorem wQ{t:Tr}{l:List Tr}(hl:rtB l)(hr:t.x.size=0→bK t.w=true)(hs:t.x.size≠0→xJ l t.x):(cN t l).2=0:=by
 unfold cN;by_cases h0:t.x.size=0
 ·rw[if_pos h0,if_pos (hr h0)]
 obtain⟨w,hw⟩:=hs h0;rw[if_neg h0,hw];simp only;rw[if_pos (GB hl hw)]
theorem bq{t:Tr}(h:gS t=true):t.x.size=0→bK t.w=true:=fun h0=>by
 unfold gS at h;rwa [if_pos h0] at h
theorem oY{l:List Tr}(hl:rtB l):∀(n:Nat) (e:Ex),cH n e=true→uV l e.ts→(bO l n e).2=0∨(bO l n e).2=7∨(bO l n e).2=10
 |0, .mk op t o ks,hr,hs=>by
  unfold cH at hr;simp only[decide_eq_true_eq] at hr;obtain⟨_,rfl,ht⟩:=hr;exact .inl (wQ hl (bq ht) fun h0=>hs t (by rw[Ex.aBN];simp[Ex.kids,Ex.t]) h0)
 |n+1, .mk op t o ks,hr,hs=>by
  unfold bO;unfold cH at hr;by_cases h0:op=0
  ·rw[if_pos h0] at hr⊢;simp only[decide_eq_true_eq] at hr;obtain⟨rfl,ht⟩:=hr;exact .inl (wQ hl (bq ht) fun h0=>hs t (by rw[Ex.aBN];simp[Ex.kids,Ex.t]) h0)
  rw[if_neg h0] at hr⊢;match ks,hr,hs with
  | [a,b],hr,hs=>
   simp only[decide_eq_true_eq] at hr⊢;have hts:(Ex.mk op t o [a,b]).ts=a.ts++b.ts:=by rw[Ex.aBN];simp[Ex.kids]
   have num:∀e,cH n e=true→uV l e.ts→(jT (bO l n e)).2=0∨(jT (bO l n e)).2=7∨(jT (bO l n e)).2=10:=fun e h1 h2=>by
    have:=oY hl n e h1 h2;unfold jT;split
    ·exact this
    split
    ·exact .inr (.inl rfl)
    exact .inl rfl
   have ha:=num a hr.2.2.2.1 fun t ht=>hs t (by rw[hts];exact Kb.2 (.inl ht));have hb:=num b hr.2.2.2.2 fun t ht=>hs t (by rw[hts];exact Kb.2 (.inr ht));split
   ·exact ha
   split
   ·exact hb
   unfold ofV;split
   ·exact .inl rfl
   exact .inr (.inr rfl)
def Fl(n:Int):Prop:=n=0∨n=7∨n=10
theorem w8{l:List Tr}(hl:rtB l){x:Li}(px:cH 20 x.x=true)(py:cH 20 x.y=true)(hx:uV l x.x.ts)(hy:uV l x.y.ts):(gL l x).2=0∨(gL l x).2=7∨(gL l x).2=10:=by
 unfold gL;split
 ·exact oY hl 20 _ px hx
 split
 ·exact oY hl 20 _ py hy
 unfold dz;split
 ·exact .inr (.inl rfl)
 exact .inl rfl
theorem jv{l:List Tr}(hl:rtB l){e:Ex}(he:cH 20 e=true)(hs:uV l e.ts)(u:ByteArray):(wV l u e).2=0∨(wV l u e).2=7∨(wV l u e).2=10:=by
 unfold wV;split
 ·exact oY hl 20 _ he hs
 exact .inl rfl
theorem x9{e:Ex}(he:cH 20 e=true)(h0:e.op=0):e.ts=[e.t]:=by
 obtain⟨op,t,o,ks⟩:=e;have h0:op=0:=h0;unfold cH at he;rw[if_pos h0] at he;simp only[decide_eq_true_eq] at he;rw[Ex.aBN];exact if_pos he.1
theorem tR{l:List Tr}{e:Ex}(he:cH 20 e=true)(hs:uV l e.ts):(dU l e).size=0:=by
 by_cases h:(dU l e).size=0
 ·exact h
 exfalso;obtain⟨h0,h1⟩:=qq h;have hn:=mX h;rw[h1] at hn h;obtain⟨w,hw⟩:=hs e.t (by rw[x9 he h0];simp) h;rw[hw] at hn;cases hn
theorem jp{l:List Tr}{e:Ex}(ha:(cX e).size≠0)(hu:(dU l e).size=0):uV l e.ts:=by
 obtain⟨h1,h2⟩:=g8 ha;rw[h1];intro t ht h0;rw[Kd.1 ht];unfold dU at hu;split at hu
 ·rename_i hc;rcases hc with hc|hc
  ·exfalso;apply ha;unfold cX;rw[if_pos (.inl hc)];rfl
  exact Option.isSome_iff_exists.1 hc
 rw[h2] at ha;exact absurd hu ha
theorem rp{s:List ByteArray}{l:List Tr}(hs:∀v∈s,xJ l v){ts:List Tr}(h:kH s (nmL [] ts)=true):uV l ts:=fun t ht h0=>hs _ (gZ.1 h _ (rK.2 (.inr ⟨t,ht,rfl,h0⟩)))
theorem jt{s:List ByteArray}{l:List Tr}(hs:∀v∈s,xJ l v){x:Li}(h:kH s x.vars=true){ts:List Tr}(hts:∀t∈ts,t∈x.ts):uV l ts:=fun t ht h0=>hs _ (gZ.1 h _ (qE.2 ⟨t,hts t ht,rfl,h0⟩))
theorem ri{s:List ByteArray}{l:List Tr}(hl:rtB l)(hs:∀v∈s,xJ l v){x:Li}(hx:bS x=true)(h3:x.k=3)(he:gC s x=true):(fA l x).2=0∨(fA l x).2=7∨(fA l x).2=10:=by
 obtain⟨_,_,px,py⟩:=mB hx h3;have fin:uV l x.x.ts→uV l x.y.ts→Fl (if (gL l x).2≠0∨(gL l x).1=false then ((none:Option (List Tr)),(gL l x).2) else (some l,0)).2:=fun a b=>by
  split
  ·exact w8 hl px py a b
  exact .inl rfl
 unfold gC at he;rw[Ky] at he;unfold fA;rcases he with he|he
 ·simp only[Kh] at he;have a:=jt hs he.2 (x:=x) (ts:=x.x.ts) G3;have b:=jt hs he.2 (x:=x) (ts:=x.y.ts) G2;rw[if_neg (fun e=>e.2 (tR px a)),if_neg (fun e=>e.2 (tR py b))];exact fin a b
 unfold gV at he;simp only[Kh,Ky,decide_eq_true_eq] at he;rcases he.2 with⟨⟨h1,_⟩,h2⟩|⟨⟨h1,_⟩,h2⟩
 ·have b:=rp hs h2;split
  ·exact jv hl py b _
  rename_i hc;rw[if_neg (fun e=>e.2 (tR py b))];exact fin (jp h1 (by have:=he.1.2;simp only[not_and,Km] at hc;exact hc this)) b
 have a:=rp hs h2;rw[if_neg (fun e=>e.2 (tR px a))];split
 ·exact jv hl px a _
 rename_i hc;exact fin a (jp h1 (by have:=he.1.2;simp only[not_and,Km] at hc;exact hc this))
theorem sV(x:Li):∀(es acc:List (List Tr)),(∀e∈es,(fA e x).2=0∨(fA e x).2=7∨(fA e x).2=10)→(iH x acc es).2=0∨(iH x acc es).2=7∨(iH x acc es).2=10
 | [],acc,_=> .inl rfl
 |y::r,acc,h=>by
  rw[lX];have hy:=h y Kc;obtain⟨⟨o,n⟩,ho⟩:∃p,fA y x=p:=⟨_,rfl⟩;rw[ho] at hy⊢;cases o with
  |some l=>exact sV x r _ fun e he=>h e (Ka _ he)
  |none=>
   simp only;split
   ·exact hy
   exact sV x r _ fun e he=>h e (Ka _ he)
theorem av{t:Tr}{l:List Tr}(h:(cN t l).2=0)(h0:t.x.size≠0):xJ l t.x:=by
 unfold cN at h;rw[if_neg h0] at h;cases k:lkB t.x l with
 |none=>rw[k] at h;cases h
 |some w=>exact⟨w,k⟩
theorem sv{l:List Tr}:∀(ts:List Tr) (acc:List Vl),(kT l acc ts).2=0→uV l ts
 | [],acc,_,t,ht,_=>by cases ht
 |a::r,acc,h,t,ht,h0=>by
  rw[iC] at h;by_cases e:(cN a l).2=0
  ·rw[if_neg (by simpa using e)] at h;rcases Kg.1 ht with rfl|ht
   ·exact av e h0
   exact sv r _ h t ht h0
  rw[if_pos e] at h;exact absurd h e
theorem vX{l:List Tr}:∀(n:Nat) (e:Ex),cH n e=true→(bO l n e).2=0→uV l e.ts
 |0, .mk op t o ks,hr,h=>by
  unfold cH at hr;simp only[decide_eq_true_eq] at hr;obtain⟨_,rfl,_⟩:=hr;rw[Ex.aBN];intro t' ht h0;have:t'=t:=by simpa [Ex.kids,Ex.t] using ht
  subst this;exact av h h0
 |n+1, .mk op t o ks,hr,h=>by
  unfold bO at h;unfold cH at hr;by_cases h0:op=0
  ·rw[if_pos h0] at hr h;simp only[decide_eq_true_eq] at hr;obtain⟨rfl,_⟩:=hr;rw[Ex.aBN];intro t' ht h0;have:t'=t:=by simpa [Ex.kids,Ex.t] using ht
   subst this;exact av h h0
  rw[if_neg h0] at hr h;match ks,hr,h with
  | [a,b],hr,h=>
   simp only[decide_eq_true_eq] at hr h;have hts:(Ex.mk op t o [a,b]).ts=a.ts++b.ts:=by rw[Ex.aBN];simp[Ex.kids]
   by_cases h1:(jT (bO l n a)).2=0
   ·rw[if_neg (by simpa using h1)] at h;by_cases h2:(jT (bO l n b)).2=0
    ·rw[hts];intro t' ht h0;rcases Kb.1 ht with q|q
     ·exact vX n a hr.2.2.2.1 (og h1) t' q h0
     exact vX n b hr.2.2.2.2 (og h2) t' q h0
    rw[if_pos h2] at h;exact absurd h h2
   rw[if_pos h1] at h;exact absurd h h1
theorem Dp{G:ByteArray→List (List Vl)}{x:Li}(hx:bS x=true)(h2:x.k≠2){e:List Tr}(h:okB G x e):∀v∈x.vars,xJ e v:=by
 intro v hv;obtain⟨t,ht,rfl,h0⟩:=qE.1 hv;unfold okB at h;unfold Li.ts at ht;simp only[Kb] at ht;by_cases h3:x.k=3
 ·rw[if_pos h3] at h;obtain⟨_,_,px,py⟩:=mB hx h3;have ha:x.a.l=[]:=by
   unfold bS at hx;rw[if_neg or] at hx;simp only[Kh,decide_eq_true_eq] at hx;exact hx.1.1.2.2.1
  unfold gL at h;split at h
  ·rename_i e1;injection h with _ h;exact absurd h e1
  rename_i e1;split at h
  ·rename_i e2;injection h with _ h;exact absurd h e2
  rename_i e2;rcases ht with ht|ht|ht
  ·rw[ha] at ht;cases ht
  ·exact vX 20 _ px (by simpa using e1) t ht h0
  exact vX 20 _ py (by simpa using e2) t ht h0
 rw[if_neg h3] at h;have h1:x.k=1:=by have:=br hx;omega
 have hz:pF x.x=true∧pF x.y=true:=by
  unfold bS at hx;rw[if_pos (.inl h1)] at hx;simp only[Kh] at hx;exact⟨hx.1.2,hx.2⟩
 have h6:x.a.l.length≤6:=(mC hx).1;rcases ht with ht|ht|ht
 ·have hm:=h.1;unfold cV at hm;rw[if_neg or] at hm;exact sv _ _ hm t ht h0
 ·obtain⟨q1,q2⟩:=qa hz.1;rw[q1] at ht;rw[Kd.1 ht] at h0;exact absurd q2 h0
 obtain⟨q1,q2⟩:=qa hz.2;rw[q1] at ht;rw[Kd.1 ht] at h0;exact absurd q2 h0
def ny(b:List Li):List ByteArray→List Nat→Prop
 |_,[]=>True
 |s,k::ks=>((b.getD k default).k=1∨gC s (b.getD k default)=true)∧ny b (s++(b.getD k default).vars) ks
theorem sh(r:Ru):ny r.b [] (fP r):=by
 have key:∀(n:Nat) (s:List ByteArray) (left:List Nat),ny r.b s ((gR r n s left).map Prod.fst):=by
  intro n;induction n with
  |zero=>exact fun _ _=>trivial
  |succ n ih=>
   intro s left;unfold gR;split
   ·trivial
   rename_i h;rcases vB r s left with e|⟨i,e,hi⟩
   ·omega
   rw[e];simp only[Kv,Kz];refine⟨?_,ih _ _⟩;have hd:left.getD i 0=left[i]:=by rw[Ke,Kf hi];rfl
   rw[hd];unfold jU at e;split at e
   ·obtain⟨_,q,_⟩:=(qO _ left).2 i e;exact .inr q
   obtain⟨_,q,_⟩:=(qO _ left).2 i e;exact .inl (by simpa using q)
 exact key _ _ _
theorem ez{G:ByteArray→List (List Vl)}(hG:∀x,∀t∈G x,∀v∈t,bK v=true){b:List Li}:∀(ks:List Nat) (s:List ByteArray) (es:List (List Tr)),(∀k∈ks,bS (b.getD k default)=true∧(b.getD k default).k≠2)→ny b s ks→(∀e∈es,rtB e∧∀v∈s,xJ e v)→
 (gB G b ks es).2=0∨(gB G b ks es).2=7∨(gB G b ks es).2=10∨(gB G b ks es).2=11
 | [],s,es,_,_,_=> .inl rfl
 |k::ks,s,es,hb,hr,he=>by
  unfold gB;obtain⟨hx,h2⟩:=hb k Kc;split
  ·have:(gM G (b.getD k default) es).2=0∨(gM G (b.getD k default) es).2=7∨(gM G (b.getD k default) es).2=10:=by
    unfold gM;by_cases h1:(b.getD k default).k=1
    ·rw[if_pos h1];exact .inl rfl
    rw[if_neg h1,if_neg h2];have h3:(b.getD k default).k=3:=by have:=br hx;omega
    exact sV _ _ _ fun e q=>ri (he e q).1 (he e q).2 hx h3 (hr.1.resolve_left h1)
   rcases this with q|q|q
   ·exact .inl q
   ·exact .inr (.inl q)
   exact .inr (.inr (.inl q))
  rename_i h1;split
  ·exact .inr (.inr (.inr rfl))
  refine ez hG ks _ _ (fun j hj=>hb j (Ka _ hj)) hr.2 fun e q=>?_;obtain⟨q1,q2,e0,q3,m,q4⟩:=rg hG hx (fun e q=>(he e q).1) (by simpa using h1) e q;refine⟨q1,fun v hv=>?_⟩;rcases Kb.1 hv with hv|hv
  ·rw[q4];exact B8 ((he e0 q3).2 v hv) m
  exact Dp hx h2 q2 v hv
theorem yQ(b:List Li):∀(n:Nat) (s:List ByteArray),(∀x∈s,∃l∈b,x∈l.vars)→∀x∈gF b n s,∃l∈b,x∈l.vars
 |0,s,h,x,hx=>h x hx
 |n+1,s,h,x,hx=>by
  unfold gF at hx;cases hf:b.find? (gV s) with
  |none=>rw[hf] at hx;exact h x hx
  |some l=>
   rw[hf] at hx;exact yQ b n _ (fun y hy=>by
    rcases Kb.1 hy with q|q
    ·exact h y q
    exact⟨l,List.mem_of_find?_eq_some hf,q⟩) x hx
theorem B7{r:Ru}(h:xD r=0):∀t∈r.h.l,t.x.size≠0→∃l∈r.b,t.x∈l.vars:=by
 obtain⟨hr,hs⟩:=oi h;intro t ht h0;have hb:t.x∈eQ r:=by
  cases hb:iD t.x (eQ r) with
  |true=>exact oI.1 hb
  |false=>
   have:t.x∈dP r (eQ r) false:=Kx.2 ⟨yH.2 (.inl ⟨t,ht,rfl,h0⟩),by rw[hb];rfl⟩;rw[hs] at this;cases this
 exact yQ _ _ _ (fun y hy=>by
  obtain⟨l,hl,q⟩:=Ki.1 hy;split at q
  ·exact⟨l,hl,q⟩
  cases q) _ hb
theorem k9{l:List Tr}(hl:rtB l):∀(ts:List Tr) (acc:List Vl),(∀t∈ts,gS t=true)→uV l ts→(kT l acc ts).2=0
 | [],acc,_,_=>rfl
 |t::r,acc,h,hs=>by
  rw[iC,if_neg (by simpa using wQ hl (bq (h t Kc)) (hs t Kc))];exact k9 hl r _ (fun x hx=>h x (Ka _ hx)) fun x hx=>hs x (Ka _ hx)
theorem rx(a:Am):∀(es:List (List Tr)) (acc:List (List Vl)),(∀e∈es,(cV a e).2=0)→nY a acc es=(acc++es.map fun e=>(cV a e).1,0)
 | [],acc,_=>by simp[nY]
 |e::r,acc,h=>by
  rw[sX,if_neg (by simpa using h e Kc),rx a r _ fun x hx=>h x (Ka _ hx)];simp
theorem ui{G:ByteArray→List (List Vl)}(hG:∀x,∀t∈G x,∀v∈t,bK v=true){r:Ru}(h2:∀x∈r.b,x.k≠2)(h:(lO G r).2=0):cL G r=(lK cM ((lO G r).1.map fun e=>(cV r.h e).1),0):=by
 have hm:xD r=0:=Decidable.byContradiction fun q=>by unfold lO at h;rw[if_pos q] at h;exact q h
 obtain⟨hr,hs⟩:=oi hm;have hA:mD r.h=true:=by unfold dW at hr;simp only[Kh] at hr;exact hr.1.1.1
 unfold mD at hA;simp only[Kh,decide_eq_true_eq,Kw] at hA;have hok:=GQ hG h;have key:∀e∈(lO G r).1,(cV r.h e).2=0:=fun e he=>by
  obtain⟨q1,q2⟩:=hok e he;unfold cV;rw[if_neg or];refine k9 q1 _ _ hA.2 fun t ht h0=>?_;obtain⟨l,hl,q⟩:=B7 hm t ht h0;exact Dp ((dC hr).2.2 l hl) (h2 l hl) (q2 l hl) _ q
 unfold cL;rw[if_neg (by simpa using h),rx r.h _ [] key];simp
theorem za{G G':ByteArray→List (List Vl)}(hG:∀x,∀t∈G x,∀v∈t,bK v=true)(hG':∀x,∀t∈G' x,∀v∈t,bK v=true)(hsub:∀x,∀t∈G x,t∈G' x){r:Ru}(h2:∀x∈r.b,x.k≠2)(h:(cL G r).2=0):
 ((cL G' r).2=0∧∀t∈(cL G r).1,t∈(cL G' r).1)∨(cL G' r).2=7∨(cL G' r).2=10∨(cL G' r).2=11:=by
 have ha:(lO G r).2=0:=Decidable.byContradiction fun q=>by unfold cL at h;rw[if_pos q] at h;exact q h
 have hm:xD r=0:=Decidable.byContradiction fun q=>by unfold lO at ha;rw[if_pos q] at ha;exact q ha
 obtain⟨hr,hs⟩:=oi hm;have hD:∀k∈fP r,r.b.getD k default∈r.b:=fun k hk=>by
  have:=bx r k hk;rw[Ke,Kf this];exact Kp this
 have hb:=(dC hr).2.2;have hf:=ez hG' (b:=r.b) (fP r) [] [[]] (fun k hk=>⟨hb _ (hD k hk),h2 _ (hD k hk)⟩) (sh r) fun e he=>by
  rw[Kd.1 he];exact⟨fun t ht=>(by cases ht),fun v hv=>(by cases hv)⟩
 by_cases ha':(lO G' r).2=0
 ·rw[ui hG h2 ha,ui hG' h2 ha'];refine .inl ⟨rfl,fun t ht=>?_⟩;rw[(fM c3T _).2] at ht⊢;obtain⟨e,he,rfl⟩:=Kj.1 ht;refine Kj.2 ⟨e,?_,rfl⟩;unfold lO at he ha ha'⊢;rw[if_neg (by simpa using hm)] at he ha ha'⊢;exact ew hsub (fP r) _ _ (fun k hk=>h2 _ (hD k hk)) (fun e he=>he) ha ha' e he
 have e1:(cL G' r).2=(lO G' r).2:=by unfold cL;rw[if_pos ha']
 have e2:(lO G' r).2=(gB G' r.b (fP r) [[]]).2:=by unfold lO;rw[if_neg (by simpa using hm)]
 rw[e1,e2];rw[e2] at ha';exact .inr (hf.resolve_left ha')
theorem C8{a b:List (List Vl)}(ha:Str cM a)(hb:Str cM b){i k:Nat}(hi:i<a.length)(hk:k<b.length)(hne:b[k]≠a[i])(h:∀t∈a.drop i,t∈b.drop k):∀t∈a.drop i,t∈b.drop (k+1):=by
 have ea:=Ko hi;have eb:=Ko hk;have sa:Str cM (a.drop i):=List.Pairwise.drop ha;have sb:Str cM (b.drop k):=List.Pairwise.drop hb;rw[ea] at sa;rw[eb] at sb;have h0:a[i]∈b.drop (k+1):=by
  have:=h a[i] (by rw[ea];exact Kc);rw[eb] at this;exact(Kg.1 this).resolve_left fun e=>hne e.symm
 have hlt:=(Ku.1 sb).1 _ h0;intro t ht;have hb2:=h t ht;rw[eb] at hb2;rcases Kg.1 hb2 with q|q
 ·exfalso;rw[ea] at ht;rcases Kg.1 ht with e|e
  ·exact hne (q▸e)
  have h1:=(Ku.1 sa).1 _ e;rw[q] at h1;have:=(c3T.aBx _ _).1 h1;omega
 exact q
theorem F5{ar:Int}{zs:List TR}{p:TR}:∀t∈aP zs,t∈aP (nS ar zs p).1:=by
 intro t ht;unfold nS;split
 ·exact ht
 split
 ·exact ht
 split
 ·exact ht
 split
 ·exact ht
 show t∈aP (xI p zs);obtain⟨z,hz,rfl⟩:=Kj.1 ht;refine Kj.2 ⟨z,?_,rfl⟩;unfold xI;rw[←Ks (loT p.2 zs) zs] at hz;rcases Kb.1 hz with q|q
 ·exact Kb.2 (.inl q)
 exact Kb.2 (.inr (Ka _ q))
theorem E7{S:List Sr}{x:ByteArray}{s:Sr}(hs:lkS x S=some s){z:List TR}(hz:∀t∈aP s.zs,t∈aP z):∀y,∀t∈cO S y,t∈cO (wP x z S) y:=by
 intro y t ht;unfold cO at ht⊢;rw[ot];by_cases e:y=x
 ·subst e;rw[if_pos rfl,hs];rw[hs] at ht;exact hz t ht
 rw[if_neg e];exact ht
end Go.Proofs.YtlhedpgobaellaaGreatDoor
