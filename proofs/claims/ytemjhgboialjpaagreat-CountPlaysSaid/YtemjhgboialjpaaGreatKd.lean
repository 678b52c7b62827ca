/-
Texts of this proof,one behind the other. No conditions.
-/
import Derived.Test.YtemjhgboialjpaaGreatKcb
set_option linter.unusedSimpArgs false
set_option linter.unusedVariables false
set_option linter.unusedSectionVars false
namespace Go.Proofs.YtemjhgboialjpaaGreat
open Go.RowKit
theorem aJm{K:Ker}{h:Hp}(hr:Rel K h){n a:Nat}{k:Sh}{es:List V}{cv:Value}(hn:h n=some (.arr k es))(ha:¬K.live a)(hv:VR K (.rs n k 0 es.length) cv):
 ∃K',K'.w=K.w∧K.le K'∧(∀m,K'.live m→K.live m∨m=a)∧VR K' (.sl k (.tok a) es) cv∧Rel K' ((h.del n).set a .tip):=by
 have hb:=hr.blk n _ hn
 cases hb with
 |arr _ _ c T hh hcs himm hfit hcv=>
  cases hv with
  |rs _ _ _ _ cap hl hcap hm=>
   obtain⟨T',m,hm1,hm2⟩:=hm
   have hcm:m=c.size:=by simp[World.shape?,hh] at hm1;exact hm1.2.symm
   subst hcm
   have hblk:K.mu n<K.w.heap.size:=by
    rcases Nat.lt_or_ge (K.mu n) K.w.heap.size with hlt|hge
    ·exact hlt
    rw[Array.getElem?_eq_none hge] at hh;exact absurd hh (by simp)
   have hle:K.le (K.claim a (K.mu n) (es.length*k.size)):=K.le_claim ha (by rw[himm];exact Nat.zero_le _)
   have hmu:(K.claim a (K.mu n) (es.length*k.size)).mu a=K.mu n:=by simp[Ker.claim]
   refine⟨K.claim a (K.mu n) (es.length*k.size),rfl,hle,fun m hm=>hm.symm,?_,hr.claim hn ha (by rw[himm];exact Nat.zero_le _) (.tip c T (by rw[hmu];exact hh) (by simp[Ker.claim]) (by simp only[Ker.claim,if_true];exact hcs))⟩
   have:=VR.sl (K:=K.claim a (K.mu n) (es.length*k.size)) k (.tok a) es (K.mu n) 0 cap (fun j=>c.getD j Go.undef) hblk hfit
    (fun j hj=>by
      show K.w.cell? _=_
      simp only[World.cell?,hh,Nat.zero_add]
      rw[Array.getD_eq_getD_getElem?,Array.getElem?_eq_getElem (by omega)]
      rfl)
    (fun j hj=> .inr (by simp only[Ker.claim,if_true];omega))
    (fun i hi j hj=>(hcv i hi j hj).mono hle) hcap (by simp) (by simp)
    (fun m hm=>by
      injection hm with hm
      subst hm
      refine⟨.inl rfl, .inr ⟨hmu,by simp[Ker.claim],T',c.size,?_,by simpa using Nat.le_of_eq hm2⟩⟩
      exact hm1)
   simpa using this
theorem aBK{P:Program}{f:FuncId}{args:List V}{h:Hp}{nx:Nat}{k:Sh}{G:List V→Prop}
 (c:aX P f args h nx fun v h' _=>∃n es,nx≤n∧v= .rs n k 0 es.length∧h'=h.set n (.arr k es)∧G es):
 aX P f args h nx fun v h' _=>∃id es,nx≤id∧v= .sl k (.tok id) es∧h'=h.set id .tip∧G es:=by
 refine⟨c.1,fun K cargs hl hr hv=>(c.2 K cargs hl hr hv).mono ?_⟩
 rintro e w' ⟨K',v,cv,h',nx',rfl,he,hle,hvr,hrel,hlv,hnx,n,es,hn,rfl,rfl,hG⟩
 have hfr:¬K'.live nx':=fun hh=>Nat.lt_irrefl _ (hlv nx' hh).1
 have hset:(h.set n (.arr k es)) n=some (.arr k es):=by simp[Hp.set]
 obtain⟨K'',q1,q2,q3,q4,q5⟩:=aJm hrel hset hfr hvr
 have hdom:h n=none:=by
  cases hd:h n with
  |none=>rfl
  |some b=>exact absurd (hl n (hr.lt n b hd)) (by omega)
 have hh:((h.set n (.arr k es)).del n).set nx' .tip=h.set nx' .tip:=by
  funext x
  unfold Hp.set Hp.del
  by_cases e1:x=nx'
  ·simp[e1]
  by_cases e2:x=n
  ·subst e2;simp[e1,hdom]
  simp[e1,e2]
 rw[hh] at q5
 refine⟨K'',_,cv,_,nx'+1,q1,he,hle.trans q2,q4,q5,fun m hm=>?_,by omega,nx',es,hnx,rfl,rfl,hG⟩
 rcases q3 m hm with hm|rfl
 ·exact⟨by have:=(hlv m hm).1;omega,(hlv m hm).2⟩
 exact⟨by omega, .inr hnx⟩
theorem Hp.set_app(h:Hp)(n:Nat)(b:Blk)(m:Nat):(h.set n b) m=if m=n then some b else h m:=rfl
theorem Hp.del_app(h:Hp)(n m:Nat):(h.del n) m=if m=n then Option.none else h m:=rfl
def aH(h:Hp)(nx:Nat):Prop:=∀m b,h m=some b→m<nx
theorem aX.dom{P:Program}{f:FuncId}{args:List V}{h:Hp}{nx:Nat}{R:V→Hp→Nat→Prop}(c:aX P f args h nx R):aX P f args h nx fun v h' nx'=>R v h' nx'∧aH h' nx'∧nx≤nx':=
 ⟨c.1,fun K cargs hl hrel hv=>(c.2 K cargs hl hrel hv).mono fun _ _ ⟨K',v,cv,h',nx',a,b,c,d,e,g,i,j⟩=>⟨K',v,cv,h',nx',a,b,c,d,e,g,i,j,fun m b hm=>(g m (e.lt m b hm)).1,i⟩⟩
theorem fI.dom{P:Program}{n:Nat}{args:List V}{h:Hp}{nx:Nat}{R:V→Hp→Nat→Prop}(c:fI P n args h nx R):fI P n args h nx fun v h' nx'=>R v h' nx'∧aH h' nx'∧nx≤nx':=
 fun m K cargs hl hn hrel hv=>(c m K cargs hl hn hrel hv).mono fun _ _ ⟨K',v,cv,h',nx',a,b,c,d,e,g,i,j⟩=>⟨K',v,cv,h',nx',a,b,c,d,e,g,i,j,fun m b hm=>(g m (e.lt m b hm)).1,i⟩
theorem aH.set{h:Hp}{nx nx' n:Nat}(hd:aH h nx)(hn:n<nx')(hle:nx≤nx')(b:Blk):aH (h.set n b) nx':=fun m c e=>by
 unfold Hp.set at e
 split at e
 ·omega
 have:=hd m c e;omega
theorem aH.del{h:Hp}{nx n:Nat}(hd:aH h nx):aH (h.del n) nx:=fun m c e=>by
 unfold Hp.del at e
 split at e
 ·cases e
 exact hd m c e
theorem aH.up{h:Hp}{nx nx':Nat}(hd:aH h nx)(hle:nx≤nx'):aH h nx':=fun m c e=>by have:=hd m c e;omega
theorem aH.le{h h':Hp}{nx:Nat}(hd:aH h' nx)(hle:h.le h'):aH h nx:=fun m c e=>hd m c (hle m c e)
theorem aBZ{h h':Hp}{n:Nat}{b:Blk}(hle:h.le h')(hn:h' n=some b):(h.set n b).le h':=fun m c e=>by
 unfold Hp.set at e
 split at e
 ·rename_i em;subst em;injection e with e;subst e;exact hn
 exact hle m c e
theorem dW{h h':Hp}{n:Nat}(hle:h.le h')(hn:h n=none)(b:Blk):h.le (h'.set n b):=fun m c e=>by
 unfold Hp.set
 split
 ·rename_i em;subst em;rw[hn] at e;cases e
 exact hle m c e
theorem nE{h h':Hp}{n:Nat}(hle:h.le h')(hn:h n=none):h.le (h'.del n):=fun m c e=>by
 unfold Hp.del
 split
 ·rename_i em;subst em;rw[hn] at e;cases e
 exact hle m c e
theorem aH.none{h:Hp}{nx n:Nat}(hd:aH h nx)(hn:nx≤n):h n= .none:=by
 cases e:h n with
 |none=>rfl
 |some b=>exact absurd (hd n b e) (by omega)
theorem aKR{h h':Hp}(hle:h.le h'):Hp.has h h':=fun n b e _=>hle n _ e
theorem Hp.le_trans{a b c:Hp}(h:a.le b)(h':b.le c):a.le c:=fun n x e=>h' n x (h n x e)
def aGI(P:Program)(gf:Nat)(caps:List V)(hb:Hp)(xs:List (List V)):Prop:=
 ∀(yn:Nat) (J:Nat→Hp→Nat→Prop) (D:Hp→Nat→Prop),
  (∀i h nx,J i h nx→hb.has h)→(∀i h nx nx',J i h nx→nx≤nx'→J i h nx')→(∀h nx nx',D h nx→nx≤nx'→D h nx')→
  (∀i (hi:i<xs.length) h nx,J i h nx→aH h nx→fI P yn xs[i] h nx fun v h' nx'=>(v= .bool true∧J (i+1) h' nx')∨(v= .bool false∧D h' nx'))→
  ∀h nx,J 0 h nx→aH h nx→aX P gf (.yld yn::caps) h nx fun _ h' nx'=>J xs.length h' nx'∨D h' nx'
def aLb(r:Nat)(X:Blk)(J:St→Prop):cB→St→Prop
 | .normal,s=>s.h r=some X∧J s
 |_,_=>False
def sM(r:Nat)(X:Blk)(I:Hp→Nat→Prop)(E:cB→Hp→Nat→Prop):cB→St→Prop
 | .normal,s=>s.h r=some X∧I s.h s.nx
 |e,s=>s.h r=some X∧E e s.h s.nx
theorem qS{r:Nat}{X:Blk}{J:St→Prop}{s:St}(h:s.h r=some X)(hj:J s):aLb r X J .normal s:=⟨h,hj⟩
theorem nA{r:Nat}{X:Blk}{I:Hp→Nat→Prop}{E:cB→Hp→Nat→Prop}{s:St}(h:s.h r=some X)(hi:I s.h s.nx):sM r X I E .normal s:=⟨h,hi⟩
theorem qB{P:Program}{g:aN}{ps:List Nat}{as b:bB}{Q:cB→St→Prop}{s:St}{gf:Nat}{caps:List V}{hb:Hp}{xs:List (List V)}(hit:aGI P gf caps hb xs)(hg:g.ev s.sl= .fn (.func gf) [] caps)
 (hlen:∀x∈xs,x.length=ps.length) (hd:aH s.h s.nx) (I:Nat→Hp→Nat→Prop) (E:cB→Hp→Nat→Prop)
 (hbI:∀i h nx,I i h nx→hb.has h) (hnI:∀i h nx nx',I i h nx→nx≤nx'→I i h nx') (hsI:∀i h nx b,I i h nx→I i (h.set s.nx b) nx)
 (hnE:∀e h nx nx',E e h nx→nx≤nx'→E e h nx') (hsE:∀e h nx b,E e h nx→E e (h.set s.nx b) nx)
 (h0:I 0 s.h (s.nx+1))
 (hround:∀i (hi:i<xs.length) h nx X,I i h nx→s.nx<nx→h s.nx=some X→aH h nx→
   lwp P as (aLb s.nx X fun s1=>∀X',lwp P b (sM s.nx X' (I (i+1)) E) ⟨s1.sl,s1.h.set s.nx X',s1.nx⟩) ⟨putAll s.sl ps xs[i],h,nx⟩)
 (hend:∀h nx,I xs.length h nx→s.nx<nx→aH h nx→Q .normal ⟨s.sl,h.del s.nx,nx⟩)
 (hex:∀e h nx,E e h nx→s.nx<nx→aH h nx→(e= .ret∨∃id,e= .exit id)→Q e ⟨s.sl,h.del s.nx,nx⟩):lwp P (.range g ps as b) Q s:=by
 simp only[lwp,hg]
 intro rcd U hpl hY
 have hset:∀(h:Hp) (b:Blk),(h.set s.nx b) s.nx=some b:=fun h b=>by simp[Hp.set]
 refine((hit s.nx (fun i h nx=>I i h nx∧h s.nx=some (.obj (rcd .ready none) U))
  (fun h nx=>(h s.nx=some (.obj (rcd .done (some .ret)) U)∧E .ret h nx)∨∃id,h s.nx=some (.obj (rcd .done (some (.exit id))) U)∧E (.exit id) h nx)
  (fun i h nx hj=>hbI i h nx hj.1) (fun i h nx nx' hj hle=>⟨hnI i h nx nx' hj.1 hle,hj.2⟩)
  (fun h nx nx' hD hle=>hD.imp (fun hD=>⟨hD.1,hnE _ _ _ _ hD.2 hle⟩) (fun⟨id,hD⟩=>⟨id,hD.1,hnE _ _ _ _ hD.2 hle⟩)) ?_ _ (s.nx+1) ⟨hsI _ _ _ _ h0,hset _ _⟩ ?_).dom).mono ?_
 ·rintro i hi h nx ⟨hI,hr⟩ hdom
  refine hY xs[i] h nx _ (hlen _ (List.getElem_mem _)) hr ?_
  refine lV ?_ (hround i hi h nx _ hI (hdom _ _ hr) hr hdom)
  intro e s1 hq
  cases e with
  |exit id=>exact hq.elim
  |ret=>exact hq.elim
  |normal=>
   refine⟨hq.1,lV ?_ (hq.2 (.obj (rcd .busy none) U))⟩
   intro e s2 hq2
   cases e with
   |normal=>exact⟨hq2.1, .inl ⟨rfl,hsI _ _ _ _ hq2.2,hset _ _⟩⟩
   |ret=>exact⟨hq2.1, .inr ⟨rfl, .inl ⟨hset _ _,hsE _ _ _ _ hq2.2⟩⟩⟩
   |exit id=>exact⟨hq2.1, .inr ⟨rfl, .inr ⟨id,hset _ _,hsE _ _ _ _ hq2.2⟩⟩⟩
 ·intro m b hm
  unfold Hp.set at hm
  split at hm
  ·omega
  have:=hd m b hm;omega
 rintro v h' nx' _ ⟨(⟨hI,hr⟩|(⟨hr,hE⟩|⟨id,hr,hE⟩)),hdom,hle⟩
 ·exact .inl ⟨hr,hend _ _ hI (by omega) hdom⟩
 ·exact .inr (.inl ⟨hr,hex _ _ _ hE (by omega) hdom (.inl rfl)⟩)
 exact .inr (.inr ⟨id,hr,hex _ _ _ hE (by omega) hdom (.inr ⟨id,rfl⟩)⟩)
def bG{ι:Type}(sl:ι→List V)(C:ι→Hp→Nat→Prop)(m:ι→Nat)(n:Nat)(Q:cB→St→Prop):cB→St→Prop
 | .normal,s=>∃s',aBL s s'∧∃i,m i<n∧WkL s'.sl (sl i)∧C i s'.h s'.nx
 |e,s=>Q e s
section
variable{P:Program}{Q:cB→St→Prop}{s:St}{ι:Type}{sl:ι→List V}{C:ι→Hp→Nat→Prop}{m:ι→Nat}{n:Nat}
theorem aC{sl0:List V}{h:Hp}{nx:Nat}(i:ι)(hm:m i<n)(hC:C i h nx)(hw:WkL sl0 (sl i)):bG sl C m n Q .normal ⟨sl0,h,nx⟩:=⟨_,(Wk.refl _).tell,i,hm,hw,hC⟩
theorem cT{id:Nat}(h:Q (.exit id) s):bG sl C m n Q (.exit id) s:=h
theorem eF(h:Q .ret s):bG sl C m n Q .ret s:=h
theorem aP{c:bB}(sl:ι→List V)(C:ι→Hp→Nat→Prop)(m:ι→Nat)(i0:ι)(h0:C i0 s.h s.nx)(hw:WkL s.sl (sl i0))(hr:∀i h nx,C i h nx→lwp P c (bG sl C m (m i) Q) ⟨sl i,h,nx⟩):lwp P (.loop c) Q s:=by
 refine lW (fun p:ι×Hp×Nat=>C p.1 p.2.1 p.2.2) (fun p=>⟨sl p.1,p.2.1,p.2.2⟩) (fun p=>m p.1) (i0,s.h,s.nx) h0 ⟨hw,Hp.le_refl _,Nat.le_refl _⟩ ?_
 rintro⟨i,h,nx⟩ hC
 refine lV ?_ (hr i h nx hC)
 intro e s' hq
 cases e with
 |normal=>
  obtain⟨s2,h0,j,h1,h2,h3⟩:=hq
  exact⟨(j,s2.h,s2.nx),h3,h1,h0.trans (Wk.tell ⟨h2,Hp.le_refl _,Nat.le_refl _⟩)⟩
 |exit id=>exact hq
 |ret=>exact hq
end
theorem aH.set2{h:Hp}{nx n:Nat}(hd:aH h nx)(hn:n<nx)(b:Blk):aH (h.set n b) nx:=hd.set hn (Nat.le_refl _) b
def aA.plain(o:aA):Bool:=match o.g with
 |none=> !o.op.isCall
 |some _=>false
def vG:List aA→List aA
 | []=>[]
 |o::r=>match o.plain with
  |true=>o::vG r
  |false=>[]
def sV:List aA→List aA
 | []=>[]
 |o::r=>match o.plain with
  |true=>sV r
  |false=>o::r
theorem aGY{P:Program}{Q:St→Prop}:∀(l:List aA) (s:St),pG (vG l) s→aY P (sV l) Q (iO (vG l) s)→aY P l Q s
 | [],s,_,h=>h
 |o::r,s,ho,h=>by
  cases hc:o.plain with
  |false=>simp only[vG,sV,hc] at ho h;exact h
  |true=>
   simp only[vG,sV,hc] at ho h
   have hcall:o.op.isCall=false:=by
    unfold aA.plain at hc
    split at hc
    ·simpa using hc
    cases hc
   exact rH hcall ho.1 (aGY r _ ho.2 h)
theorem aEN{P:Program}{Q:St→Prop}{s:St}:aY P [] Q s=Q s:=rfl
theorem dS{P:Program}{Q:St→Prop}{s:St}(h:Q s):aY P [] Q s:=h
theorem eH{P:Program}{Q:St→Prop}{o:aA}{r:List aA}{s:St}(_:o.plain=true)(ho:pG (vG (o::r)) s)(h:aY P (sV (o::r)) Q (iO (vG (o::r)) s)):aY P (o::r) Q s:=aGY _ s ho h
theorem kT{P:Program}{Q:St→Prop}{s:St}{dst:Option Nat}{k:Sh}{bs:Nat}{x y:aN}{r:List aA}{ys:List V}(hx:x.ev s.sl= .sl k .nil [])(hy:eD s.h (y.ev s.sl)=some (k,ys))(hne:ys≠ [])(hb:ys.length*bs≤140737488355328)
 (h:aY P r Q ⟨bL s.sl dst (.rs s.nx k 0 ys.length),s.h.set s.nx (.arr k ys),s.nx+1⟩):aY P (⟨dst,none, .append k bs x y⟩::r) Q s:=by
 unfold aY
 simp only[LOp.run,LOp.sem,hy,hx]
 exact⟨trivial,trivial,by simpa using hb, .inr ⟨trivial,trivial,hne,h⟩⟩
theorem yQ{P:Program}{Q:St→Prop}{s:St}{dst:Option Nat}{k:Sh}{bs n len:Nat}{x y:aN}{r:List aA}{es ys:List V}(hx:x.ev s.sl= .rs n k 0 len)(hn:s.h n=some (.arr k es))(hl:len≤es.length)(hy:eD s.h (y.ev s.sl)=some (k,ys))(hne:ys≠ [])(hb:(len+ys.length)*bs≤140737488355328)
 (h:aY P r Q ⟨bL s.sl dst (.rs s.nx k 0 (len+ys.length)),(s.h.del n).set s.nx (.arr k (es.take len++ys)),s.nx+1⟩):aY P (⟨dst,none, .append k bs x y⟩::r) Q s:=by
 unfold aY
 simp only[LOp.run,LOp.sem,hy,hx,hn]
 exact⟨trivial,trivial, .inr ⟨trivial,trivial,hl,hne,hb,h⟩⟩
theorem yP{P:Program}{Q:St→Prop}{s:St}{dst:Option Nat}{k:Sh}{xs:List aN}{r:List aA}(hf:∀e∈xs,(e.ev s.sl).fits k=true)
 (h:aY P r Q ⟨bL s.sl dst (.rs s.nx k 0 xs.length),s.h.set s.nx (.arr k (xs.map (aN.ev s.sl))),s.nx+1⟩):aY P (⟨dst,none, .bslice k xs⟩::r) Q s:=by
 unfold aY
 exact⟨hf, .inr h⟩
theorem xH{a b:Nat}(h:a≤1000000000)(h':b≤140737):a*b≤140737488355328:=Nat.le_trans (Nat.mul_le_mul h h') (by decide)
def LOp.isStop:LOp→Bool
 | .call _ _=>true
 | .callv _ _=>true
 | .callw _ _ _=>true
 | .store _ _ _=>true
 |_=>false
def aA.dplain(o:aA):Bool:=match o.g with
 |none=> !o.op.isStop
 |some _=>false
def nI:List (aA×List Nat)→List (aA×List Nat)
 | []=>[]
 |o::r=>match o.1.dplain with
  |true=>o::nI r
  |false=>[]
def oX:List (aA×List Nat)→List (aA×List Nat)
 | []=>[]
 |o::r=>match o.1.dplain with
  |true=>oX r
  |false=>o::r
def aBD:List (aA×List Nat)→List (aA×List Nat)
 | []=>[]
 |o::r=>match o.1.op.isStop with
  |true=>[]
  |false=>o::aBD r
def mF:List (aA×List Nat)→List (aA×List Nat)
 | []=>[]
 |o::r=>match o.1.op.isStop with
  |true=>o::r
  |false=>mF r
theorem yB:∀l:List (aA×List Nat),aBD l++mF l=l
 | []=>rfl
 |o::r=>by
  unfold aBD mF
  split
  ·rfl
  rw[List.cons_append,yB r]
theorem aFs{P:Program}{h0:Hp}{nx0:Nat}{Q:List V→List (Option Blk)→List (Option Con)→Prop}{l:List (aA×List Nat)}{sl:List V}{adds:List (Option Blk)}{cons:List (Option Con)}(ho:qO h0 nx0 (aBD l) ⟨sl,adds,cons⟩)
 (h:cU P h0 nx0 (mF l) (eX h0 nx0 (aBD l) ⟨sl,adds,cons⟩).sl (eX h0 nx0 (aBD l) ⟨sl,adds,cons⟩).adds (eX h0 nx0 (aBD l) ⟨sl,adds,cons⟩).cons Q):cU P h0 nx0 l sl adds cons Q:=by
 have:=aAO (P:=P) (Q:=Q) (r:=mF l) (aBD l) ⟨sl,adds,cons⟩ ho h
 rwa [yB] at this
theorem aAQ:∀l:List (aA×List Nat),nI l++oX l=l
 | []=>rfl
 |o::r=>by
  unfold nI oX
  split
  ·rw[List.cons_append,aAQ r]
  rfl
theorem bQ{P:Program}{h0:Hp}{nx0:Nat}{Q:List V→List (Option Blk)→List (Option Con)→Prop}{o:aA×List Nat}{r:List (aA×List Nat)}{sl:List V}{adds:List (Option Blk)}{cons:List (Option Con)}(_:o.1.dplain=true)(ho:qO h0 nx0 (nI (o::r)) ⟨sl,adds,cons⟩)
 (h:cU P h0 nx0 (oX (o::r)) (eX h0 nx0 (nI (o::r)) ⟨sl,adds,cons⟩).sl (eX h0 nx0 (nI (o::r)) ⟨sl,adds,cons⟩).adds (eX h0 nx0 (nI (o::r)) ⟨sl,adds,cons⟩).cons Q):cU P h0 nx0 (o::r) sl adds cons Q:=by
 have:=aAO (P:=P) (Q:=Q) (r:=oX (o::r)) (nI (o::r)) ⟨sl,adds,cons⟩ ho h
 rwa [aAQ] at this
theorem iU(k:Sh):dI k k 0:=by cases k<;>simp[dI]
theorem iE{k:Sh}{v:V}(h:v.fits k=true):bZ k 0 v=v:=by
 cases k with
 |leaf=>cases v<;>first|rfl|(simp[V.fits,V.leafy] at h)
 |agg m=>
  cases v with
  |agg cs=>
   simp only[V.fits,Bool.and_eq_true,decide_eq_true_eq] at h
   simp[bZ,V.cells,h.1]
  |_=>simp[V.fits] at h
theorem aCg(o:Nat):dI .leaf .leaf o=(o=0):=rfl
theorem aCh(n o:Nat):dI (.agg n) .leaf o=(o<n):=rfl
theorem aCi(n m o:Nat):dI (.agg n) (.agg m) o=(o+m≤n):=rfl
theorem aAq(o:Nat)(v:V):bZ .leaf o v=v.cell o:=rfl
theorem aAr(m o:Nat)(cs:List V):bZ (.agg m) o (.agg cs)=if o=0∧cs.length=m then .agg cs else .agg ((cs.drop o).take m):=rfl
theorem tM(o:Nat)(cs:List V)(v:V):bO .leaf o (.agg cs) v= .agg (cs.set o v):=rfl
theorem tN(m o:Nat)(cs:List V)(v:V):bO (.agg m) o (.agg cs) v=if o=0∧cs.length=m then v else .agg (cs.take o++v.cells++cs.drop (o+m)):=rfl
theorem aIB(n:Nat)(ks:List LK)(xs ys:List V):veq (.plain (.agg n) ks) (.agg xs) (.agg ys)=if ((V.agg xs).fits (.agg n)&&(V.agg ys).fits (.agg n))=true then gW ks xs ys else none:=rfl
theorem aIz(ks:List LK)(k k':IntKind)(a b:Int):veq (.plain .leaf ks) (.int k a) (.int k' b)=gW ks [.int k a] [.int k' b]:=rfl
theorem aIA(ks:List LK)(a b:Bool):veq (.plain .leaf ks) (.bool a) (.bool b)=gW ks [.bool a] [.bool b]:=rfl
theorem aIy(ks:List LK)(a b:ByteArray):veq (.plain .leaf ks) (.str a) (.str b)=gW ks [.str a] [.str b]:=rfl
theorem aCM(cs:List V):(V.agg cs).cells=cs:=rfl
theorem sZ{v:V}(h:v.leafy=true):v.cells=[v]:=by cases v<;>first|rfl|(simp[V.leafy] at h)
theorem vT(cs:List V)(j:Nat):(V.agg cs).cell j=cs.getD j V.undef:=rfl
theorem oB{v:V}(h:v.leafy=true):v.cell 0=v:=by cases v<;>first|rfl|(simp[V.leafy] at h)
theorem aDP:veq .ptr .nilPtr .nilPtr=some true:=rfl
theorem aDO(n:Nat)(k:Sh)(i o:Nat):veq .ptr .nilPtr (.ptr n k i o)=some false:=rfl
theorem aDN(n:Nat)(k:Sh)(i o:Nat):veq .ptr (.ptr n k i o) .nilPtr=some false:=rfl
theorem aDM(k:Sh)(es:List V)(i o:Nat):veq .ptr .nilPtr (.ept k es i o)=some false:=rfl
theorem aDL(k:Sh)(es:List V)(i o:Nat):veq .ptr (.ept k es i o) .nilPtr=some false:=rfl
theorem zK(k k':Sh)(o:Own)(es es':List V):veq .slice (.sl k o es) (.sl k' .nil es')=some (o== .nil):=rfl
theorem zJ(n:Nat)(k k':Sh)(o l:Nat)(es':List V):veq .slice (.rs n k o l) (.sl k' .nil es')=some false:=rfl
theorem aBQ:veq .func .nilFn .nilFn=some true:=rfl
theorem aBP(f:Fn)(a b:List V):veq .func .nilFn (.fn f a b)=some false:=rfl
theorem aBO(f:Fn)(a b:List V):veq .func (.fn f a b) .nilFn=some false:=rfl
theorem zN:veq (.iface true) .nilIface .nilIface=some true:=rfl
theorem zM(c:Bool)(t:Nat)(v:V):veq (.iface c) .nilIface (.iface t v)=some false:=by cases c<;>rfl
theorem zL(c:Bool)(t:Nat)(v:V):veq (.iface c) (.iface t v) .nilIface=some false:=by cases c<;>rfl
theorem aDS:veq .map .nilMap .nilMap=some true:=rfl
theorem aDR(n:Nat):veq .map .nilMap (.map n)=some false:=rfl
theorem aDQ(n:Nat):veq .map (.map n) .nilMap=some false:=rfl
theorem aBT:veq .chan .nilChan .nilChan=some true:=rfl
theorem aBS(n:Nat):veq .chan .nilChan (.chan n)=some false:=rfl
theorem aBR(n:Nat):veq .chan (.chan n) .nilChan=some false:=rfl
theorem aFm(n:Nat)(cs:List V):V.fits (.agg n) (.agg cs)=(decide (cs.length=n)&&cs.all V.leafy):=by simp only[V.fits]
theorem aAu(b:Bool):V.leafy (.bool b)=true:=by simp only[V.leafy]
theorem rI(k:IntKind)(n:Int):V.leafy (.int k n)=true:=by simp only[V.leafy]
theorem aCv(s:ByteArray):V.leafy (.str s)=true:=by simp only[V.leafy]
theorem vC:V.leafy (.nilPtr)=true:=by simp only[V.leafy]
theorem aCw(n:Nat)(k:Sh)(i o:Nat):V.leafy (.ptr n k i o)=true:=by simp only[V.leafy]
theorem aCx(k:Sh)(es:List V)(i o:Nat):V.leafy (.ept k es i o)=true:=by simp only[V.leafy]
theorem aEQ(k:Sh)(own:Own)(es:List V):V.leafy (.sl k own es)=true:=by simp only[V.leafy]
theorem aER(n:Nat)(k:Sh)(off len:Nat):V.leafy (.rs n k off len)=true:=by simp only[V.leafy]
theorem vD:V.leafy (.nilMap)=true:=by simp only[V.leafy]
theorem wW(n:Nat):V.leafy (.map n)=true:=by simp only[V.leafy]
theorem rU:V.leafy (.nilChan)=true:=by simp only[V.leafy]
theorem aAt(n:Nat):V.leafy (.chan n)=true:=by simp only[V.leafy]
theorem aES(f:Fn)(a b:List V):V.leafy (.fn f a b)=true:=by simp only[V.leafy]
theorem xT:V.leafy (.nilFn)=true:=by simp only[V.leafy]
theorem aCu(n:Nat):V.leafy (.yld n)=true:=by simp only[V.leafy]
theorem xU(t:Nat)(v:V):V.leafy (.iface t v)=true:=by simp only[V.leafy]
theorem qG:V.leafy (.nilIface)=true:=by simp only[V.leafy]
theorem nV(v:V):v.fits .leaf=v.leafy:=by cases v<;>rfl
theorem cS{k:Sh}{e v:V}(he:e.fits k=true)(hv:v.fits k=true):bO k 0 e v=v:=by
 cases k with
 |leaf=>cases e<;>first|rfl|(simp[V.fits,V.leafy] at he)
 |agg m=>
  cases e with
  |agg cs=>
   simp only[V.fits,Bool.and_eq_true,decide_eq_true_eq] at he
   simp[bO,he.1]
  |_=>simp[V.fits] at he
def V.gd(c:Bool)(v:V):V:=if c=true then v else V.undef
theorem V.gd_true(v:V):V.gd true v=v:=rfl
theorem V.gd_false(v:V):V.gd false v=V.undef:=rfl
theorem aGR(c:Bool)(x y:V):V.pick c (V.gd c x) y=V.pick c x y:=by cases c<;>simp[V.gd,lJ,kF]
theorem aEt(c:Bool)(x y:V):V.pick c x (V.gd (!c) y)=V.pick c x y:=by cases c<;>simp[V.gd,lJ,kF]
theorem aEu(t x:Bool):V.pick t (.bool x) (.bool false)= .bool (t&&x):=by cases t<;>rfl
theorem aGQ(t y:Bool):V.pick t (.bool true) (.bool y)= .bool (t||y):=by cases t<;>rfl
def yR(g:Option (Nat×Bool)):List aA→List aA
 | []=>[]
 |o::r=>if o.g=g then o::yR g r else []
def vJ(g:Option (Nat×Bool)):List aA→List aA
 | []=>[]
 |o::r=>if o.g=g then vJ g r else o::r
def aIo(l:List aA):List aA:=l.map fun o=>⟨o.dst,none,o.op⟩
def nG(c:Bool)(sl':List V):List aA→List V→List V
 | [],sl=>sl
 |o::r,sl=>nG c sl' r (match o.dst with|some d=>sl.set d (V.gd c (sl'.getD d V.undef))|none=>sl)
def nJ(ds:List Nat)(a b:List V):Prop:=a.length=b.length∧∀t,t∉ds→a.getD t V.undef=b.getD t V.undef
theorem aEO{P:Program}{Q:St→Prop}:∀(l:List aA) (s:St),aY P l Q s→aY P l (fun s'=>Q s'∧nJ (l.filterMap (·.dst)) s.sl s'.sl) s:=by
 have key:∀(l:List aA) (s0 s:St) (ds:List Nat),nJ ds s0.sl s.sl→aY P l Q s→aY P l (fun s'=>Q s'∧nJ (ds++l.filterMap (·.dst)) s0.sl s'.sl) s:=by
  intro l
  induction l with
  |nil=>intro s0 s ds hb h;exact⟨h,by simpa using hb⟩
  |cons o r ih=>
   intro s0 s ds hb h
   have step:∀(v:V) (h':Hp) (nx':Nat),aY P r Q ⟨bL s.sl o.dst v,h',nx'⟩→aY P r (fun s'=>Q s'∧nJ (ds++(o::r).filterMap (·.dst)) s0.sl s'.sl) ⟨bL s.sl o.dst v,h',nx'⟩:=by
    intro v h' nx' hq
    have hb':nJ (ds++[o].filterMap (·.dst)) s0.sl (bL s.sl o.dst v):=by
     obtain⟨h1,h2⟩:=hb
     cases hd:o.dst with
     |none=>simp only[bL,List.filterMap_cons,hd,List.filterMap_nil,List.append_nil];exact⟨h1,h2⟩
     |some d=>
      refine⟨by simp[bL,h1],fun t ht=>?_⟩
      simp[hd] at ht
      rw[h2 t ht.1]
      simp only[bL,List.getD_eq_getElem?_getD]
      rw[List.getElem?_set_ne (fun e=>ht.2 e.symm)]
    have:=ih s0 ⟨bL s.sl o.dst v,h',nx'⟩ _ hb' hq
    have e:(ds++[o].filterMap (·.dst))++r.filterMap (·.dst)=ds++(o::r).filterMap (·.dst):=by
     cases hd:o.dst<;>simp[hd]
    rw[e] at this
    exact this
   have one:=gC (P:=P) (Q:=fun s'=>aY P r Q s') (Q':=fun s'=>aY P r Q s') (fun _ x=>x) [o] s
   revert h
   unfold aY
   split
   ·rename_i hg
    intro h
    have:=gC (P:=P) (Q:=fun s'=>aY P r Q s'∧∃v h' nx',s'=⟨bL s.sl o.dst v,h',nx'⟩) (Q':=fun s'=>aY P r (fun s'=>Q s'∧nJ (ds++(o::r).filterMap (·.dst)) s0.sl s'.sl) s') (by rintro s' ⟨hq,v,h',nx',rfl⟩;exact step v h' nx' hq) [o] s (by
     unfold aY
     rw[hg]
     show o.op.run P s.sl s.h s.nx fun v h' nx'=>aY P r Q ⟨bL s.sl o.dst v,h',nx'⟩∧_
     exact LOp.run_mono (fun v h' nx' hq=>⟨hq,v,h',nx',rfl⟩) h)
    unfold aY at this
    rw[hg] at this
    exact this
   rename_i t want hg
   split
   ·split
    ·intro h
     exact LOp.run_mono (fun v h' nx' hq=>step v h' nx' hq) h
    exact step _ _ _
   ·exact step _ _ _
   exact id
 intro l s h
 have:=key l s s [] ⟨rfl,fun _ _=>rfl⟩ h
 simpa using this
theorem mU{sl':List V}:∀(l:List aA) (sl:List V),sl.length=sl'.length→(∀t,t∉l.filterMap (·.dst)→sl.getD t V.undef=sl'.getD t V.undef)→nG true sl' l sl=sl'
 | [],sl,hl,h=>by
  apply List.ext_getElem hl
  intro i h1 h2
  have:=h i (by simp)
  rwa [List.getD_eq_getElem?_getD,List.getD_eq_getElem?_getD,List.getElem?_eq_getElem h1,List.getElem?_eq_getElem h2] at this
 |o::r,sl,hl,h=>by
  unfold nG
  cases hd:o.dst with
  |none=>exact mU r sl hl (by simpa [hd] using h)
  |some d=>
   refine mU r _ (by simpa using hl) fun t ht=>?_
   by_cases e:d=t
   ·subst e
    simp only[List.getD_eq_getElem?_getD]
    by_cases hdl:d<sl.length
    ·rw[List.getElem?_set_self hdl];simp[V.gd]
    rw[List.getElem?_eq_none (by simp;omega),List.getElem?_eq_none (by omega)]
   have:=h t (by
    rw[List.filterMap_cons,hd]
    simp only[List.mem_cons,not_or]
    exact⟨fun e'=>e e'.symm,ht⟩)
   simp only[List.getD_eq_getElem?_getD] at this⊢
   rw[List.getElem?_set_ne e,this]
theorem vK{P:Program}{Q:St→Prop}{sl':List V}{t:Nat}{want b:Bool}(hne:b≠want){r:List aA}:∀(l:List aA) (s:St),(∀o∈l,o.g=some (t,want))→(∀o∈l,o.dst≠some t)→s.sl.getD t V.undef= .bool b→
 aY P r Q ⟨nG false sl' l s.sl,s.h,s.nx⟩→aY P (l++r) Q s
 | [],s,_,_,_,h=>h
 |o::l,s,hg,hd,hb,h=>by
  rw[List.cons_append]
  unfold aY
  rw[hg o (by simp)]
  simp only[hb]
  rw[if_neg hne]
  refine vK (sl':=sl') hne l _ (fun o' ho'=>hg o' (by simp[ho'])) (fun o' ho'=>hd o' (by simp[ho'])) ?_ ?_
  ·cases hdo:o.dst with
   |none=>exact hb
   |some d=>
    have:d≠t:=fun e=>hd o (by simp) (by rw[hdo,e])
    simp only[bL,List.getD_eq_getElem?_getD] at hb⊢
    rw[List.getElem?_set_ne this];exact hb
  unfold nG at h
  cases hdo:o.dst with
  |none=>rw[hdo] at h;simpa [bL] using h
  |some d=>rw[hdo] at h;simpa [bL,V.gd] using h
theorem xX(g:Option (Nat×Bool)):∀l:List aA,yR g l++vJ g l=l
 | []=>rfl
 |o::r=>by
  unfold yR vJ
  split
  ·rw[List.cons_append,xX g r]
  rfl
theorem aGw(g:Option (Nat×Bool)):∀(l:List aA),∀o∈yR g l,o.g=g
 | [],o,h=>by cases h
 |o'::r,o,h=>by
  unfold yR at h
  split at h
  ·rename_i e
   rcases List.mem_cons.1 h with rfl|h
   ·exact e
   exact aGw g r o h
  cases h
theorem aKg{P:Program}{Q:St→Prop}{s:St}{t:Nat}{want:Bool}{dst:Option Nat}{op:LOp}{r:List aA}(b:Bool)(hb:s.sl.getD t V.undef= .bool b)(hd:((yR (some (t,want)) (⟨dst,some (t,want),op⟩::r)).all fun o=>decide (o.dst≠some t))=true)(sl':List V)
 (h1:b=want→aY P (aIo (yR (some (t,want)) (⟨dst,some (t,want),op⟩::r))) (fun s1=>s1=⟨sl',s.h,s.nx⟩) s)
 (h2:aY P (vJ (some (t,want)) (⟨dst,some (t,want),op⟩::r)) Q ⟨nG (b==want) sl' (yR (some (t,want)) (⟨dst,some (t,want),op⟩::r)) s.sl,s.h,s.nx⟩):
 aY P (⟨dst,some (t,want),op⟩::r) Q s:=by
 generalize (⟨dst,some (t,want),op⟩::r)=l at*
 rw[←xX (some (t,want)) l]
 have hd':∀o∈yR (some (t,want)) l,o.dst≠some t:=fun o ho=>by simpa using List.all_eq_true.1 hd o ho
 by_cases e:b=want
 ·subst e
  have h1':=h1 rfl
  rw[show(b==b)=true by simp] at h2
  have app:∀(a:List aA) (s:St),(∀o∈a,o.g=some (t,b))→(∀o∈a,o.dst≠some t)→s.sl.getD t V.undef= .bool b→aY P (aIo a) (fun s1=>aY P (vJ (some (t,b)) l) Q s1) s→aY P (a++vJ (some (t,b)) l) Q s:=by
   intro a
   induction a with
   |nil=>exact fun s _ _ _ h=>h
   |cons o a ih=>
    intro s hg hdd hb h
    rw[List.cons_append]
    unfold aY
    rw[hg o (by simp)]
    simp only[hb,if_true]
    have h':o.op.run P s.sl s.h s.nx fun v h' nx'=>aY P (aIo a) (fun s1=>aY P (vJ (some (t,b)) l) Q s1) ⟨bL s.sl o.dst v,h',nx'⟩:=h
    refine LOp.run_mono (fun v h' nx' hq=>ih _ (fun o' ho'=>hg o' (by simp[ho'])) (fun o' ho'=>hdd o' (by simp[ho'])) ?_ hq) h'
    cases hdo:o.dst with
    |none=>exact hb
    |some d=>
     have:d≠t:=fun e=>hdd o (by simp) (by rw[hdo,e])
     simp only[bL,List.getD_eq_getElem?_getD] at hb⊢
     rw[List.getElem?_set_ne this];exact hb
  refine app _ s (aGw _ _) hd' hb (gC ?_ _ _ (aEO _ _ h1'))
  rintro s1 ⟨rfl,hbs⟩
  have e:nG true sl' (yR (some (t,b)) l) s.sl=sl':=by
   refine mU _ _ hbs.1 fun t' ht'=>hbs.2 t' ?_
   simpa [aIo,List.filterMap_map] using ht'
  rw[e] at h2
  exact h2
 rw[show(b==want)=false by simpa using e] at h2
 exact vK e _ s (aGw _ _) hd' hb h2
theorem aId{K:Ker}{h:Hp}(hr:Rel K h){n a:Nat}{k:Sh}{es:List V}{i o:Nat}{cv:Value}(hn:h n=some (.arr k es))(ha:¬K.live a)(hv:VR K (.ptr n k i o) cv):
 ∃K',K'.w=K.w∧K.le K'∧(∀m,K'.live m→K.live m∨m=a)∧VR K' (.ept k es i o) cv∧Rel K' (h.del n):=by
 have hb:=hr.blk n _ hn
 cases hb with
 |arr _ _ c T hh hcs himm hfit hcv=>
  cases hv with
  |ptr _ _ _ _ hl=>
   have hblk:K.mu n<K.w.heap.size:=by
    rcases Nat.lt_or_ge (K.mu n) K.w.heap.size with hlt|hge
    ·exact hlt
    rw[Array.getElem?_eq_none hge] at hh;exact absurd hh (by simp)
   have hle:K.le (K.claim a (K.mu n) (es.length*k.size)):=K.le_claim ha (by rw[himm];exact Nat.zero_le _)
   have hmu:(K.claim a (K.mu n) (es.length*k.size)).mu a=K.mu n:=by simp[Ker.claim]
   have hrel:=hr.claim hn (a:=a) (m:=es.length*k.size) ha (by rw[himm];exact Nat.zero_le _) (b1:= .tip) (.tip c T (by rw[hmu];exact hh) (by simp[Ker.claim]) (by simp only[Ker.claim,if_true];exact hcs))
   refine⟨K.claim a (K.mu n) (es.length*k.size),rfl,hle,fun m hm=>hm.symm,?_,hrel.weaken ?_⟩
   ·have:=VR.ept (K:=K.claim a (K.mu n) (es.length*k.size)) k es i o (K.mu n) 0 (fun j=>c.getD j Go.undef) hblk hfit
     (fun j hj=>by
       show K.w.cell? _=_
       simp only[World.cell?,hh,Nat.zero_add]
       rw[Array.getD_eq_getD_getElem?,Array.getElem?_eq_getElem (by omega)]
       rfl)
     (fun j hj=> .inr (by simp only[Ker.claim,if_true];omega))
     (fun i hi j hj=>(hcv i hi j hj).mono hle)
    simpa using this
   intro m b e
   unfold Hp.del at e
   split at e
   ·cases e
   rename_i hm
   have hma:m≠a:=fun e2=>ha (e2▸hr.lt m b e)
   unfold Hp.set Hp.del
   rw[if_neg hma,if_neg hm];exact e
def V.loose:V→V
 | .sl k .nil es=> .sl k .nil es
 | .sl k _ es=> .sl k .free es
 | .agg cs=> .agg (cs.map fun c=>match c with
  | .sl k .nil es=> .sl k .nil es
  | .sl k _ es=> .sl k .free es
  |v=>v)
 |v=>v
theorem VR.loose{K:Ker}{v:V}{cv:Value}(r:VR K v cv):VR K v.loose cv:=by
 have one:∀{k:Sh} {own:Own} {es:List V} {cv:Value},VR K (.sl k own es) cv→VR K (match V.sl k own es with| .sl k .nil es=> .sl k .nil es| .sl k _ es=> .sl k .free es|v=>v) cv:=by
  intro k own es cv r
  cases own with
  |nil=>exact r
  |full=>exact r.free (by simp)
  |tok n=>exact r.free (by simp)
  |free=>exact r.free (by simp)
 cases v with
 |sl k own es=>cases own<;>first|exact r|exact r.free (by simp)
 |agg cs=>
  cases r with
  |agg _ ccs hl hv=>
   refine .agg _ ccs (by simpa using hl) fun i hi=>?_
   have hi':i<cs.length:=by simpa using hi
   have:=hv i hi'
   simp only[List.getD_eq_getElem?_getD,List.getElem?_map,List.getElem?_eq_getElem hi',Option.map_some,Option.getD_some] at this⊢
   generalize cs[i]=c at this⊢
   cases c<;>first|exact this|exact one this
 |_=>exact r
theorem aBm{P:Program}{f:FuncId}{args:List V}{h:Hp}{nx:Nat}{g:Fn}{v0:V}
 (c:aX P f args h nx fun v h' _=>∃n,nx≤n∧v= .fn g [] [.ptr n .leaf 0 0]∧h'=h.set n (.arr .leaf [v0])):
 aX P f args h nx fun v h' _=>v= .fn g [] [.ept .leaf [v0.loose] 0 0]∧h'=h:=by
 refine⟨c.1,fun K cargs hl hr hv=>(c.2 K cargs hl hr hv).mono ?_⟩
 rintro e w' ⟨K',v,cv,h',nx',rfl,he,hle,hvr,hrel,hlv,hnx,n,hn,rfl,rfl⟩
 have hfr:¬K'.live nx':=fun hh=>Nat.lt_irrefl _ (hlv nx' hh).1
 have hset:(h.set n (.arr .leaf [v0])) n=some (.arr .leaf [v0]):=by simp[Hp.set]
 cases hvr with
 |fn _ _ _ cf cc h1 h2 v1 v2=>
 have vp:=v2 0 (by simp)
 simp only[List.getD_cons_zero] at vp
 obtain⟨K'',q1,q2,q3,q4,q5⟩:=aId hrel hset hfr vp
 have hdom:h n=none:=by
  cases hd:h n with
  |none=>rfl
  |some b=>exact absurd (hl n (hr.lt n b hd)) (by omega)
 have hh:(h.set n (.arr .leaf [v0])).del n=h:=by
  funext x
  unfold Hp.set Hp.del
  by_cases e2:x=n
  ·subst e2;simp[hdom]
  simp[e2]
 rw[hh] at q5
 have q4':VR K'' (.ept .leaf [v0.loose] 0 0) (cc.getD 0 Go.undef):=by
  generalize cc.getD 0 Go.undef=x at q4⊢
  cases q4 with
  |ept _ _ _ _ b off f hb hfit hcell hst hvv=>
   have hleaf:v0.leafy=true:=by simpa [V.fits] using hfit v0 (by simp)
   have hll:v0.loose.leafy=true:=by
    cases v0<;>first|rfl|(simp[V.leafy] at hleaf)|skip
    rename_i own es
    cases own<;>rfl
   have hc1:∀v:V,v.leafy=true→v.cell 0=v:=fun v hv=>by cases v<;>first|rfl|(simp[V.leafy] at hv)
   refine .ept _ _ _ _ b off f hb (by simpa [V.fits] using hll) hcell hst ?_
   intro i hi j hj
   have hi0:i=0:=by simpa using hi
   have hj0:j=0:=by simpa [Sh.size] using hj
   subst hi0 hj0
   have:=hvv 0 (by simp) 0 (by simp[Sh.size])
   simp only[List.getD_cons_zero,hc1 _ hleaf,hc1 _ hll] at this⊢
   exact this.loose
 refine⟨K'',_,_,h,nx'+1,q1,he,hle.trans q2, .fn g [] [.ept .leaf [v0.loose] 0 0] cf cc h1 h2 (fun i hi=>absurd hi (by simp)) (fun i hi=>?_),q5,fun m hm=>?_,by omega,rfl,rfl⟩
 ·have hi0:i=0:=by simpa using hi
  subst hi0
  exact q4'
 rcases q3 m hm with hm|rfl
 ·exact⟨by have:=(hlv m hm).1;omega,(hlv m hm).2⟩
 exact⟨by omega, .inr hnx⟩
section
variable{P:Program}{h0:Hp}{nx0:Nat}
theorem aCH{Q:List V→List (Option Blk)→List (Option Con)→Prop}{o:aA}{deps:List Nat}{r:List (aA×List Nat)}{sl:List V}{adds:List (Option Blk)}{cons:List (Option Con)}(d:fM)(h1:eW P (iF h0 cons) (nx0+adds.length) o sl (·=d))(h2:∀c,d.con=some c→iV h0 nx0 deps adds cons c.n c.old)
 (h3:cU P h0 nx0 r (bL sl o.dst d.v) (adds++[d.add]) (cons++[d.con]) Q):cU P h0 nx0 ((o,deps)::r) sl adds cons Q:=by
 unfold cU
 exact vN h1 ⟨h2,h3⟩
theorem aFr{Q:List V→List (Option Blk)→List (Option Con)→Prop}{o:aA}{deps:List Nat}{r:List (aA×List Nat)}{sl:List V}{adds:List (Option Blk)}{cons:List (Option Con)}(h:cU P h0 nx0 ((o,deps)::r) sl adds cons Q):
 ∃d,eW P (iF h0 cons) (nx0+adds.length) o sl (·=d)∧(∀c,d.con=some c→iV h0 nx0 deps adds cons c.n c.old)∧cU P h0 nx0 r (bL sl o.dst d.v) (adds++[d.add]) (cons++[d.con]) Q:=by
 unfold cU at h
 obtain⟨d,h1,h2,h3⟩:=xE h
 exact⟨d,h1,h2,h3⟩
theorem dP{tl:List aA}{n:Nat}{Q:cB→St→Prop}{s:St}{sl:List V}{adds:List (Option Blk)}{cons:List (Option Con)}(h:aY P tl (Q .normal) ⟨sl,yI (oD s.h s.nx adds) cons,s.nx+n⟩):aJs P tl n Q s sl adds cons:=h
abbrev DL:=List (aA×List Nat)
def nW(g:Option (Nat×Bool)):DL→DL
 | []=>[]
 |o::r=>if o.1.g=g then o::nW g r else []
def rY(g:Option (Nat×Bool)):DL→DL
 | []=>[]
 |o::r=>if o.1.g=g then rY g r else o::r
def aFv(l:DL):DL:=l.map fun o=>(⟨o.1.dst,none,o.1.op⟩,o.2)
def oY(c:Bool)(sl':List V):DL→List V→List V
 | [],sl=>sl
 |o::r,sl=>oY c sl' r (match o.1.dst with|some d=>sl.set d (V.gd c (sl'.getD d V.undef))|none=>sl)
def lT{α:Type}:DL→List (Option α)
 | []=>[]
 |_::r=>none::lT r
theorem aCJ(c:Bool)(sl':List V):∀(l:DL) (sl:List V),oY c sl' l sl=nG c sl' (l.map (·.1)) sl
 | [],sl=>rfl
 |o::r,sl=>aCJ c sl' r _
theorem yC(g:Option (Nat×Bool)):∀l:DL,nW g l++rY g l=l
 | []=>rfl
 |o::r=>by
  unfold nW rY
  split
  ·rw[List.cons_append,yC g r]
  rfl
theorem aJw(g:Option (Nat×Bool)):∀(l:DL),∀o∈nW g l,o.1.g=g
 | [],o,h=>by cases h
 |o'::r,o,h=>by
  unfold nW at h
  split at h
  ·rename_i e
   rcases List.mem_cons.1 h with rfl|h
   ·exact e
   exact aJw g r o h
  cases h
theorem aEq{sl:List V}{o:aA}{v:V}{s0:List V}{ds:List Nat}(hb:nJ ds s0 sl):nJ (ds++[o].filterMap (·.dst)) s0 (bL sl o.dst v):=by
 obtain⟨h1,h2⟩:=hb
 cases hd:o.dst with
 |none=>simp only[bL,List.filterMap_cons,hd,List.filterMap_nil,List.append_nil];exact⟨h1,h2⟩
 |some d=>
  refine⟨by simp[bL,h1],fun t ht=>?_⟩
  simp[hd] at ht
  rw[h2 t ht.1]
  simp only[bL,List.getD_eq_getElem?_getD]
  rw[List.getElem?_set_ne (fun e=>ht.2 e.symm)]
theorem wM{sl:List V}{dst:Option Nat}{v u:V}{t:Nat}(hd:dst≠some t)(h:sl.getD t V.undef=u):(bL sl dst v).getD t V.undef=u:=by
 cases dst with
 |none=>exact h
 |some d=>
  have:d≠t:=fun e=>hd (by rw[e])
  simp only[bL,List.getD_eq_getElem?_getD] at h⊢
  rw[List.getElem?_set_ne this];exact h
theorem vM{Q:List V→List (Option Blk)→List (Option Con)→Prop}{t:Nat}{want:Bool}{dst:Option Nat}{op:LOp}{deps:List Nat}{r:DL}{sl:List V}{adds:List (Option Blk)}{cons:List (Option Con)}(c0 b:Bool)(hb:sl.getD t V.undef=V.gd c0 (.bool b))
 (hd:((nW (some (t,want)) ((⟨dst,some (t,want),op⟩,deps)::r)).all fun o=>decide (o.1.dst≠some t))=true) (sl':List V)
 (h1:c0=true→b=want→cU P h0 nx0 (aFv (nW (some (t,want)) ((⟨dst,some (t,want),op⟩,deps)::r))) sl adds cons (fun sl1 a1 c1=>sl1=sl'∧a1=adds++lT (nW (some (t,want)) ((⟨dst,some (t,want),op⟩,deps)::r))∧c1=cons++lT (nW (some (t,want)) ((⟨dst,some (t,want),op⟩,deps)::r))))
 (h2:cU P h0 nx0 (rY (some (t,want)) ((⟨dst,some (t,want),op⟩,deps)::r)) (oY (c0&&(b==want)) sl' (nW (some (t,want)) ((⟨dst,some (t,want),op⟩,deps)::r)) sl) (adds++lT (nW (some (t,want)) ((⟨dst,some (t,want),op⟩,deps)::r))) (cons++lT (nW (some (t,want)) ((⟨dst,some (t,want),op⟩,deps)::r))) Q):
 cU P h0 nx0 ((⟨dst,some (t,want),op⟩,deps)::r) sl adds cons Q:=by
 generalize ((⟨dst,some (t,want),op⟩,deps)::r)=l at*
 rw[←yC (some (t,want)) l]
 have hd':∀o∈nW (some (t,want)) l,o.1.dst≠some t:=fun o ho=>by simpa using List.all_eq_true.1 hd o ho
 have hg':=aJw (some (t,want)) l
 by_cases hc:c0=true∧b=want
 ·obtain⟨rfl,rfl⟩:=hc
  have h1':=h1 rfl rfl
  rw[show(true&&(b==b))=true by simp] at h2
  have hb':sl.getD t V.undef= .bool b:=hb
  have key:∀(a:DL) (s0 s:List V) (ds:List Nat) (ad:List (Option Blk)) (co:List (Option Con)),(∀o∈a,o.1.g=some (t,b))→(∀o∈a,o.1.dst≠some t)→s.getD t V.undef= .bool b→nJ ds s0 s→
   cU P h0 nx0 (aFv a) s ad co (fun sl1 a1 c1=>sl1=sl'∧a1=adds++lT (nW (some (t,b)) l)∧c1=cons++lT (nW (some (t,b)) l))→
   (nJ (ds++(a.map (·.1)).filterMap (·.dst)) s0 sl'→cU P h0 nx0 (rY (some (t,b)) l) sl' (adds++lT (nW (some (t,b)) l)) (cons++lT (nW (some (t,b)) l)) Q)→cU P h0 nx0 (a++rY (some (t,b)) l) s ad co Q:=by
   intro a
   induction a with
   |nil=>
    rintro s0 s ds ad co _ _ _ hbs ⟨rfl,rfl,rfl⟩ hq
    exact hq (by simpa using hbs)
   |cons o a ih=>
    intro s0 s ds ad co hg hdd hbt hbs hdops hq
    obtain⟨o,dp⟩:=o
    have hdops:cU P h0 nx0 ((⟨o.dst,none,o.op⟩,dp)::aFv a) s ad co _:=hdops
    obtain⟨d,e1,e2,e3⟩:=aFr hdops
    rw[List.cons_append]
    refine aCH d ?_ e2 ?_
    ·have hgo:o.g=some (t,b):=hg (o,dp) (by simp)
     unfold eW at e1⊢
     rw[hgo]
     simp only[hbt,if_true]
     exact e1
    refine ih s0 _ (ds++[o].filterMap (·.dst)) _ _ (fun x hx=>hg x (by simp[hx])) (fun x hx=>hdd x (by simp[hx])) (wM (hdd (o,dp) (by simp)) hbt) (aEq hbs) e3 (fun hb2=>hq ?_)
    have e:(ds++[o].filterMap (·.dst))++(a.map (·.1)).filterMap (·.dst)=ds++(((o,dp)::a).map (·.1)).filterMap (·.dst):=by
     cases hdo:o.dst<;>simp[hdo]
    rw[e] at hb2
    exact hb2
  refine key _ sl sl [] adds cons hg' hd' hb' ⟨rfl,fun _ _=>rfl⟩ h1' (fun hbs=>?_)
  have e:oY true sl' (nW (some (t,b)) l) sl=sl':=by
   rw[aCJ]
   exact mU _ _ hbs.1 fun t' ht'=>hbs.2 t' (by simpa using ht')
  rwa [e] at h2
 have hcf:(c0&&(b==want))=false:=by
  cases c0 with
  |false=>rfl
  |true=>simpa using fun e=>hc ⟨rfl,e⟩
 rw[hcf] at h2
 have hskip:sl.getD t V.undef= .tup []∨(sl.getD t V.undef= .bool b∧b≠want):=by
  cases c0 with
  |false=>exact .inl hb
  |true=>exact .inr ⟨hb,fun e=>hc ⟨rfl,e⟩⟩
 have key:∀(a:DL) (s:List V) (ad:List (Option Blk)) (co:List (Option Con)),(∀o∈a,o.1.g=some (t,want))→(∀o∈a,o.1.dst≠some t)→(s.getD t V.undef= .tup []∨(s.getD t V.undef= .bool b∧b≠want))→
  cU P h0 nx0 (rY (some (t,want)) l) (oY false sl' a s) (ad++lT a) (co++lT a) Q→cU P h0 nx0 (a++rY (some (t,want)) l) s ad co Q:=by
  intro a
  induction a with
  |nil=>intro s ad co _ _ _ h;simpa [lT,oY] using h
  |cons o a ih=>
   intro s ad co hg hdd hs h
   obtain⟨o,dp⟩:=o
   rw[List.cons_append]
   refine aCH ⟨V.undef,none,none⟩ ?_ (fun n hn=>by cases hn) ?_
   ·have hgo:o.g=some (t,want):=hg (o,dp) (by simp)
    unfold eW
    rw[hgo]
    rcases hs with hs|⟨hs,hne⟩
    ·simp only[hs]
    simp only[hs,if_neg hne]
   refine ih _ _ _ (fun x hx=>hg x (by simp[hx])) (fun x hx=>hdd x (by simp[hx])) ?_ ?_
   ·have hdo:=hdd (o,dp) (by simp)
    exact hs.imp (fun hs=>wM hdo hs) (fun hs=>⟨wM hdo hs.1,hs.2⟩)
   simp only[lT] at h
   unfold oY at h
   cases hdo:o.dst with
   |none=>simp only[hdo] at h;simpa [bL,hdo] using h
   |some d=>simp only[hdo,V.gd_false] at h;simpa [bL,hdo] using h
 exact key _ sl adds cons hg' hd' hskip h2
end
theorem aLw{a j k:Nat}:a+(j+1)+(k+1)=a+(j+k+2):=by omega
theorem tQ{sl:List V}{t:Nat}{v:V}(h:sl.getD t V.undef=v):sl.set t v=sl:=by
 rcases Nat.lt_or_ge t sl.length with ht|ht
 ·rw[List.getD_eq_getElem?_getD,List.getElem?_eq_getElem ht] at h
  simp only[Option.getD_some] at h
  rw[←h]
  exact List.set_getElem_self ht
 exact List.set_eq_of_length_le ht
section
variable{P:Program}{r:List aA}{Qs:St→Prop}{s:St}{dst:Option Nat}
theorem aAo{t:Nat}{want b:Bool}{op:LOp}(hb:s.sl.getD t V.undef= .bool b)
 (h1:b=want→aY P (⟨dst,none,op⟩::r) Qs ⟨s.sl.set t (.bool want),s.h,s.nx⟩) (h2:b= !want→aY P r Qs ⟨bL (s.sl.set t (.bool !want)) dst V.undef,s.h,s.nx⟩):
 aY P (⟨dst,some (t,want),op⟩::r) Qs s:=by
 refine sS hb (fun e=>?_) (fun e=>?_)
 ·have:=h1 e
  rw[←e,tQ hb] at this
  exact this
 have e':b= !want:=by cases b<;>cases want<;>simp at e⊢
 have:=h2 e'
 rw[←e',tQ hb] at this
 exact this
end
section
variable{P:Program}{h0:Hp}{nx0:Nat}{Q:List V→List (Option Blk)→List (Option Con)→Prop}{sl:List V}{adds:List (Option Blk)}{cons:List (Option Con)}{r:List (aA×List Nat)}{dst:Option Nat}{deps:List Nat}
theorem aAM{t:Nat}{want b:Bool}{op:LOp}(hb:sl.getD t V.undef= .bool b)(h1:b=want→cU P h0 nx0 ((⟨dst,none,op⟩,deps)::r) (sl.set t (.bool want)) adds cons Q)
 (h2:b= !want→cU P h0 nx0 r (bL (sl.set t (.bool !want)) dst V.undef) (adds++[none]) (cons++[none]) Q):cU P h0 nx0 ((⟨dst,some (t,want),op⟩,deps)::r) sl adds cons Q:=by
 refine aAN hb (fun e=>?_) (fun e=>?_)
 ·have:=h1 e
  rw[←e,tQ hb] at this
  exact this
 have e':b= !want:=by cases b<;>cases want<;>simp at e⊢
 have:=h2 e'
 rw[←e',tQ hb] at this
 exact this
end
section
variable{P:Program}{h0:Hp}{nx0:Nat}{Q:List V→List (Option Blk)→List (Option Con)→Prop}{sl:List V}{adds:List (Option Blk)}{cons:List (Option Con)}{r:List (aA×List Nat)}{dst:Option Nat}{deps:List Nat}{t:Nat}{op:LOp}
end
theorem mD{P:Program}{h0:Hp}{nx0:Nat}{Q:List V→List (Option Blk)→List (Option Con)→Prop}{sl:List V}{adds:List (Option Blk)}{cons:List (Option Con)}{r:List (aA×List Nat)}{dst:Option Nat}{deps:List Nat}{t:Sh}{x v:aN}{j i o:Nat}{k:Sh}{es:List V}
 (hx:x.ev sl= .ptr (nx0+j) k i o) (ha:adds.getD j none=some (.arr k es)) (hd:j∈deps) (hu:cJ (nx0+j) cons) (hi:i<es.length) (hp:dI k t o) (hf:(v.ev sl).fits t=true)
 (h:cU P h0 nx0 r (bL sl dst V.undef) (adds++[none]) (cons++[some ⟨nx0+j, .arr k es,some (.arr k (es.set i (bO t o (es.getD i V.undef) (v.ev sl))))⟩]) Q):cU P h0 nx0 ((⟨dst,none, .store t x v⟩,deps)::r) sl adds cons Q:=
 oW hx (by rw[rN];exact⟨hu,hd,ha⟩) hi hp hf h
def sC(b:Bool)(A B:Prop):Prop:=(b=true→A)∧(b=false→B)
theorem aKs{A B:Prop}(h:A):sC true A B:=⟨(fun _=>h),(fun h=>by cases h)⟩
theorem aKt{A B:Prop}(h:B):sC false A B:=⟨(fun h=>by cases h),(fun _=>h)⟩
theorem gR{b:Bool}{A B:Prop}(h1:b=true→A)(h2:b=false→B):sC b A B:=⟨h1,h2⟩
theorem fG{P:Program}{c:aN}{a b:bB}{Q:cB→St→Prop}{s:St}(h:lwp P (.cond c a b) Q s):lwp P (.cond c a b) Q s:=h
theorem fS{P:Program}{n:Nat}{hd:List (aA×List Nat)}{tl:List aA}{Q:cB→St→Prop}{s:St}(h:lwp P (.draw n hd tl) Q s):lwp P (.draw n hd tl) Q s:=h
theorem fE{P:Program}{o:aA}{r:List aA}{Q:St→Prop}{s:St}(h:aY P (o::r) Q s):aY P (o::r) Q s:=h
theorem fF{P:Program}{h0:Hp}{nx0:Nat}{Q:List V→List (Option Blk)→List (Option Con)→Prop}{sl:List V}{adds:List (Option Blk)}{cons:List (Option Con)}{l:List (aA×List Nat)}(h:cU P h0 nx0 l sl adds cons Q):cU P h0 nx0 l sl adds cons Q:=h
theorem dG{P:Program}{c:aN}{a b:bB}{Q:cB→St→Prop}{s:St}{t:Bool}(hc:c.ev s.sl= .bool t)(h:sC t (lwp P a Q s) (lwp P b Q s)):lwp P (.cond c a b) Q s:=bU t hc h.1 h.2
theorem cM{P:Program}{r:List aA}{Qs:St→Prop}{s:St}{dst:Option Nat}{t:Nat}{b:Bool}{op:LOp}(hb:s.sl.getD t V.undef= .bool b)
 (h:sC b (aY P (⟨dst,none,op⟩::r) Qs ⟨s.sl.set t (.bool true),s.h,s.nx⟩) (aY P r Qs ⟨bL (s.sl.set t (.bool false)) dst V.undef,s.h,s.nx⟩)):aY P (⟨dst,some (t,true),op⟩::r) Qs s:=
 aAo hb h.1 h.2
theorem cN{P:Program}{r:List aA}{Qs:St→Prop}{s:St}{dst:Option Nat}{t:Nat}{b:Bool}{op:LOp}(hb:s.sl.getD t V.undef= .bool b)
 (h:sC b (aY P r Qs ⟨bL (s.sl.set t (.bool true)) dst V.undef,s.h,s.nx⟩) (aY P (⟨dst,none,op⟩::r) Qs ⟨s.sl.set t (.bool false),s.h,s.nx⟩)):aY P (⟨dst,some (t,false),op⟩::r) Qs s:=
 aAo hb h.2 h.1
section
variable{P:Program}{h0:Hp}{nx0:Nat}{Q:List V→List (Option Blk)→List (Option Con)→Prop}{sl:List V}{adds:List (Option Blk)}{cons:List (Option Con)}{r:List (aA×List Nat)}{dst:Option Nat}{deps:List Nat}{t:Nat}{op:LOp}
theorem cO{b:Bool}(hb:sl.getD t V.undef= .bool b)(h:sC b (cU P h0 nx0 ((⟨dst,none,op⟩,deps)::r) (sl.set t (.bool true)) adds cons Q) (cU P h0 nx0 r (bL (sl.set t (.bool false)) dst V.undef) (adds++[none]) (cons++[none]) Q)):
 cU P h0 nx0 ((⟨dst,some (t,true),op⟩,deps)::r) sl adds cons Q:=aAM hb h.1 h.2
theorem cP{b:Bool}(hb:sl.getD t V.undef= .bool b)(h:sC b (cU P h0 nx0 r (bL (sl.set t (.bool true)) dst V.undef) (adds++[none]) (cons++[none]) Q) (cU P h0 nx0 ((⟨dst,none,op⟩,deps)::r) (sl.set t (.bool false)) adds cons Q)):
 cU P h0 nx0 ((⟨dst,some (t,false),op⟩,deps)::r) sl adds cons Q:=aAM hb h.2 h.1
end
theorem cA{t u:Nat}{k:Sh}{R:V→Hp→Nat→Prop}{s:St}(ho:(bK.load k (.slot t)).ok s.sl s.h)(h':Hp)(hle:h'.le s.h)(hR:R (.tup [(bK.load k (.slot t)).out s.sl s.h,s.sl.getD u V.undef]) h' s.nx):pX [.cell t k, .slot u] R .ret s:=by
 have:=bK.sem_of_ok (R:=fun v=>∃h',h'.le s.h∧R (lP [v,s.sl.getD u V.undef]) h' s.nx) ho ⟨h',hle,by generalize (bK.load k (.slot t)).out s.sl s.h=x at hR;exact hR⟩
 exact this
theorem aEm{R:V→Hp→Nat→Prop}{s:St}(h':Hp)(hle:h'.le s.h)(hR:R (.tup []) h' s.nx):pX [] R .ret s:=⟨h',hle,hR⟩
def Acc(h:Hp)(n0:Nat)(o:Own)(es:List V):Prop:=(es=[]∧o= .nil)∨(es≠ []∧∃id,n0≤id∧o= .tok id∧h id=some .tip)
def kK(h:Hp)(n0:Nat)(o:Own):Prop:=∃id,n0≤id∧o= .tok id∧h id=some .tip
def Hp.delO(h:Hp):Own→Hp
 | .tok n=>h.del n
 |_=>h
theorem aJv(h:Hp):h.delO .nil=h:=rfl
theorem aJu(h:Hp)(n:Nat):h.delO (.tok n)=h.del n:=rfl
def Hp.same(n0:Nat)(h h':Hp):Prop:=∀m,m<n0→h' m=h m
theorem Hp.same.rfl'{n0:Nat}{h:Hp}:Hp.same n0 h h:=fun _ _=>rfl
theorem aS{n0 n:Nat}{h h':Hp}(s:Hp.same n0 h h')(hn:n0≤n)(b:Blk):Hp.same n0 h (h'.set n b):=fun m hm=>by
 unfold Hp.set
 rw[if_neg (by omega)]
 exact s m hm
theorem aT{n0 n:Nat}{h h':Hp}(s:Hp.same n0 h h')(hn:n0≤n):Hp.same n0 h (h'.del n):=fun m hm=>by
 unfold Hp.del
 rw[if_neg (by omega)]
 exact s m hm
theorem eN{n0:Nat}{h h':Hp}{o:Own}(s:Hp.same n0 h h')(ho:∀id,o= .tok id→n0≤id):Hp.same n0 h (h'.delO o):=by
 cases o with
 |tok id=>exact aT s (ho id rfl)
 |_=>exact s
theorem Acc.ge{h:Hp}{n0:Nat}{o:Own}{es:List V}(a:Acc h n0 o es)(id:Nat)(e:o= .tok id):n0≤id:=by
 rcases a with⟨_,rfl⟩|⟨_,id',hge,rfl,_⟩
 ·cases e
 injection e with e;omega
theorem Hp.same.le{n0:Nat}{h h':Hp}(s:Hp.same n0 h h'){h0:Hp}(hd:aH h0 n0)(hle:h0.le h):h0.le h':=fun m b e=>by rw[s m (hd m b e)];exact hle m b e
theorem aH.delO{h:Hp}{nx:Nat}(hd:aH h nx)(o:Own):aH (h.delO o) nx:=by
 cases o<;>first|exact hd|exact hd.del
theorem aHe{h:Hp}{o:Own}{m:Nat}(hn:∀id,o= .tok id→m≠id):h.delO o m=h m:=by
 cases o with
 |tok id=>show(h.del id) m=h m;unfold Hp.del;rw[if_neg (hn id rfl)]
 |_=>rfl
theorem Acc.set{h:Hp}{n0 n:Nat}{o:Own}{es:List V}(a:Acc h n0 o es)(hn:h n≠some .tip)(b:Blk):Acc (h.set n b) n0 o es:=by
 rcases a with⟨e,eo⟩|⟨e,id,hge,eo,ht⟩
 ·exact .inl ⟨e,eo⟩
 refine .inr ⟨e,id,hge,eo,?_⟩
 unfold Hp.set
 rw[if_neg (fun e2=>hn (by rw[←e2];exact ht))]
 exact ht
theorem Acc.del{h:Hp}{n0 n:Nat}{o:Own}{es:List V}(a:Acc h n0 o es)(hn:o≠ .tok n):Acc (h.del n) n0 o es:=by
 rcases a with⟨e,eo⟩|⟨e,id,hge,eo,ht⟩
 ·exact .inl ⟨e,eo⟩
 refine .inr ⟨e,id,hge,eo,?_⟩
 unfold Hp.del
 rw[if_neg (fun e=>hn (by rw[eo,e]))]
 exact ht
theorem Acc.delO{h:Hp}{n0:Nat}{o o':Own}{es:List V}(a:Acc h n0 o es)(hn:∀id,o'= .tok id→o≠ .tok id):Acc (h.delO o') n0 o es:=by
 cases o' with
 |tok id=>exact a.del (hn id rfl)
 |_=>exact a
theorem kK.set{h:Hp}{n0 n:Nat}{o:Own}(a:kK h n0 o)(hn:h n≠some .tip)(b:Blk):kK (h.set n b) n0 o:=by
 obtain⟨id,hge,eo,ht⟩:=a
 refine⟨id,hge,eo,?_⟩
 unfold Hp.set
 rw[if_neg (fun e2=>hn (by rw[←e2];exact ht))]
 exact ht
theorem aH.ntip{h:Hp}{nx n:Nat}(hd:aH h nx)(hn:nx≤n):h n≠some .tip:=fun e=>absurd (hd n _ e) (by omega)
theorem fW{h:Hp}{n:Nat}{k:Sh}{es:List V}:h.set n (.arr k es) n≠some .tip:=by unfold Hp.set;rw[if_pos rfl];exact(fun e=>by cases e)
theorem iN{h:Hp}{n:Nat}{k:Sh}{es:List V}(e:h n=some (.arr k es)):h n≠some .tip:=by rw[e];exact(fun e=>by cases e)
theorem fU{h:Hp}{n m:Nat}{b:Blk}(hn:m≠n)(hm:h m≠some .tip):h.set n b m≠some .tip:=by unfold Hp.set;rw[if_neg hn];exact hm
theorem fV{h:Hp}{n m:Nat}(hm:h m≠some .tip):h.del n m≠some .tip:=by unfold Hp.del;split<;>first|exact hm|exact(fun e=>by cases e)
theorem Acc.new{h:Hp}{n0 n:Nat}(es:List V)(hne:es≠ [])(hn:n0≤n):Acc (h.set n .tip) n0 (.tok n) es:= .inr ⟨hne,n,hn,rfl,by unfold Hp.set;rw[if_pos rfl]⟩
theorem kK.new{h:Hp}{n0 n:Nat}(hn:n0≤n):kK (h.set n .tip) n0 (.tok n):=⟨n,hn,rfl,by unfold Hp.set;rw[if_pos rfl]⟩
theorem Acc.nil{h:Hp}{n0:Nat}:Acc h n0 .nil []:= .inl ⟨rfl,rfl⟩
theorem Acc.loose{h:Hp}{n0:Nat}{o:Own}{k:Sh}{es:List V}(a:Acc h n0 o es):(V.sl k o es).loose=(if es.isEmpty=true then .sl k .nil [] else .sl k .free es):=by
 rcases a with⟨rfl,rfl⟩|⟨hne,id,_,rfl,_⟩
 ·rfl
 cases es with
 |nil=>exact absurd rfl hne
 |cons=>rfl
theorem Acc.ok{h:Hp}{n0:Nat}{o:Own}{es:List V}(a:Acc h n0 o es):vV h o:=by
 rcases a with⟨_,rfl⟩|⟨_,id,_,rfl,ht⟩
 ·trivial
 exact ht
section
variable{P:Program}{r:List aA}{Qs:St→Prop}{s:St}{dst:Option Nat}
theorem aHJ{k:Sh}{bs:Nat}{x y:aN}{o:Own}{es ys:List V}(hx:x.ev s.sl= .sl k o es)(ha:vV s.h o)(hy:eD s.h (y.ev s.sl)=some (k,ys))(hne:ys≠ [])(hb:(es.length+ys.length)*bs≤140737488355328)
 (hq:aY P r Qs ⟨bL s.sl dst (.sl k (.tok s.nx) (es++ys)),(s.h.delO o).set s.nx .tip,s.nx+1⟩):aY P (⟨dst,none, .append k bs x y⟩::r) Qs s:=by
 have hys:ys.isEmpty=false:=by cases ys with|nil=>exact absurd rfl hne|cons=>rfl
 unfold aY
 simp only[LOp.run,LOp.sem,hy,hx,true_and]
 refine⟨hb, .inl ⟨ha,?_⟩⟩
 cases o with
 |free=>exact ha.elim
 |nil=>simpa only[fL,gL,hys,Hp.delO,Bool.false_eq_true,if_false] using hq
 |full=>simpa only[fL,gL,hys,Hp.delO,Bool.false_eq_true,if_false] using hq
 |tok id=>exact hq
theorem qF{k:Sh}{bs:Nat}{x y:aN}{o:Own}{es ys:List V}{n0:Nat}(hx:x.ev s.sl= .sl k o es)(ha:Acc s.h n0 o es)(hy:eD s.h (y.ev s.sl)=some (k,ys))(hne:ys≠ [])(hb:(es.length+ys.length)*bs≤140737488355328)
 (hq:aY P r Qs ⟨bL s.sl dst (.sl k (.tok s.nx) (es++ys)),(s.h.delO o).set s.nx .tip,s.nx+1⟩):aY P (⟨dst,none, .append k bs x y⟩::r) Qs s:=
 aHJ hx ha.ok hy hne hb hq
end
def LOp.isApp:LOp→Bool
 | .append .. =>true
 |_=>false
def aA.plain2(o:aA):Bool:=o.plain&& !o.op.isApp
def qJ:List aA→List aA
 | []=>[]
 |o::r=>match o.plain2 with
  |true=>o::qJ r
  |false=>[]
def rL:List aA→List aA
 | []=>[]
 |o::r=>match o.plain2 with
  |true=>rL r
  |false=>o::r
theorem aGZ{P:Program}{Q:St→Prop}:∀(l:List aA) (s:St),pG (qJ l) s→aY P (rL l) Q (iO (qJ l) s)→aY P l Q s
 | [],s,_,h=>h
 |o::r,s,ho,h=>by
  cases hc:o.plain2 with
  |false=>simp only[qJ,rL,hc] at ho h;exact h
  |true=>
   simp only[qJ,rL,hc] at ho h
   have hcall:o.op.isCall=false:=by
    simp only[aA.plain2,Bool.and_eq_true] at hc
    have hc:=hc.1
    unfold aA.plain at hc
    split at hc
    ·simpa using hc
    cases hc
   exact rH hcall ho.1 (aGZ r _ ho.2 h)
theorem dU{P:Program}{Q:St→Prop}{o:aA}{r:List aA}{s:St}(_:o.plain2=true)(ho:pG (qJ (o::r)) s)(h:aY P (rL (o::r)) Q (iO (qJ (o::r)) s)):aY P (o::r) Q s:=aGZ _ s ho h
theorem qE{P:Program}{Q:St→Prop}{o:aA}{r:List aA}{s:St}(hp:o.op.isApp=true)(hg:o.g=none)(ho:o.ok s)(h:aY P r Q (o.next s)):aY P (o::r) Q s:=by
 refine rH ?_ ho h
 cases e:o.op<;>rw[e] at hp<;>first|rfl|cases hp
theorem aLx{a b:Nat}(h:a<b):(a=b)=False:=xQ (by omega)
theorem aLl{a b k:Nat}(h:a<b):(a=b+k)=False:=xQ (by omega)
theorem aLm{a b:Nat}(h:a<b):(b=a)=False:=xQ (by omega)
theorem aKQ{a b k:Nat}(h:a<b):(b+k=a)=False:=xQ (by omega)
class Stp(A:Prop)(B:outParam Prop):Prop where
 go:B→A
theorem stp{A B:Prop} [i:Stp A B](h:B):A:=i.go h
variable{P:Program}{Q:cB→St→Prop}{s:St}
instance aLR{a b:bB}:Stp (lwp P (.seq a b) Q s) (lwp P a (yL (lwp P b) Q) s):=⟨bC⟩
instance aLQ{l:List aA}:Stp (lwp P (.ops l) Q s) (aY P l (Q .normal) s):=⟨bD⟩
instance aLP{b:(cB→St→Prop)→St→Prop}:Stp (yL b Q .normal s) (b Q s):=⟨aJ⟩
instance aLO{R:St→Prop}:Stp (aY P [] R s) (R s):=⟨dS⟩
instance aLN{id:Nat}:Stp (fA id Q .normal s) (Q .normal s):=⟨bN⟩
instance aLM{id:Nat}{c:bB}:Stp (lwp P (.block id c) Q s) (lwp P c (fA id Q) s):=⟨cR⟩
instance aLL:Stp (lwp P .skip Q s) (Q .normal s):=⟨dN⟩
instance aLK:Stp (lwp P .ret Q s) (Q .ret s):=⟨bJ⟩
instance aLJ{b:(cB→St→Prop)→St→Prop}:Stp (yL b Q .ret s) (Q .ret s):=⟨fT⟩
instance aLI{id:Nat}:Stp (fA id Q .ret s) (Q .ret s):=⟨dT⟩
instance aLH{ι:Type}{sl:ι→List V}{C:ι→Hp→Nat→Prop}{m:ι→Nat}{n:Nat}:Stp (bG sl C m n Q .ret s) (Q .ret s):=⟨eF⟩
instance aLG{id:Nat}:Stp (lwp P (.exit id) Q s) (Q (.exit id) s):=⟨eT⟩
instance aLF{b:(cB→St→Prop)→St→Prop}{id:Nat}:Stp (yL b Q (.exit id) s) (Q (.exit id) s):=⟨dK⟩
instance aLE{ι:Type}{sl:ι→List V}{C:ι→Hp→Nat→Prop}{m:ι→Nat}{n id:Nat}:Stp (bG sl C m n Q (.exit id) s) (Q (.exit id) s):=⟨cT⟩
instance aLD{id:Nat}:Stp (fA id Q (.exit id) s) (Q .normal s):=⟨cF⟩
instance aLC{A B:Prop}:Stp (sC true A B) A:=⟨aKs⟩
instance aLB{A B:Prop}:Stp (sC false A B) B:=⟨aKt⟩
theorem ee2{p0 p1:Prop}(x0:p0)(x1:p1):p0∧p1:=⟨x0,x1⟩
theorem ee3{p0 p1 p2:Prop}(x0:p0)(x1:p1)(x2:p2):p0∧p1∧p2:=⟨x0,x1,x2⟩
theorem ee4{p0 p1 p2 p3:Prop}(x0:p0)(x1:p1)(x2:p2)(x3:p3):p0∧p1∧p2∧p3:=⟨x0,x1,x2,x3⟩
theorem ee5{p0 p1 p2 p3 p4:Prop}(x0:p0)(x1:p1)(x2:p2)(x3:p3)(x4:p4):p0∧p1∧p2∧p3∧p4:=⟨x0,x1,x2,x3,x4⟩
theorem ee6{p0 p1 p2 p3 p4 p5:Prop}(x0:p0)(x1:p1)(x2:p2)(x3:p3)(x4:p4)(x5:p5):p0∧p1∧p2∧p3∧p4∧p5:=⟨x0,x1,x2,x3,x4,x5⟩
theorem ee7{p0 p1 p2 p3 p4 p5 p6:Prop}(x0:p0)(x1:p1)(x2:p2)(x3:p3)(x4:p4)(x5:p5)(x6:p6):p0∧p1∧p2∧p3∧p4∧p5∧p6:=⟨x0,x1,x2,x3,x4,x5,x6⟩
theorem ee8{p0 p1 p2 p3 p4 p5 p6 p7:Prop}(x0:p0)(x1:p1)(x2:p2)(x3:p3)(x4:p4)(x5:p5)(x6:p6)(x7:p7):p0∧p1∧p2∧p3∧p4∧p5∧p6∧p7:=⟨x0,x1,x2,x3,x4,x5,x6,x7⟩
theorem ee9{p0 p1 p2 p3 p4 p5 p6 p7 p8:Prop}(x0:p0)(x1:p1)(x2:p2)(x3:p3)(x4:p4)(x5:p5)(x6:p6)(x7:p7)(x8:p8):p0∧p1∧p2∧p3∧p4∧p5∧p6∧p7∧p8:=⟨x0,x1,x2,x3,x4,x5,x6,x7,x8⟩
theorem aJq{p0 p1 p2 p3 p4 p5 p6 p7 p8 p9:Prop}(x0:p0)(x1:p1)(x2:p2)(x3:p3)(x4:p4)(x5:p5)(x6:p6)(x7:p7)(x8:p8)(x9:p9):p0∧p1∧p2∧p3∧p4∧p5∧p6∧p7∧p8∧p9:=⟨x0,x1,x2,x3,x4,x5,x6,x7,x8,x9⟩
theorem aDt{p0 p1 p2 p3 p4 p5 p6 p7 p8 p9 p10:Prop}(x0:p0)(x1:p1)(x2:p2)(x3:p3)(x4:p4)(x5:p5)(x6:p6)(x7:p7)(x8:p8)(x9:p9)(x10:p10):p0∧p1∧p2∧p3∧p4∧p5∧p6∧p7∧p8∧p9∧p10:=⟨x0,x1,x2,x3,x4,x5,x6,x7,x8,x9,x10⟩
theorem aLs{p0 p1 p2 p3 p4 p5 p6 p7 p8 p9 p10 p11:Prop}(x0:p0)(x1:p1)(x2:p2)(x3:p3)(x4:p4)(x5:p5)(x6:p6)(x7:p7)(x8:p8)(x9:p9)(x10:p10)(x11:p11):p0∧p1∧p2∧p3∧p4∧p5∧p6∧p7∧p8∧p9∧p10∧p11:=⟨x0,x1,x2,x3,x4,x5,x6,x7,x8,x9,x10,x11⟩
theorem aKo{p0 p1 p2 p3 p4 p5 p6 p7 p8 p9 p10 p11 p12:Prop}(x0:p0)(x1:p1)(x2:p2)(x3:p3)(x4:p4)(x5:p5)(x6:p6)(x7:p7)(x8:p8)(x9:p9)(x10:p10)(x11:p11)(x12:p12):p0∧p1∧p2∧p3∧p4∧p5∧p6∧p7∧p8∧p9∧p10∧p11∧p12:=⟨x0,x1,x2,x3,x4,x5,x6,x7,x8,x9,x10,x11,x12⟩
theorem aLr{p0 p1 p2 p3 p4 p5 p6 p7 p8 p9 p10 p11 p12 p13:Prop}(x0:p0)(x1:p1)(x2:p2)(x3:p3)(x4:p4)(x5:p5)(x6:p6)(x7:p7)(x8:p8)(x9:p9)(x10:p10)(x11:p11)(x12:p12)(x13:p13):p0∧p1∧p2∧p3∧p4∧p5∧p6∧p7∧p8∧p9∧p10∧p11∧p12∧p13:=⟨x0,x1,x2,x3,x4,x5,x6,x7,x8,x9,x10,x11,x12,x13⟩
theorem aLz{p0 p1 p2 p3 p4 p5 p6 p7 p8 p9 p10 p11 p12 p13 p14:Prop}(x0:p0)(x1:p1)(x2:p2)(x3:p3)(x4:p4)(x5:p5)(x6:p6)(x7:p7)(x8:p8)(x9:p9)(x10:p10)(x11:p11)(x12:p12)(x13:p13)(x14:p14):p0∧p1∧p2∧p3∧p4∧p5∧p6∧p7∧p8∧p9∧p10∧p11∧p12∧p13∧p14:=⟨x0,x1,x2,x3,x4,x5,x6,x7,x8,x9,x10,x11,x12,x13,x14⟩
theorem aKn{p0 p1 p2 p3 p4 p5 p6 p7 p8 p9 p10 p11 p12 p13 p14 p15:Prop}(x0:p0)(x1:p1)(x2:p2)(x3:p3)(x4:p4)(x5:p5)(x6:p6)(x7:p7)(x8:p8)(x9:p9)(x10:p10)(x11:p11)(x12:p12)(x13:p13)(x14:p14)(x15:p15):p0∧p1∧p2∧p3∧p4∧p5∧p6∧p7∧p8∧p9∧p10∧p11∧p12∧p13∧p14∧p15:=⟨x0,x1,x2,x3,x4,x5,x6,x7,x8,x9,x10,x11,x12,x13,x14,x15⟩
theorem aKW{p0 p1 p2 p3 p4 p5 p6 p7 p8 p9 p10 p11 p12 p13 p14 p15 p16:Prop}(x0:p0)(x1:p1)(x2:p2)(x3:p3)(x4:p4)(x5:p5)(x6:p6)(x7:p7)(x8:p8)(x9:p9)(x10:p10)(x11:p11)(x12:p12)(x13:p13)(x14:p14)(x15:p15)(x16:p16):p0∧p1∧p2∧p3∧p4∧p5∧p6∧p7∧p8∧p9∧p10∧p11∧p12∧p13∧p14∧p15∧p16:=⟨x0,x1,x2,x3,x4,x5,x6,x7,x8,x9,x10,x11,x12,x13,x14,x15,x16⟩
theorem aLq{p0 p1 p2 p3 p4 p5 p6 p7 p8 p9 p10 p11 p12 p13 p14 p15 p16 p17 p18 p19:Prop}(x0:p0)(x1:p1)(x2:p2)(x3:p3)(x4:p4)(x5:p5)(x6:p6)(x7:p7)(x8:p8)(x9:p9)(x10:p10)(x11:p11)(x12:p12)(x13:p13)(x14:p14)(x15:p15)(x16:p16)(x17:p17)(x18:p18)(x19:p19):p0∧p1∧p2∧p3∧p4∧p5∧p6∧p7∧p8∧p9∧p10∧p11∧p12∧p13∧p14∧p15∧p16∧p17∧p18∧p19:=⟨x0,x1,x2,x3,x4,x5,x6,x7,x8,x9,x10,x11,x12,x13,x14,x15,x16,x17,x18,x19⟩
theorem wl{G B:Prop}(k:B)(h:PLift B→G:=by
 intro k
 (repeat (first|with_reducible refine bC ?_|with_reducible refine cR ?_|with_reducible refine dN ?_|with_reducible refine aJ ?_|with_reducible refine bN ?_|with_reducible refine bD ?_|(refine eH rfl (by simp only[go_sem,reduceIte,Nat.reduceAdd,Nat.reduceSub,Nat.reduceLT,Nat.reduceLeDiff,reduceCtorEq,Nat.reduceEqDiff,Int.reduceToNat];try omega) ?_;simp only[go_sem,reduceIte,Nat.reduceAdd,Nat.reduceSub,Nat.reduceLT,Nat.reduceLeDiff,reduceCtorEq,Nat.reduceEqDiff,Int.reduceToNat])|(with_reducible refine dS ?_)))
 exact k.down):G:=h ⟨k⟩
theorem wle{G B p:Prop}(E:p)(k:B)(h:p→PLift B→G:=by
 intro E k
 (repeat (first|with_reducible refine bC ?_|with_reducible refine cR ?_|with_reducible refine dN ?_|with_reducible refine aJ ?_|with_reducible refine bN ?_|with_reducible refine bD ?_|(refine eH rfl (by simp only[E,List.length_map,go_sem,reduceIte,Nat.reduceAdd,Nat.reduceSub,Nat.reduceLT,Nat.reduceLeDiff,reduceCtorEq,Nat.reduceEqDiff,Int.reduceToNat];try omega) ?_;simp only[E,List.length_map,go_sem,reduceIte,Nat.reduceAdd,Nat.reduceSub,Nat.reduceLT,Nat.reduceLeDiff,reduceCtorEq,Nat.reduceEqDiff,Int.reduceToNat])|(with_reducible refine dS ?_)))
 exact k.down):G:=h E ⟨k⟩
attribute [go_sem] Option.some.injEq Prod.mk.injEq false_and and_false Bool.true_eq_false nW rY aFv oY lT if_true Bool.true_and aBD mF aAH pG iO aA.ok aA.next LOp.ok LOp.next bK.ok bK.out aN.ev bL aCN lJ kF rB V.undef Sh.size oD qO eX aA.dok aA.dres LOp.dok LOp.dout aDw aAX gW hZ List.take_succ_cons List.take_zero List.take_nil List.drop_succ_cons List.drop_zero List.drop_nil List.set_cons_succ List.set_cons_zero List.getD_cons_succ List.getD_cons_zero List.length_cons List.length_nil List.map_cons List.map_nil List.all_cons List.all_nil List.mem_cons List.not_mem_nil List.replicate_succ List.replicate_zero List.cons_append List.nil_append List.append_nil List.isEmpty_cons List.isEmpty_nil fL gL vV Option.getD_some Option.isSome_some Option.isSome_none Nat.add_eq Nat.zero_add Nat.add_zero true_and and_true and_self true_implies implies_true false_implies forall_const forall_eq forall_eq_or_imp ne_eq not_false_eq_true not_true_eq_false Bool.not_true Bool.not_false decide_true decide_false Bool.and_true Bool.true_and Bool.and_false Bool.false_and true_or or_true false_or or_false eq_self Bool.false_eq_true aKd aGV lP aB dX eS gK qQ nX qP iG jU eD Int.toNat_natCast Int.toNat_zero List.take_length Hp.set_app Hp.del_app vG sV aA.plain LOp.isCall aA.dplain LOp.isStop aEN yR vJ aIo nG V.gd_true V.gd_false aGR aEt aEu aGQ iU iE cS nI oX beq_true beq_false aCg aCh aCi aAq aAr tM tN nV aFm aAu rI aCv vC aCw aCx aEQ aER vD wW rU aAt aES xT aCu xU qG aIB aIz aIA aIy aCM sZ vT oB aDP aDO aDN aDM aDL zK zJ aBQ aBP aBO zN zM zL aDS aDR aDQ aBT aBS aBR rN aAY cJ yI Hp.turn iF Option.isNone_some Option.isNone_none aLw qJ rL aA.plain2 LOp.isApp aLx aLl aLm aKQ aJv aJu
theorem dmo{h H:Hp}{nx n:Nat}(q:aH h nx)(k:aH h nx→aH H n:=by
 intro q;(try dsimp only);repeat (first|exact aH.up q (by omega)|refine aH.set2 ?_ (by omega) _|refine aH.del ?_|refine aH.delO ?_ _)):aH H n:=k q
theorem kep{h h1 H:Hp}{m n:Nat}(q:Hp.same m h h1)(k:Hp.same m h h1→Hp.same n h H:=by
 intro q;(try dsimp only);repeat (first|exact q|refine aS ?_ (by omega) _|refine aT ?_ (by omega))):Hp.same n h H:=k q
theorem aLy{h h1 H:Hp}{m n n0:Nat}{o:Own}{es:List V}(q:Hp.same m h h1)(a:Acc h1 n0 o es)(k:Hp.same m h h1→Acc h1 n0 o es→Hp.same n h H:=by
 intro q a;(try dsimp only);repeat (first|exact q|refine aS ?_ (by omega) _|refine aT ?_ (by omega)|refine eN ?_ (fun id e=>by have:=a.ge id e;omega))):Hp.same n h H:=k q a
theorem acc{h H:Hp}{nx n0:Nat}{o:Own}{es:List V}(a:Acc h n0 o es)(d:aH h nx)(k:Acc h n0 o es→aH h nx→Acc H n0 o es:=by
 intro a d;(try dsimp only);repeat' (first|exact a|exact aH.ntip d (by omega)|exact fW|exact iN (by assumption)|refine fU (by omega) ?_|refine fV ?_|refine Acc.set ?_ ?_ _)):Acc H n0 o es:=k a d
theorem lef{h h1 H:Hp}{nx:Nat}(d:aH h nx)(q:h.le h1)(k:aH h nx→h.le h1→h.le H:=by
 intro d q;(try dsimp only);repeat (first|exact q|refine aK d ?_ (by omega) _|refine aL d ?_ (by omega))):h.le H:=k d q
theorem leo{h H:Hp}{nx:Nat}(d:aH h nx)(k:aH h nx→h.le H:=by
 intro d;(try dsimp only);repeat (first|exact Hp.le_refl _|refine aK d ?_ (by omega) _|refine aL d ?_ (by omega))):h.le H:=k d
theorem fls{p:Prop}(h:¬p:=by omega):p=False:=eq_false h
theorem dct{p:Prop} [Decidable p](h:p:=by omega):decide p=true:=decide_eq_true h
theorem dcf{p:Prop} [Decidable p](h:¬p:=by omega):decide p=false:=decide_eq_false h
theorem bqt{a b:Int}(h:a=b:=by omega):(a==b)=true:=by simpa using h
theorem bnt{a b:Int}(h:a≠b:=by omega):(a != b)=true:=by simpa using h
theorem bnf{a b:Int}(h:a=b:=by omega):(a != b)=false:=by simpa using h
theorem wrp{a b:Int}(h:a=b:=by omega)(h1:-9223372036854775808≤b:=by omega)(h2:b<9223372036854775808:=by omega):IntKind.i64.wrap a=b:=by rw[h];exact aV (by omega) (by omega)
theorem wkl{a b:List V}(E:True)(h:WkL a b:=by simp only[WkL,aB,Int.natCast_add,Int.natCast_one,Int.natCast_zero,go_sem,reduceIte,Nat.reduceAdd,Nat.reduceSub,Nat.reduceLT,Nat.reduceLeDiff,reduceCtorEq,Nat.reduceEqDiff,Int.reduceToNat]):WkL a b:=h
theorem wke{a b:List V}{p:Prop}(E:p)(h:p→WkL a b:=by intro E;simp only[WkL,aB,Int.natCast_add,Int.natCast_one,Int.natCast_zero,E,go_sem,reduceIte,Nat.reduceAdd,Nat.reduceSub,Nat.reduceLT,Nat.reduceLeDiff,reduceCtorEq,Nat.reduceEqDiff,Int.reduceToNat]):WkL a b:=h E
theorem e2{A B:Prop}(a:A)(b:B):A∧B:=⟨a,b⟩
theorem e3{A B C:Prop}(a:A)(b:B)(c:C):A∧B∧C:=⟨a,b,c⟩
theorem e4{A B C D:Prop}(a:A)(b:B)(c:C)(d:D):A∧B∧C∧D:=⟨a,b,c,d⟩
theorem e5{A B C D E:Prop}(a:A)(b:B)(c:C)(d:D)(e:E):A∧B∧C∧D∧E:=⟨a,b,c,d,e⟩
theorem e6{A B C D E F:Prop}(a:A)(b:B)(c:C)(d:D)(e:E)(f:F):A∧B∧C∧D∧E∧F:=⟨a,b,c,d,e,f⟩
theorem e7{A B C D E F G:Prop}(a:A)(b:B)(c:C)(d:D)(e:E)(f:F)(g:G):A∧B∧C∧D∧E∧F∧G:=⟨a,b,c,d,e,f,g⟩
theorem e8{A B C D E F G H:Prop}(a:A)(b:B)(c:C)(d:D)(e:E)(f:F)(g:G)(h:H):A∧B∧C∧D∧E∧F∧G∧H:=⟨a,b,c,d,e,f,g,h⟩
theorem e9{A B C D E F G H I:Prop}(a:A)(b:B)(c:C)(d:D)(e:E)(f:F)(g:G)(h:H)(i:I):A∧B∧C∧D∧E∧F∧G∧H∧I:=⟨a,b,c,d,e,f,g,h,i⟩
theorem e10{A B C D E F G H I J:Prop}(a:A)(b:B)(c:C)(d:D)(e:E)(f:F)(g:G)(h:H)(i:I)(j:J):A∧B∧C∧D∧E∧F∧G∧H∧I∧J:=⟨a,b,c,d,e,f,g,h,i,j⟩
theorem e11{A B C D E F G H I J K:Prop}(a:A)(b:B)(c:C)(d:D)(e:E)(f:F)(g:G)(h:H)(i:I)(j:J)(k:K):A∧B∧C∧D∧E∧F∧G∧H∧I∧J∧K:=⟨a,b,c,d,e,f,g,h,i,j,k⟩
theorem e12{A B C D E F G H I J K L:Prop}(a:A)(b:B)(c:C)(d:D)(e:E)(f:F)(g:G)(h:H)(i:I)(j:J)(k:K)(l:L):A∧B∧C∧D∧E∧F∧G∧H∧I∧J∧K∧L:=⟨a,b,c,d,e,f,g,h,i,j,k,l⟩
theorem e13{A B C D E F G H I J K L M:Prop}(a:A)(b:B)(c:C)(d:D)(e:E)(f:F)(g:G)(h:H)(i:I)(j:J)(k:K)(l:L)(m:M):A∧B∧C∧D∧E∧F∧G∧H∧I∧J∧K∧L∧M:=⟨a,b,c,d,e,f,g,h,i,j,k,l,m⟩
theorem e14{A B C D E F G H I J K L M N:Prop}(a:A)(b:B)(c:C)(d:D)(e:E)(f:F)(g:G)(h:H)(i:I)(j:J)(k:K)(l:L)(m:M)(n:N):A∧B∧C∧D∧E∧F∧G∧H∧I∧J∧K∧L∧M∧N:=⟨a,b,c,d,e,f,g,h,i,j,k,l,m,n⟩
theorem au{G B:Prop}(k:B)(h:PLift B→G:=by
 intro k
 (repeat' (first|(with_reducible first|refine stp ?_|refine aZ (by decide) ?_)|((first|(with_reducible refine fE ?_;first|refine dU rfl ?_ ?_|refine aM (C1 _) rfl (aO _) ?_|refine aM (C2 _) rfl (aO _) ?_|refine aM (C3 _) rfl (aO _) ?_|refine aM (C4 _) rfl (aO _) ?_|refine aM C5 rfl (aO _) ?_|refine aM C6 rfl (aO _) ?_|(first|refine cM rfl ?_|refine cN rfl ?_)|refine bV rfl ?_)|(with_reducible refine fF ?_;first|refine bQ rfl ?_ ?_|refine bF (D1 _) rfl (bH _) ?_|refine bF (D2 _) rfl (bH _) ?_|refine bF (D3 _) rfl (bH _) ?_|refine bF (D4 _) rfl (bH _) ?_|refine bF (D5 _) rfl (bH _) ?_|refine bF (D6 _) rfl (bH _) ?_|(first|refine cO rfl ?_|refine cP rfl ?_)|refine bW rfl ?_|refine bX (cG ?_)|refine bX (dP ?_))|(with_reducible refine fG ?_;refine dG rfl ?_))<;>try simp only[go_sem,reduceIte,Nat.reduceAdd,Nat.reduceSub,Nat.reduceLT,Nat.reduceLeDiff,reduceCtorEq,Nat.reduceEqDiff,Int.reduceToNat])|(with_reducible refine fS ?_;refine dA rfl ?_)|omega))
 exact k.down):G:=h ⟨k⟩
theorem aus{G B:Prop}(k:B)(h:PLift B→G:=by
 intro k
 (repeat' (first|(with_reducible first|refine stp ?_|refine aZ (by decide) ?_)|((first|(with_reducible refine fE ?_;first|refine dU rfl ?_ ?_|refine aM (C1 _) rfl (aO _) ?_|refine aM (C2 _) rfl (aO _) ?_|refine aM (C3 _) rfl (aO _) ?_|refine aM (C4 _) rfl (aO _) ?_|refine aM C5 rfl (aO _) ?_|refine aM C6 rfl (aO _) ?_|(first|refine cM rfl ?_|refine cN rfl ?_)|refine bV rfl ?_)|(with_reducible refine fF ?_;first|refine bQ rfl ?_ ?_|refine bF (D1 _) rfl (bH _) ?_|refine bF (D2 _) rfl (bH _) ?_|refine bF (D3 _) rfl (bH _) ?_|refine bF (D4 _) rfl (bH _) ?_|refine bF (D5 _) rfl (bH _) ?_|refine bF (D6 _) rfl (bH _) ?_|(first|refine cO rfl ?_|refine cP rfl ?_)|refine bW rfl ?_|refine bX (cG ?_)|refine bX (dP ?_))|(with_reducible refine fG ?_;refine dG rfl ?_))<;>try simp only[go_sem,reduceIte,Nat.reduceAdd,Nat.reduceSub,Nat.reduceLT,Nat.reduceLeDiff,reduceCtorEq,Nat.reduceEqDiff,Int.reduceToNat])|omega))
 exact k.down):G:=h ⟨k⟩
theorem aue{G B p:Prop}(E:p)(k:B)(h:p→PLift B→G:=by
 intro E k
 (repeat' (first|(with_reducible first|refine stp ?_|refine aZ (by decide) ?_)|((first|(with_reducible refine fE ?_;first|refine dU rfl ?_ ?_|refine aM (C1 _) rfl (aO _) ?_|refine aM (C2 _) rfl (aO _) ?_|refine aM (C3 _) rfl (aO _) ?_|refine aM (C4 _) rfl (aO _) ?_|refine aM C5 rfl (aO _) ?_|refine aM C6 rfl (aO _) ?_|refine qF rfl (acc hacc hdm) rfl (by simp) (by simp only[E,List.length_map,go_sem,reduceIte,Nat.reduceAdd,Nat.reduceSub,Nat.reduceLT,Nat.reduceLeDiff,reduceCtorEq,Nat.reduceEqDiff,Int.reduceToNat];try omega) ?_|refine qE rfl rfl (by simp only[E,List.length_map,go_sem,reduceIte,Nat.reduceAdd,Nat.reduceSub,Nat.reduceLT,Nat.reduceLeDiff,reduceCtorEq,Nat.reduceEqDiff,Int.reduceToNat];try omega) ?_|(first|refine cM rfl ?_|refine cN rfl ?_)|refine bV rfl ?_)|(with_reducible refine fF ?_;first|refine bQ rfl ?_ ?_|refine bF (D1 _) rfl (bH _) ?_|refine bF (D2 _) rfl (bH _) ?_|refine bF (D3 _) rfl (bH _) ?_|refine bF (D4 _) rfl (bH _) ?_|refine bF (D5 _) rfl (bH _) ?_|refine bF (D6 _) rfl (bH _) ?_|refine mD rfl rfl (by decide) (by(simp only[cJ,go_sem,reduceIte,Nat.reduceAdd,Nat.reduceSub,Nat.reduceLT,Nat.reduceLeDiff,reduceCtorEq,Nat.reduceEqDiff,Int.reduceToNat])<;>try omega) (by simp only[go_sem,reduceIte,Nat.reduceAdd,Nat.reduceSub,Nat.reduceLT,Nat.reduceLeDiff,reduceCtorEq,Nat.reduceEqDiff,Int.reduceToNat]) (by simp only[go_sem,reduceIte,Nat.reduceAdd,Nat.reduceSub,Nat.reduceLT,Nat.reduceLeDiff,reduceCtorEq,Nat.reduceEqDiff,Int.reduceToNat]) (by simp only[E,go_sem,reduceIte,Nat.reduceAdd,Nat.reduceSub,Nat.reduceLT,Nat.reduceLeDiff,reduceCtorEq,Nat.reduceEqDiff,Int.reduceToNat]) ?_|(first|refine cO rfl ?_|refine cP rfl ?_)|refine bW rfl ?_|refine bX (cG ?_)|refine bX (dP ?_))|(with_reducible refine fG ?_;refine dG rfl ?_))<;>try simp only[E,List.length_map,go_sem,reduceIte,Nat.reduceAdd,Nat.reduceSub,Nat.reduceLT,Nat.reduceLeDiff,reduceCtorEq,Nat.reduceEqDiff,Int.reduceToNat])|(with_reducible refine fS ?_;refine dA rfl ?_)|omega))
 exact k.down):G:=h E ⟨k⟩
end Go.Proofs.YtemjhgboialjpaaGreat
