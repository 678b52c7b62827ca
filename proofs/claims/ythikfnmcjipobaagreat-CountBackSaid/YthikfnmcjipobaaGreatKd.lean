/-
Texts of this proof,one behind the other. No conditions.
-/
import Derived.Test.YthikfnmcjipobaaGreatKcb
/-
The abstract layer,twenty-fourth part:an array that the code owns,handed over as a slice that nobody writes. No program in sight. No conditions.
-/
namespace Go.Proofs.YthikfnmcjipobaaGreat
set_option linter.unusedSimpArgs false
set_option linter.unusedVariables false
set_option linter.unusedSectionVars false
open Go.RowKit
theorem aHV{K:Ker}{h:Hp}(hr:Rel K h){n a:Nat}{k:Sh}{es:List V}{cv:Value}(hn:h n=some (.arr k es))(ha:¬K.live a)(hv:VR K (.rs n k 0 es.length) cv):
 ∃K',K'.w=K.w∧K.le K'∧(∀m,K'.live m→K.live m∨m=a)∧VR K' (.sl k (.tok a) es) cv∧Rel K' ((h.del n).set a .tip):=by
 have hb:=hr.blk n _ hn
 cases hb with
 |arr _ _ c T hh hcs himm hfit hcv=>
  cases hv with
  |rs _ _ _ _ cap hl hcap hm=>
   obtain⟨T',m,hm1,hm2⟩:=hm
   have hcm:m=c.size:=by simp[World.shape?,hh] at hm1;exact hm1.2.symm
   subst hcm
   have hblk:K.mu n<K.w.heap.size:=by
    rcases Nat.lt_or_ge (K.mu n) K.w.heap.size with hlt|hge
    ·exact hlt
    rw[Array.getElem?_eq_none hge] at hh;exact absurd hh (by simp)
   have hle:K.le (K.claim a (K.mu n) (es.length*k.size)):=K.le_claim ha (by rw[himm];exact Nat.zero_le _)
   have hmu:(K.claim a (K.mu n) (es.length*k.size)).mu a=K.mu n:=by simp[Ker.claim]
   refine⟨K.claim a (K.mu n) (es.length*k.size),rfl,hle,fun m hm=>hm.symm,?_,hr.claim hn ha (by rw[himm];exact Nat.zero_le _) (.tip c T (by rw[hmu];exact hh) (by simp[Ker.claim]) (by simp only[Ker.claim,if_true];exact hcs))⟩
   have:=VR.sl (K:=K.claim a (K.mu n) (es.length*k.size)) k (.tok a) es (K.mu n) 0 cap (fun j=>c.getD j Go.undef) hblk hfit
    (fun j hj=>by
      show K.w.cell? _=_
      simp only[World.cell?,hh,Nat.zero_add]
      rw[Array.getD_eq_getD_getElem?,Array.getElem?_eq_getElem (by omega)]
      rfl)
    (fun j hj=> .inr (by simp only[Ker.claim,if_true];omega))
    (fun i hi j hj=>(hcv i hi j hj).mono hle) hcap (by simp) (by simp)
    (fun m hm=>by
      injection hm with hm
      subst hm
      refine⟨.inl rfl, .inr ⟨hmu,by simp[Ker.claim],T',c.size,?_,by simpa using hm2⟩⟩
      exact hm1)
   simpa using this
/-
The abstract layer,twenty-fifth part:iterators and ranges over them;guarded runs of operations;closures over boxes that nobody writes;looser arguments. No program in sight. No conditions.
-/
theorem Hp.set_app(h:Hp)(n:Nat)(b:Blk)(m:Nat):(h.set n b) m=if m=n then some b else h m:=rfl
theorem Hp.del_app(h:Hp)(n m:Nat):(h.del n) m=if m=n then Option.none else h m:=rfl
def aT(h:Hp)(nx:Nat):Prop:=∀m b,h m=some b→m<nx
theorem bM.dom{P:Program}{f:FuncId}{args:List V}{h:Hp}{nx:Nat}{R:V→Hp→Nat→Prop}(c:bM P f args h nx R):bM P f args h nx fun v h' nx'=>R v h' nx'∧aT h' nx'∧nx≤nx':=
 ⟨c.1,fun K cargs hl hrel hv=>(c.2 K cargs hl hrel hv).mono fun _ _ ⟨K',v,cv,h',nx',a,b,c,d,e,g,i,j⟩=>⟨K',v,cv,h',nx',a,b,c,d,e,g,i,j,fun m b hm=>(g m (e.lt m b hm)).1,i⟩⟩
theorem jZ.dom{P:Program}{n:Nat}{args:List V}{h:Hp}{nx:Nat}{R:V→Hp→Nat→Prop}(c:jZ P n args h nx R):jZ P n args h nx fun v h' nx'=>R v h' nx'∧aT h' nx'∧nx≤nx':=
 fun m K cargs hl hn hrel hv=>(c m K cargs hl hn hrel hv).mono fun _ _ ⟨K',v,cv,h',nx',a,b,c,d,e,g,i,j⟩=>⟨K',v,cv,h',nx',a,b,c,d,e,g,i,j,fun m b hm=>(g m (e.lt m b hm)).1,i⟩
theorem aT.set{h:Hp}{nx nx' n:Nat}(hd:aT h nx)(hn:n<nx')(hle:nx≤nx')(b:Blk):aT (h.set n b) nx':=fun m c e=>by
 unfold Hp.set at e
 split at e
 ·omega
 have:=hd m c e;omega
theorem aT.del{h:Hp}{nx n:Nat}(hd:aT h nx):aT (h.del n) nx:=fun m c e=>by
 unfold Hp.del at e
 split at e
 ·cases e
 exact hd m c e
theorem aT.up{h:Hp}{nx nx':Nat}(hd:aT h nx)(hle:nx≤nx'):aT h nx':=fun m c e=>by have:=hd m c e;omega
theorem aT.le{h h':Hp}{nx:Nat}(hd:aT h' nx)(hle:h.le h'):aT h nx:=fun m c e=>hd m c (hle m c e)
theorem aBc{h h':Hp}{n:Nat}{b:Blk}(hle:h.le h')(hn:h' n=some b):(h.set n b).le h':=fun m c e=>by
 unfold Hp.set at e
 split at e
 ·rename_i em;subst em;injection e with e;subst e;exact hn
 exact hle m c e
theorem iR{h h':Hp}{n:Nat}(hle:h.le h')(hn:h n=none)(b:Blk):h.le (h'.set n b):=fun m c e=>by
 unfold Hp.set
 split
 ·rename_i em;subst em;rw[hn] at e;cases e
 exact hle m c e
theorem qE{h h':Hp}{n:Nat}(hle:h.le h')(hn:h n=none):h.le (h'.del n):=fun m c e=>by
 unfold Hp.del
 split
 ·rename_i em;subst em;rw[hn] at e;cases e
 exact hle m c e
theorem aT.none{h:Hp}{nx n:Nat}(hd:aT h nx)(hn:nx≤n):h n= .none:=by
 cases e:h n with
 |none=>rfl
 |some b=>exact absurd (hd n b e) (by omega)
theorem aHT{h h':Hp}(hle:h.le h'):Hp.has h h':=fun n b e _=>hle n _ e
theorem Hp.le_trans{a b c:Hp}(h:a.le b)(h':b.le c):a.le c:=fun n x e=>h' n x (h n x e)
def aEx(P:Program)(gf:Nat)(caps:List V)(hb:Hp)(xs:List (List V)):Prop:=
 ∀(yn:Nat) (J:Nat→Hp→Nat→Prop) (D:Hp→Nat→Prop),
  (∀i h nx,J i h nx→hb.has h)→(∀i h nx nx',J i h nx→nx≤nx'→J i h nx')→(∀h nx nx',D h nx→nx≤nx'→D h nx')→
  (∀i (hi:i<xs.length) h nx,J i h nx→aT h nx→jZ P yn xs[i] h nx fun v h' nx'=>(v= .bool true∧J (i+1) h' nx')∨(v= .bool false∧D h' nx'))→
  ∀h nx,J 0 h nx→aT h nx→bM P gf (.yld yn::caps) h nx fun _ h' nx'=>J xs.length h' nx'∨D h' nx'
def aIc(r:Nat)(X:Blk)(J:St→Prop):eZ→St→Prop
 | .normal,s=>s.h r=some X∧J s
 |_,_=>False
def tH(r:Nat)(X:Blk)(I:Hp→Nat→Prop)(E:eZ→Hp→Nat→Prop):eZ→St→Prop
 | .normal,s=>s.h r=some X∧I s.h s.nx
 |e,s=>s.h r=some X∧E e s.h s.nx
theorem rS{r:Nat}{X:Blk}{J:St→Prop}{s:St}(h:s.h r=some X)(hj:J s):aIc r X J .normal s:=⟨h,hj⟩
theorem oY{r:Nat}{X:Blk}{I:Hp→Nat→Prop}{E:eZ→Hp→Nat→Prop}{s:St}(h:s.h r=some X)(hi:I s.h s.nx):tH r X I E .normal s:=⟨h,hi⟩
theorem rI{P:Program}{g:aQ}{ps:List Nat}{as b:cU}{Q:eZ→St→Prop}{s:St}{gf:Nat}{caps:List V}{hb:Hp}{xs:List (List V)}(hit:aEx P gf caps hb xs)(hg:g.ev s.sl= .fn (.func gf) [] caps)
 (hlen:∀x∈xs,x.length=ps.length) (hd:aT s.h s.nx) (I:Nat→Hp→Nat→Prop) (E:eZ→Hp→Nat→Prop)
 (hbI:∀i h nx,I i h nx→hb.has h) (hnI:∀i h nx nx',I i h nx→nx≤nx'→I i h nx') (hsI:∀i h nx b,I i h nx→I i (h.set s.nx b) nx)
 (hnE:∀e h nx nx',E e h nx→nx≤nx'→E e h nx') (hsE:∀e h nx b,E e h nx→E e (h.set s.nx b) nx)
 (h0:I 0 s.h (s.nx+1))
 (hround:∀i (hi:i<xs.length) h nx X,I i h nx→s.nx<nx→h s.nx=some X→aT h nx→
   lwp P as (aIc s.nx X fun s1=>∀X',lwp P b (tH s.nx X' (I (i+1)) E) ⟨s1.sl,s1.h.set s.nx X',s1.nx⟩) ⟨putAll s.sl ps xs[i],h,nx⟩)
 (hend:∀h nx,I xs.length h nx→s.nx<nx→aT h nx→Q .normal ⟨s.sl,h.del s.nx,nx⟩)
 (hex:∀e h nx,E e h nx→s.nx<nx→aT h nx→(e= .ret∨∃id,e= .exit id)→Q e ⟨s.sl,h.del s.nx,nx⟩):lwp P (.range g ps as b) Q s:=by
 simp only[lwp,hg]
 intro rcd U hpl hY
 have hset:∀(h:Hp) (b:Blk),(h.set s.nx b) s.nx=some b:=fun h b=>by simp[Hp.set]
 refine((hit s.nx (fun i h nx=>I i h nx∧h s.nx=some (.obj (rcd .ready none) U))
  (fun h nx=>(h s.nx=some (.obj (rcd .done (some .ret)) U)∧E .ret h nx)∨∃id,h s.nx=some (.obj (rcd .done (some (.exit id))) U)∧E (.exit id) h nx)
  (fun i h nx hj=>hbI i h nx hj.1) (fun i h nx nx' hj hle=>⟨hnI i h nx nx' hj.1 hle,hj.2⟩)
  (fun h nx nx' hD hle=>hD.imp (fun hD=>⟨hD.1,hnE _ _ _ _ hD.2 hle⟩) (fun⟨id,hD⟩=>⟨id,hD.1,hnE _ _ _ _ hD.2 hle⟩)) ?_ _ (s.nx+1) ⟨hsI _ _ _ _ h0,hset _ _⟩ ?_).dom).mono ?_
 ·rintro i hi h nx ⟨hI,hr⟩ hdom
  refine hY xs[i] h nx _ (hlen _ (List.getElem_mem _)) hr ?_
  refine oA ?_ (hround i hi h nx _ hI (hdom _ _ hr) hr hdom)
  intro e s1 hq
  cases e with
  |exit id=>exact hq.elim
  |ret=>exact hq.elim
  |normal=>
   refine⟨hq.1,oA ?_ (hq.2 (.obj (rcd .busy none) U))⟩
   intro e s2 hq2
   cases e with
   |normal=>exact⟨hq2.1, .inl ⟨rfl,hsI _ _ _ _ hq2.2,hset _ _⟩⟩
   |ret=>exact⟨hq2.1, .inr ⟨rfl, .inl ⟨hset _ _,hsE _ _ _ _ hq2.2⟩⟩⟩
   |exit id=>exact⟨hq2.1, .inr ⟨rfl, .inr ⟨id,hset _ _,hsE _ _ _ _ hq2.2⟩⟩⟩
 ·intro m b hm
  unfold Hp.set at hm
  split at hm
  ·omega
  have:=hd m b hm;omega
 rintro v h' nx' _ ⟨(⟨hI,hr⟩|(⟨hr,hE⟩|⟨id,hr,hE⟩)),hdom,hle⟩
 ·exact .inl ⟨hr,hend _ _ hI (by omega) hdom⟩
 ·exact .inr (.inl ⟨hr,hex _ _ _ hE (by omega) hdom (.inl rfl)⟩)
 exact .inr (.inr ⟨id,hr,hex _ _ _ hE (by omega) hdom (.inr ⟨id,rfl⟩)⟩)
def fF{ι:Type}(sl:ι→List V)(C:ι→Hp→Nat→Prop)(m:ι→Nat)(n:Nat)(Q:eZ→St→Prop):eZ→St→Prop
 | .normal,s=>∃i,m i<n∧WkL s.sl (sl i)∧C i s.h s.nx
 |e,s=>Q e s
section
variable{P:Program}{Q:eZ→St→Prop}{s:St}{ι:Type}{sl:ι→List V}{C:ι→Hp→Nat→Prop}{m:ι→Nat}{n:Nat}
theorem aL{sl0:List V}{h:Hp}{nx:Nat}(i:ι)(hm:m i<n)(hC:C i h nx)(hw:WkL sl0 (sl i)):fF sl C m n Q .normal ⟨sl0,h,nx⟩:=⟨i,hm,hw,hC⟩
theorem mI{id:Nat}(h:Q (.exit id) s):fF sl C m n Q (.exit id) s:=h
theorem kG(h:Q .ret s):fF sl C m n Q .ret s:=h
theorem cI{c:cU}(sl:ι→List V)(C:ι→Hp→Nat→Prop)(m:ι→Nat)(i0:ι)(h0:C i0 s.h s.nx)(hw:WkL s.sl (sl i0))(hr:∀i h nx,C i h nx→lwp P c (fF sl C m (m i) Q) ⟨sl i,h,nx⟩):lwp P (.loop c) Q s:=by
 refine pK (fun p:ι×Hp×Nat=>C p.1 p.2.1 p.2.2) (fun p=>⟨sl p.1,p.2.1,p.2.2⟩) (fun p=>m p.1) (i0,s.h,s.nx) h0 ⟨hw,Hp.le_refl _,Nat.le_refl _⟩ ?_
 rintro⟨i,h,nx⟩ hC
 refine oA ?_ (hr i h nx hC)
 intro e s' hq
 cases e with
 |normal=>
  obtain⟨j,h1,h2,h3⟩:=hq
  exact⟨(j,s'.h,s'.nx),h3,h1,h2,Hp.le_refl _,Nat.le_refl _⟩
 |exit id=>exact hq
 |ret=>exact hq
end
theorem aT.set2{h:Hp}{nx n:Nat}(hd:aT h nx)(hn:n<nx)(b:Blk):aT (h.set n b) nx:=hd.set hn (Nat.le_refl _) b
def aA.plain(o:aA):Bool:=match o.g with
 |none=> !o.op.isCall
 |some _=>false
def gW:List aA→List aA
 | []=>[]
 |o::r=>match o.plain with
  |true=>o::gW r
  |false=>[]
def fV:List aA→List aA
 | []=>[]
 |o::r=>match o.plain with
  |true=>fV r
  |false=>o::r
theorem aEL{P:Program}{Q:St→Prop}:∀(l:List aA) (s:St),gL (gW l) s→bE P (fV l) Q (dQ (gW l) s)→bE P l Q s
 | [],s,_,h=>h
 |o::r,s,ho,h=>by
  cases hc:o.plain with
  |false=>simp only[gW,fV,hc] at ho h;exact h
  |true=>
   simp only[gW,fV,hc] at ho h
   have hcall:o.op.isCall=false:=by
    unfold aA.plain at hc
    split at hc
    ·simpa using hc
    cases hc
   exact sE hcall ho.1 (aEL r _ ho.2 h)
theorem eM{P:Program}{Q:St→Prop}{s:St}:bE P [] Q s=Q s:=rfl
theorem aK{P:Program}{Q:St→Prop}{s:St}(h:Q s):bE P [] Q s:=h
theorem aR{P:Program}{Q:St→Prop}{o:aA}{r:List aA}{s:St}(_:o.plain=true)(ho:gL (gW (o::r)) s)(h:bE P (fV (o::r)) Q (dQ (gW (o::r)) s)):bE P (o::r) Q s:=aEL _ s ho h
theorem nC{P:Program}{Q:St→Prop}{s:St}{dst:Option Nat}{k:Sh}{bs:Nat}{x y:aQ}{r:List aA}{ys:List V}(hx:x.ev s.sl= .sl k .nil [])(hy:dN s.h (y.ev s.sl)=some (k,ys))(hne:ys≠ [])(hb:ys.length*bs≤140737488355328)
 (h:bE P r Q ⟨bN s.sl dst (.rs s.nx k 0 ys.length),s.h.set s.nx (.arr k ys),s.nx+1⟩):bE P (⟨dst,none, .append k bs x y⟩::r) Q s:=by
 unfold bE
 simp only[LOp.run,LOp.sem,hy,hx]
 exact⟨trivial,trivial,by simpa using hb, .inr ⟨trivial,trivial,hne,h⟩⟩
theorem yC{P:Program}{Q:St→Prop}{s:St}{dst:Option Nat}{k:Sh}{bs n len:Nat}{x y:aQ}{r:List aA}{es ys:List V}(hx:x.ev s.sl= .rs n k 0 len)(hn:s.h n=some (.arr k es))(hl:len≤es.length)(hy:dN s.h (y.ev s.sl)=some (k,ys))(hne:ys≠ [])(hb:(len+ys.length)*bs≤140737488355328)
 (h:bE P r Q ⟨bN s.sl dst (.rs s.nx k 0 (len+ys.length)),(s.h.del n).set s.nx (.arr k (es.take len++ys)),s.nx+1⟩):bE P (⟨dst,none, .append k bs x y⟩::r) Q s:=by
 unfold bE
 simp only[LOp.run,LOp.sem,hy,hx,hn]
 exact⟨trivial,trivial, .inr ⟨trivial,trivial,hl,hne,hb,h⟩⟩
theorem yB{P:Program}{Q:St→Prop}{s:St}{dst:Option Nat}{k:Sh}{xs:List aQ}{r:List aA}(hf:∀e∈xs,(e.ev s.sl).fits k=true)
 (h:bE P r Q ⟨bN s.sl dst (.rs s.nx k 0 xs.length),s.h.set s.nx (.arr k (xs.map (aQ.ev s.sl))),s.nx+1⟩):bE P (⟨dst,none, .bslice k xs⟩::r) Q s:=by
 unfold bE
 exact⟨hf, .inr h⟩
theorem xD{a b:Nat}(h:a≤1000000000)(h':b≤140737):a*b≤140737488355328:=Nat.le_trans (Nat.mul_le_mul h h') (by decide)
def LOp.isStop:LOp→Bool
 | .call _ _=>true
 | .callv _ _=>true
 | .callw _ _ _=>true
 | .store _ _ _=>true
 |_=>false
def aA.dplain(o:aA):Bool:=match o.g with
 |none=> !o.op.isStop
 |some _=>false
def fK:List (aA×List Nat)→List (aA×List Nat)
 | []=>[]
 |o::r=>match o.1.dplain with
  |true=>o::fK r
  |false=>[]
def eS:List (aA×List Nat)→List (aA×List Nat)
 | []=>[]
 |o::r=>match o.1.dplain with
  |true=>eS r
  |false=>o::r
def mF:List (aA×List Nat)→List (aA×List Nat)
 | []=>[]
 |o::r=>match o.1.op.isStop with
  |true=>[]
  |false=>o::mF r
def dS:List (aA×List Nat)→List (aA×List Nat)
 | []=>[]
 |o::r=>match o.1.op.isStop with
  |true=>o::r
  |false=>dS r
theorem aDs:∀l:List (aA×List Nat),mF l++dS l=l
 | []=>rfl
 |o::r=>by
  unfold mF dS
  split
  ·rfl
  rw[List.cons_append,aDs r]
theorem aAl:∀l:List (aA×List Nat),fK l++eS l=l
 | []=>rfl
 |o::r=>by
  unfold fK eS
  split
  ·rw[List.cons_append,aAl r]
  rfl
theorem fQ{P:Program}{h0:Hp}{nx0:Nat}{Q:List V→List (Option Blk)→List (Option Con)→Prop}{o:aA×List Nat}{r:List (aA×List Nat)}{sl:List V}{adds:List (Option Blk)}{cons:List (Option Con)}(_:o.1.dplain=true)(ho:fW h0 nx0 (fK (o::r)) ⟨sl,adds,cons⟩)
 (h:iA P h0 nx0 (eS (o::r)) (cK h0 nx0 (fK (o::r)) ⟨sl,adds,cons⟩).sl (cK h0 nx0 (fK (o::r)) ⟨sl,adds,cons⟩).adds (cK h0 nx0 (fK (o::r)) ⟨sl,adds,cons⟩).cons Q):iA P h0 nx0 (o::r) sl adds cons Q:=by
 have:=aDp (P:=P) (Q:=Q) (r:=eS (o::r)) (fK (o::r)) ⟨sl,adds,cons⟩ ho h
 rwa [aAl] at this
theorem bG(k:Sh):gS k k 0:=by cases k<;>simp[gS]
theorem aY{k:Sh}{v:V}(h:v.fits k=true):fI k 0 v=v:=by
 cases k with
 |leaf=>cases v<;>first|rfl|(simp[V.fits,V.leafy] at h)
 |agg m=>
  cases v with
  |agg cs=>
   simp only[V.fits,Bool.and_eq_true,decide_eq_true_eq] at h
   simp[fI,V.cells,h.1]
  |_=>simp[V.fits] at h
theorem dD(o:Nat):gS .leaf .leaf o=(o=0):=rfl
theorem dE(n o:Nat):gS (.agg n) .leaf o=(o<n):=rfl
theorem dF(n m o:Nat):gS (.agg n) (.agg m) o=(o+m≤n):=rfl
theorem cB(o:Nat)(v:V):fI .leaf o v=v.cell o:=rfl
theorem cC(m o:Nat)(cs:List V):fI (.agg m) o (.agg cs)=if o=0∧cs.length=m then .agg cs else .agg ((cs.drop o).take m):=rfl
theorem bH(o:Nat)(cs:List V)(v:V):dZ .leaf o (.agg cs) v= .agg (cs.set o v):=rfl
theorem bI(m o:Nat)(cs:List V)(v:V):dZ (.agg m) o (.agg cs) v=if o=0∧cs.length=m then v else .agg (cs.take o++v.cells++cs.drop (o+m)):=rfl
theorem gQ(n:Nat)(ks:List LK)(xs ys:List V):veq (.plain (.agg n) ks) (.agg xs) (.agg ys)=if ((V.agg xs).fits (.agg n)&&(V.agg ys).fits (.agg n))=true then gI ks xs ys else none:=rfl
theorem gO(ks:List LK)(k k':IntKind)(a b:Int):veq (.plain .leaf ks) (.int k a) (.int k' b)=gI ks [.int k a] [.int k' b]:=rfl
theorem gP(ks:List LK)(a b:Bool):veq (.plain .leaf ks) (.bool a) (.bool b)=gI ks [.bool a] [.bool b]:=rfl
theorem gN(ks:List LK)(a b:ByteArray):veq (.plain .leaf ks) (.str a) (.str b)=gI ks [.str a] [.str b]:=rfl
theorem dM(cs:List V):(V.agg cs).cells=cs:=rfl
theorem cG{v:V}(h:v.leafy=true):v.cells=[v]:=by cases v<;>first|rfl|(simp[V.leafy] at h)
theorem dX(cs:List V)(j:Nat):(V.agg cs).cell j=cs.getD j V.undef:=rfl
theorem cR{v:V}(h:v.leafy=true):v.cell 0=v:=by cases v<;>first|rfl|(simp[V.leafy] at h)
theorem eG:veq .ptr .nilPtr .nilPtr=some true:=rfl
theorem eF(n:Nat)(k:Sh)(i o:Nat):veq .ptr .nilPtr (.ptr n k i o)=some false:=rfl
theorem eE(n:Nat)(k:Sh)(i o:Nat):veq .ptr (.ptr n k i o) .nilPtr=some false:=rfl
theorem eD(k:Sh)(es:List V)(i o:Nat):veq .ptr .nilPtr (.ept k es i o)=some false:=rfl
theorem eC(k:Sh)(es:List V)(i o:Nat):veq .ptr (.ept k es i o) .nilPtr=some false:=rfl
theorem bX(k k':Sh)(o:Own)(es es':List V):veq .slice (.sl k o es) (.sl k' .nil es')=some (o== .nil):=rfl
theorem bW(n:Nat)(k k':Sh)(o l:Nat)(es':List V):veq .slice (.rs n k o l) (.sl k' .nil es')=some false:=rfl
theorem cZ:veq .func .nilFn .nilFn=some true:=rfl
theorem cY(f:Fn)(a b:List V):veq .func .nilFn (.fn f a b)=some false:=rfl
theorem cX(f:Fn)(a b:List V):veq .func (.fn f a b) .nilFn=some false:=rfl
theorem cA:veq (.iface true) .nilIface .nilIface=some true:=rfl
theorem bZ(c:Bool)(t:Nat)(v:V):veq (.iface c) .nilIface (.iface t v)=some false:=by cases c<;>rfl
theorem bY(c:Bool)(t:Nat)(v:V):veq (.iface c) (.iface t v) .nilIface=some false:=by cases c<;>rfl
theorem eJ:veq .map .nilMap .nilMap=some true:=rfl
theorem eI(n:Nat):veq .map .nilMap (.map n)=some false:=rfl
theorem eH(n:Nat):veq .map (.map n) .nilMap=some false:=rfl
theorem dC:veq .chan .nilChan .nilChan=some true:=rfl
theorem dB(n:Nat):veq .chan .nilChan (.chan n)=some false:=rfl
theorem dA(n:Nat):veq .chan (.chan n) .nilChan=some false:=rfl
theorem eQ(n:Nat)(cs:List V):V.fits (.agg n) (.agg cs)=(decide (cs.length=n)&&cs.all V.leafy):=by simp only[V.fits]
theorem cE(b:Bool):V.leafy (.bool b)=true:=by simp only[V.leafy]
theorem dK(k:IntKind)(n:Int):V.leafy (.int k n)=true:=by simp only[V.leafy]
theorem dH(s:ByteArray):V.leafy (.str s)=true:=by simp only[V.leafy]
theorem bJ:V.leafy (.nilPtr)=true:=by simp only[V.leafy]
theorem dI(n:Nat)(k:Sh)(i o:Nat):V.leafy (.ptr n k i o)=true:=by simp only[V.leafy]
theorem dL(k:Sh)(es:List V)(i o:Nat):V.leafy (.ept k es i o)=true:=by simp only[V.leafy]
theorem eN(k:Sh)(own:Own)(es:List V):V.leafy (.sl k own es)=true:=by simp only[V.leafy]
theorem eO(n:Nat)(k:Sh)(off len:Nat):V.leafy (.rs n k off len)=true:=by simp only[V.leafy]
theorem bK:V.leafy (.nilMap)=true:=by simp only[V.leafy]
theorem dJ(n:Nat):V.leafy (.map n)=true:=by simp only[V.leafy]
theorem bF:V.leafy (.nilChan)=true:=by simp only[V.leafy]
theorem cD(n:Nat):V.leafy (.chan n)=true:=by simp only[V.leafy]
theorem eP(f:Fn)(a b:List V):V.leafy (.fn f a b)=true:=by simp only[V.leafy]
theorem bP:V.leafy (.nilFn)=true:=by simp only[V.leafy]
theorem dG(n:Nat):V.leafy (.yld n)=true:=by simp only[V.leafy]
theorem bQ(t:Nat)(v:V):V.leafy (.iface t v)=true:=by simp only[V.leafy]
theorem bB:V.leafy (.nilIface)=true:=by simp only[V.leafy]
theorem cP(v:V):v.fits .leaf=v.leafy:=by cases v<;>rfl
theorem aU{k:Sh}{e v:V}(he:e.fits k=true)(hv:v.fits k=true):dZ k 0 e v=v:=by
 cases k with
 |leaf=>cases e<;>first|rfl|(simp[V.fits,V.leafy] at he)
 |agg m=>
  cases e with
  |agg cs=>
   simp only[V.fits,Bool.and_eq_true,decide_eq_true_eq] at he
   simp[dZ,he.1]
  |_=>simp[V.fits] at he
def V.gd(c:Bool)(v:V):V:=if c=true then v else V.undef
theorem V.gd_true(v:V):V.gd true v=v:=rfl
theorem V.gd_false(v:V):V.gd false v=V.undef:=rfl
theorem fM(c:Bool)(x y:V):V.pick c (V.gd c x) y=V.pick c x y:=by cases c<;>simp[V.gd,cH,bO]
theorem eK(c:Bool)(x y:V):V.pick c x (V.gd (!c) y)=V.pick c x y:=by cases c<;>simp[V.gd,cH,bO]
theorem eL(t x:Bool):V.pick t (.bool x) (.bool false)= .bool (t&&x):=by cases t<;>rfl
theorem fL(t y:Bool):V.pick t (.bool true) (.bool y)= .bool (t||y):=by cases t<;>rfl
def kT(g:Option (Nat×Bool)):List aA→List aA
 | []=>[]
 |o::r=>if o.g=g then o::kT g r else []
def gY(g:Option (Nat×Bool)):List aA→List aA
 | []=>[]
 |o::r=>if o.g=g then gY g r else o::r
def lY(l:List aA):List aA:=l.map fun o=>⟨o.dst,none,o.op⟩
def fN(c:Bool)(sl':List V):List aA→List V→List V
 | [],sl=>sl
 |o::r,sl=>fN c sl' r (match o.dst with|some d=>sl.set d (V.gd c (sl'.getD d V.undef))|none=>sl)
def xG(ds:List Nat)(a b:List V):Prop:=a.length=b.length∧∀t,t∉ds→a.getD t V.undef=b.getD t V.undef
theorem aCV{P:Program}{Q:St→Prop}:∀(l:List aA) (s:St),bE P l Q s→bE P l (fun s'=>Q s'∧xG (l.filterMap (·.dst)) s.sl s'.sl) s:=by
 have key:∀(l:List aA) (s0 s:St) (ds:List Nat),xG ds s0.sl s.sl→bE P l Q s→bE P l (fun s'=>Q s'∧xG (ds++l.filterMap (·.dst)) s0.sl s'.sl) s:=by
  intro l
  induction l with
  |nil=>intro s0 s ds hb h;exact⟨h,by simpa using hb⟩
  |cons o r ih=>
   intro s0 s ds hb h
   have step:∀(v:V) (h':Hp) (nx':Nat),bE P r Q ⟨bN s.sl o.dst v,h',nx'⟩→bE P r (fun s'=>Q s'∧xG (ds++(o::r).filterMap (·.dst)) s0.sl s'.sl) ⟨bN s.sl o.dst v,h',nx'⟩:=by
    intro v h' nx' hq
    have hb':xG (ds++[o].filterMap (·.dst)) s0.sl (bN s.sl o.dst v):=by
     obtain⟨h1,h2⟩:=hb
     cases hd:o.dst with
     |none=>simp only[bN,List.filterMap_cons,hd,List.filterMap_nil,List.append_nil];exact⟨h1,h2⟩
     |some d=>
      refine⟨by simp[bN,h1],fun t ht=>?_⟩
      simp[hd] at ht
      rw[h2 t ht.1]
      simp only[bN,List.getD_eq_getElem?_getD]
      rw[List.getElem?_set_ne (fun e=>ht.2 e.symm)]
    have:=ih s0 ⟨bN s.sl o.dst v,h',nx'⟩ _ hb' hq
    have e:(ds++[o].filterMap (·.dst))++r.filterMap (·.dst)=ds++(o::r).filterMap (·.dst):=by
     cases hd:o.dst<;>simp[hd]
    rw[e] at this
    exact this
   have one:=kZ (P:=P) (Q:=fun s'=>bE P r Q s') (Q':=fun s'=>bE P r Q s') (fun _ x=>x) [o] s
   revert h
   unfold bE
   split
   ·rename_i hg
    intro h
    have:=kZ (P:=P) (Q:=fun s'=>bE P r Q s'∧∃v h' nx',s'=⟨bN s.sl o.dst v,h',nx'⟩) (Q':=fun s'=>bE P r (fun s'=>Q s'∧xG (ds++(o::r).filterMap (·.dst)) s0.sl s'.sl) s') (by rintro s' ⟨hq,v,h',nx',rfl⟩;exact step v h' nx' hq) [o] s (by
     unfold bE
     rw[hg]
     show o.op.run P s.sl s.h s.nx fun v h' nx'=>bE P r Q ⟨bN s.sl o.dst v,h',nx'⟩∧_
     exact LOp.run_mono (fun v h' nx' hq=>⟨hq,v,h',nx',rfl⟩) h)
    unfold bE at this
    rw[hg] at this
    exact this
   rename_i t want hg
   split
   ·split
    ·intro h
     exact LOp.run_mono (fun v h' nx' hq=>step v h' nx' hq) h
    exact step _ _ _
   ·exact step _ _ _
   exact id
 intro l s h
 have:=key l s s [] ⟨rfl,fun _ _=>rfl⟩ h
 simpa using this
theorem rM{sl':List V}:∀(l:List aA) (sl:List V),sl.length=sl'.length→(∀t,t∉l.filterMap (·.dst)→sl.getD t V.undef=sl'.getD t V.undef)→fN true sl' l sl=sl'
 | [],sl,hl,h=>by
  apply List.ext_getElem hl
  intro i h1 h2
  have:=h i (by simp)
  rwa [List.getD_eq_getElem?_getD,List.getD_eq_getElem?_getD,List.getElem?_eq_getElem h1,List.getElem?_eq_getElem h2] at this
 |o::r,sl,hl,h=>by
  unfold fN
  cases hd:o.dst with
  |none=>exact rM r sl hl (by simpa [hd] using h)
  |some d=>
   refine rM r _ (by simpa using hl) fun t ht=>?_
   by_cases e:d=t
   ·subst e
    simp only[List.getD_eq_getElem?_getD]
    by_cases hdl:d<sl.length
    ·rw[List.getElem?_set_self hdl];simp[V.gd]
    rw[List.getElem?_eq_none (by simp;omega),List.getElem?_eq_none (by omega)]
   have:=h t (by
    rw[List.filterMap_cons,hd]
    simp only[List.mem_cons,not_or]
    exact⟨fun e'=>e e'.symm,ht⟩)
   simp only[List.getD_eq_getElem?_getD] at this⊢
   rw[List.getElem?_set_ne e,this]
theorem vU{P:Program}{Q:St→Prop}{sl':List V}{t:Nat}{want b:Bool}(hne:b≠want){r:List aA}:∀(l:List aA) (s:St),(∀o∈l,o.g=some (t,want))→(∀o∈l,o.dst≠some t)→s.sl.getD t V.undef= .bool b→
 bE P r Q ⟨fN false sl' l s.sl,s.h,s.nx⟩→bE P (l++r) Q s
 | [],s,_,_,_,h=>h
 |o::l,s,hg,hd,hb,h=>by
  rw[List.cons_append]
  unfold bE
  rw[hg o (by simp)]
  simp only[hb]
  rw[if_neg hne]
  refine vU (sl':=sl') hne l _ (fun o' ho'=>hg o' (by simp[ho'])) (fun o' ho'=>hd o' (by simp[ho'])) ?_ ?_
  ·cases hdo:o.dst with
   |none=>exact hb
   |some d=>
    have:d≠t:=fun e=>hd o (by simp) (by rw[hdo,e])
    simp only[bN,List.getD_eq_getElem?_getD] at hb⊢
    rw[List.getElem?_set_ne this];exact hb
  unfold fN at h
  cases hdo:o.dst with
  |none=>rw[hdo] at h;simpa [bN] using h
  |some d=>rw[hdo] at h;simpa [bN,V.gd] using h
theorem xQ(g:Option (Nat×Bool)):∀l:List aA,kT g l++gY g l=l
 | []=>rfl
 |o::r=>by
  unfold kT gY
  split
  ·rw[List.cons_append,xQ g r]
  rfl
theorem aEm(g:Option (Nat×Bool)):∀(l:List aA),∀o∈kT g l,o.g=g
 | [],o,h=>by cases h
 |o'::r,o,h=>by
  unfold kT at h
  split at h
  ·rename_i e
   rcases List.mem_cons.1 h with rfl|h
   ·exact e
   exact aEm g r o h
  cases h
theorem aHo{P:Program}{Q:St→Prop}{s:St}{t:Nat}{want:Bool}{dst:Option Nat}{op:LOp}{r:List aA}(b:Bool)(hb:s.sl.getD t V.undef= .bool b)(hd:((kT (some (t,want)) (⟨dst,some (t,want),op⟩::r)).all fun o=>decide (o.dst≠some t))=true)(sl':List V)
 (h1:b=want→bE P (lY (kT (some (t,want)) (⟨dst,some (t,want),op⟩::r))) (fun s1=>s1=⟨sl',s.h,s.nx⟩) s)
 (h2:bE P (gY (some (t,want)) (⟨dst,some (t,want),op⟩::r)) Q ⟨fN (b==want) sl' (kT (some (t,want)) (⟨dst,some (t,want),op⟩::r)) s.sl,s.h,s.nx⟩):
 bE P (⟨dst,some (t,want),op⟩::r) Q s:=by
 generalize (⟨dst,some (t,want),op⟩::r)=l at*
 rw[←xQ (some (t,want)) l]
 have hd':∀o∈kT (some (t,want)) l,o.dst≠some t:=fun o ho=>by simpa using List.all_eq_true.1 hd o ho
 by_cases e:b=want
 ·subst e
  have h1':=h1 rfl
  rw[show(b==b)=true by simp] at h2
  have app:∀(a:List aA) (s:St),(∀o∈a,o.g=some (t,b))→(∀o∈a,o.dst≠some t)→s.sl.getD t V.undef= .bool b→bE P (lY a) (fun s1=>bE P (gY (some (t,b)) l) Q s1) s→bE P (a++gY (some (t,b)) l) Q s:=by
   intro a
   induction a with
   |nil=>exact fun s _ _ _ h=>h
   |cons o a ih=>
    intro s hg hdd hb h
    rw[List.cons_append]
    unfold bE
    rw[hg o (by simp)]
    simp only[hb,if_true]
    have h':o.op.run P s.sl s.h s.nx fun v h' nx'=>bE P (lY a) (fun s1=>bE P (gY (some (t,b)) l) Q s1) ⟨bN s.sl o.dst v,h',nx'⟩:=h
    refine LOp.run_mono (fun v h' nx' hq=>ih _ (fun o' ho'=>hg o' (by simp[ho'])) (fun o' ho'=>hdd o' (by simp[ho'])) ?_ hq) h'
    cases hdo:o.dst with
    |none=>exact hb
    |some d=>
     have:d≠t:=fun e=>hdd o (by simp) (by rw[hdo,e])
     simp only[bN,List.getD_eq_getElem?_getD] at hb⊢
     rw[List.getElem?_set_ne this];exact hb
  refine app _ s (aEm _ _) hd' hb (kZ ?_ _ _ (aCV _ _ h1'))
  rintro s1 ⟨rfl,hbs⟩
  have e:fN true sl' (kT (some (t,b)) l) s.sl=sl':=by
   refine rM _ _ hbs.1 fun t' ht'=>hbs.2 t' ?_
   simpa [lY,List.filterMap_map] using ht'
  rw[e] at h2
  exact h2
 rw[show(b==want)=false by simpa using e] at h2
 exact vU e _ s (aEm _ _) hd' hb h2
theorem aFI{K:Ker}{h:Hp}(hr:Rel K h){n a:Nat}{k:Sh}{es:List V}{i o:Nat}{cv:Value}(hn:h n=some (.arr k es))(ha:¬K.live a)(hv:VR K (.ptr n k i o) cv):
 ∃K',K'.w=K.w∧K.le K'∧(∀m,K'.live m→K.live m∨m=a)∧VR K' (.ept k es i o) cv∧Rel K' (h.del n):=by
 have hb:=hr.blk n _ hn
 cases hb with
 |arr _ _ c T hh hcs himm hfit hcv=>
  cases hv with
  |ptr _ _ _ _ hl=>
   have hblk:K.mu n<K.w.heap.size:=by
    rcases Nat.lt_or_ge (K.mu n) K.w.heap.size with hlt|hge
    ·exact hlt
    rw[Array.getElem?_eq_none hge] at hh;exact absurd hh (by simp)
   have hle:K.le (K.claim a (K.mu n) (es.length*k.size)):=K.le_claim ha (by rw[himm];exact Nat.zero_le _)
   have hmu:(K.claim a (K.mu n) (es.length*k.size)).mu a=K.mu n:=by simp[Ker.claim]
   have hrel:=hr.claim hn (a:=a) (m:=es.length*k.size) ha (by rw[himm];exact Nat.zero_le _) (b1:= .tip) (.tip c T (by rw[hmu];exact hh) (by simp[Ker.claim]) (by simp only[Ker.claim,if_true];exact hcs))
   refine⟨K.claim a (K.mu n) (es.length*k.size),rfl,hle,fun m hm=>hm.symm,?_,hrel.weaken ?_⟩
   ·have:=VR.ept (K:=K.claim a (K.mu n) (es.length*k.size)) k es i o (K.mu n) 0 (fun j=>c.getD j Go.undef) hblk hfit
     (fun j hj=>by
       show K.w.cell? _=_
       simp only[World.cell?,hh,Nat.zero_add]
       rw[Array.getD_eq_getD_getElem?,Array.getElem?_eq_getElem (by omega)]
       rfl)
     (fun j hj=> .inr (by simp only[Ker.claim,if_true];omega))
     (fun i hi j hj=>(hcv i hi j hj).mono hle)
    simpa using this
   intro m b e
   unfold Hp.del at e
   split at e
   ·cases e
   rename_i hm
   have hma:m≠a:=fun e2=>ha (e2▸hr.lt m b e)
   unfold Hp.set Hp.del
   rw[if_neg hma,if_neg hm];exact e
def V.loose:V→V
 | .sl k .nil es=> .sl k .nil es
 | .sl k _ es=> .sl k .free es
 | .agg cs=> .agg (cs.map fun c=>match c with
  | .sl k .nil es=> .sl k .nil es
  | .sl k _ es=> .sl k .free es
  |v=>v)
 |v=>v
theorem VR.loose{K:Ker}{v:V}{cv:Value}(r:VR K v cv):VR K v.loose cv:=by
 have one:∀{k:Sh} {own:Own} {es:List V} {cv:Value},VR K (.sl k own es) cv→VR K (match V.sl k own es with| .sl k .nil es=> .sl k .nil es| .sl k _ es=> .sl k .free es|v=>v) cv:=by
  intro k own es cv r
  cases own with
  |nil=>exact r
  |full=>exact r.free (by simp)
  |tok n=>exact r.free (by simp)
  |free=>exact r.free (by simp)
 cases v with
 |sl k own es=>cases own<;>first|exact r|exact r.free (by simp)
 |agg cs=>
  cases r with
  |agg _ ccs hl hv=>
   refine .agg _ ccs (by simpa using hl) fun i hi=>?_
   have hi':i<cs.length:=by simpa using hi
   have:=hv i hi'
   simp only[List.getD_eq_getElem?_getD,List.getElem?_map,List.getElem?_eq_getElem hi',Option.map_some,Option.getD_some] at this⊢
   generalize cs[i]=c at this⊢
   cases c<;>first|exact this|exact one this
 |_=>exact r
theorem aAy{P:Program}{f:FuncId}{args:List V}{h:Hp}{nx:Nat}{g:Fn}{v0:V}
 (c:bM P f args h nx fun v h' _=>∃n,nx≤n∧v= .fn g [] [.ptr n .leaf 0 0]∧h'=h.set n (.arr .leaf [v0])):
 bM P f args h nx fun v h' _=>v= .fn g [] [.ept .leaf [v0.loose] 0 0]∧h'=h:=by
 refine⟨c.1,fun K cargs hl hr hv=>(c.2 K cargs hl hr hv).mono ?_⟩
 rintro e w' ⟨K',v,cv,h',nx',rfl,he,hle,hvr,hrel,hlv,hnx,n,hn,rfl,rfl⟩
 have hfr:¬K'.live nx':=fun hh=>Nat.lt_irrefl _ (hlv nx' hh).1
 have hset:(h.set n (.arr .leaf [v0])) n=some (.arr .leaf [v0]):=by simp[Hp.set]
 cases hvr with
 |fn _ _ _ cf cc h1 h2 v1 v2=>
 have vp:=v2 0 (by simp)
 simp only[List.getD_cons_zero] at vp
 obtain⟨K'',q1,q2,q3,q4,q5⟩:=aFI hrel hset hfr vp
 have hdom:h n=none:=by
  cases hd:h n with
  |none=>rfl
  |some b=>exact absurd (hl n (hr.lt n b hd)) (by omega)
 have hh:(h.set n (.arr .leaf [v0])).del n=h:=by
  funext x
  unfold Hp.set Hp.del
  by_cases e2:x=n
  ·subst e2;simp[hdom]
  simp[e2]
 rw[hh] at q5
 have q4':VR K'' (.ept .leaf [v0.loose] 0 0) (cc.getD 0 Go.undef):=by
  generalize cc.getD 0 Go.undef=x at q4⊢
  cases q4 with
  |ept _ _ _ _ b off f hb hfit hcell hst hvv=>
   have hleaf:v0.leafy=true:=by simpa [V.fits] using hfit v0 (by simp)
   have hll:v0.loose.leafy=true:=by
    cases v0<;>first|rfl|(simp[V.leafy] at hleaf)|skip
    rename_i own es
    cases own<;>rfl
   have hc1:∀v:V,v.leafy=true→v.cell 0=v:=fun v hv=>by cases v<;>first|rfl|(simp[V.leafy] at hv)
   refine .ept _ _ _ _ b off f hb (by simpa [V.fits] using hll) hcell hst ?_
   intro i hi j hj
   have hi0:i=0:=by simpa using hi
   have hj0:j=0:=by simpa [Sh.size] using hj
   subst hi0 hj0
   have:=hvv 0 (by simp) 0 (by simp[Sh.size])
   simp only[List.getD_cons_zero,hc1 _ hleaf,hc1 _ hll] at this⊢
   exact this.loose
 refine⟨K'',_,_,h,nx'+1,q1,he,hle.trans q2, .fn g [] [.ept .leaf [v0.loose] 0 0] cf cc h1 h2 (fun i hi=>absurd hi (by simp)) (fun i hi=>?_),q5,fun m hm=>?_,by omega,rfl,rfl⟩
 ·have hi0:i=0:=by simpa using hi
  subst hi0
  exact q4'
 rcases q3 m hm with hm|rfl
 ·exact⟨by have:=(hlv m hm).1;omega,(hlv m hm).2⟩
 exact⟨by omega, .inr hnx⟩
/-
The abstract layer,twenty-sixth part:guarded runs in regions that draw their order. No program in sight. No conditions.
-/
section
variable{P:Program}{h0:Hp}{nx0:Nat}
theorem gZ{tl:List aA}{n:Nat}{Q:eZ→St→Prop}{s:St}{sl:List V}{adds:List (Option Blk)}{cons:List (Option Con)}(h:bE P tl (Q .normal) ⟨sl,kM (gH s.h s.nx adds) cons,s.nx+n⟩):aGI P tl n Q s sl adds cons:=h
abbrev DL:=List (aA×List Nat)
def mP(g:Option (Nat×Bool)):DL→DL
 | []=>[]
 |o::r=>if o.1.g=g then o::mP g r else []
def jR(g:Option (Nat×Bool)):DL→DL
 | []=>[]
 |o::r=>if o.1.g=g then jR g r else o::r
def jX(l:DL):DL:=l.map fun o=>(⟨o.1.dst,none,o.1.op⟩,o.2)
def gG(c:Bool)(sl':List V):DL→List V→List V
 | [],sl=>sl
 |o::r,sl=>gG c sl' r (match o.1.dst with|some d=>sl.set d (V.gd c (sl'.getD d V.undef))|none=>sl)
def iV{α:Type}:DL→List (Option α)
 | []=>[]
 |_::r=>none::iV r
end
/-
Functions of the library of Go,lowered,at whatever element type:printed by a program. No conditions.
-/
namespace LB
abbrev IndexFunc_r0:List aA:=[
 ⟨some 4,none, .val (.move (.const (.int .i64 0)))⟩]
abbrev IndexFunc_r1:List aA:=[
 ⟨some 6,none, .val (.move (.slot 0))⟩,
 ⟨some 7,none, .val (.len (.slot 6))⟩,
 ⟨some 8,none, .val (.move (.const (.int .i64 0)))⟩]
abbrev IndexFunc_r2:List aA:=[
 ⟨some 9,none, .val (.bin .lss (.slot 8) (.slot 7))⟩]
abbrev IndexFunc_r3:List aA:=[
 ⟨some 10,none, .val (.move (.slot 8))⟩,
 ⟨some 5,none, .val (.move (.slot 10))⟩]
abbrev IndexFunc_r4(k:Sh):List aA:=[
 ⟨some 11,none, .val (.move (.slot 1))⟩,
 ⟨some 12,none, .val (.move (.slot 0))⟩,
 ⟨some 13,none, .val (.move (.slot 5))⟩,
 ⟨some 14,none, .val (.idxA k (.slot 12) (.slot 13))⟩,
 ⟨some 15,none, .val (.load k (.slot 14))⟩,
 ⟨some 16,none, .callv (.slot 11) [(.slot 15)]⟩]
abbrev IndexFunc_r5:List aA:=[
 ⟨some 17,none, .val (.move (.slot 5))⟩,
 ⟨some 4,none, .val (.move (.slot 17))⟩]
abbrev IndexFunc_r6:List aA:=[
 ⟨some 18,none, .val (.bin .add (.slot 8) (.const (.int .i64 1)))⟩,
 ⟨some 8,none, .val (.move (.slot 18))⟩]
abbrev IndexFunc_l0(k:Sh):cU:=(.seq (.ops IndexFunc_r2) (.seq (.cond (.slot 9) .skip (.exit 0)) (.seq (.block 1 (.seq (.ops IndexFunc_r3) (.seq (.ops (IndexFunc_r4 k)) (.cond (.slot 16) (.seq (.ops IndexFunc_r5) .ret) .skip)))) (.ops IndexFunc_r6))))
abbrev IndexFunc_r7:List aA:=[
 ⟨some 4,none, .val (.move (.const (.int .i64 (-1))))⟩]
def IndexFunc(k:Sh):LFn:=⟨(.seq (.ops IndexFunc_r0) (.seq (.seq (.ops IndexFunc_r1) (.block 0 (.loop (IndexFunc_l0 k)))) (.seq (.ops IndexFunc_r7) .ret))),19,[.slot 4]⟩
abbrev ContainsFunc_r0:List aA:=[
 ⟨some 4,none, .val (.move (.const (.bool false)))⟩]
abbrev ContainsFunc_r1(f0:Nat):List aA:=[
 ⟨some 5,none, .val (.move (.slot 0))⟩,
 ⟨some 6,none, .val (.move (.slot 1))⟩,
 ⟨some 7,none, .call f0 [(.slot 5),(.slot 6)]⟩,
 ⟨some 8,none, .val (.bin .geq (.slot 7) (.const (.int .i64 0)))⟩,
 ⟨some 4,none, .val (.move (.slot 8))⟩]
def ContainsFunc(k:Sh)(f0:Nat):LFn:=⟨(.seq (.ops ContainsFunc_r0) (.seq (.ops (ContainsFunc_r1 f0)) .ret)),9,[.slot 4]⟩
abbrev ValuesIt_r0:List aA:=[
 ⟨some 5,none, .val (.load .leaf (.slot 1))⟩,
 ⟨some 6,none, .val (.len (.slot 5))⟩,
 ⟨some 7,none, .val (.move (.const (.int .i64 0)))⟩]
abbrev ValuesIt_r1:List aA:=[
 ⟨some 8,none, .val (.bin .lss (.slot 7) (.slot 6))⟩]
abbrev ValuesIt_r2(k:Sh)(z:V):List aA:=[
 ⟨some 9,none, .val (.idxA k (.slot 5) (.slot 7))⟩,
 ⟨some 10,none, .val (.load k (.slot 9))⟩,
 ⟨some 4,none, .box k (.const z)⟩,
 ⟨none,none, .store k (.slot 4) (.slot 10)⟩]
abbrev ValuesIt_r3(k:Sh):List aA:=[
 ⟨some 11,none, .val (.move (.slot 0))⟩,
 ⟨some 12,none, .val (.load k (.slot 4))⟩,
 ⟨some 13,none, .callv (.slot 11) [(.slot 12)]⟩,
 ⟨some 14,none, .val (.not (.slot 13))⟩]
abbrev ValuesIt_r4:List aA:=[
 ⟨some 15,none, .val (.bin .add (.slot 7) (.const (.int .i64 1)))⟩,
 ⟨some 7,none, .val (.move (.slot 15))⟩]
abbrev ValuesIt_l0(k:Sh)(z:V):cU:=(.seq (.ops ValuesIt_r1) (.seq (.cond (.slot 8) .skip (.exit 0)) (.seq (.block 1 (.seq (.ops (ValuesIt_r2 k z)) (.seq (.ops (ValuesIt_r3 k)) (.cond (.slot 14) .ret .skip)))) (.ops ValuesIt_r4))))
def ValuesIt(k:Sh)(z:V):LFn:=⟨(.seq (.ops ValuesIt_r0) (.block 0 (.loop (ValuesIt_l0 k z)))),16,[]⟩
abbrev Values_r0:List aA:=[
 ⟨some 1,none, .box .leaf (.slot 0)⟩,
 ⟨some 2,none, .val (.move (.const .nilFn))⟩]
abbrev Values_r1(f0:Nat):List aA:=[
 ⟨some 3,none, .val (.mkfn (.func f0) [] [(.slot 1)])⟩,
 ⟨some 2,none, .val (.move (.slot 3))⟩]
def Values(k:Sh)(f0:Nat):LFn:=⟨(.seq (.ops Values_r0) (.seq (.ops (Values_r1 f0)) .ret)),4,[.slot 2]⟩
abbrev AppendSeq_r0(k:Sh):List aA:=[
 ⟨some 2,none, .box .leaf (.slot 0)⟩,
 ⟨some 4,none, .val (.move (.const (.sl k .nil [])))⟩]
abbrev AppendSeq_r1:List aA:=[
 ⟨some 6,none, .val (.move (.slot 1))⟩]
abbrev AppendSeq_r2(k:Sh)(z:V):List aA:=[
 ⟨some 5,none, .box k (.const z)⟩,
 ⟨none,none, .store k (.slot 5) (.slot 7)⟩]
abbrev AppendSeq_r3(k:Sh)(bs:Nat):List aA:=[
 ⟨some 8,none, .val (.load .leaf (.slot 2))⟩,
 ⟨some 9,none, .val (.load k (.slot 5))⟩,
 ⟨some 10,none, .bslice k [(.slot 9)]⟩,
 ⟨some 11,none, .append k bs (.slot 8) (.slot 10)⟩,
 ⟨none,none, .store .leaf (.slot 2) (.slot 11)⟩]
abbrev AppendSeq_b0(k:Sh)(bs:Nat):cU:=(.block 1 (.ops (AppendSeq_r3 k bs)))
abbrev AppendSeq_r4:List aA:=[
 ⟨some 12,none, .val (.load .leaf (.slot 2))⟩,
 ⟨some 4,none, .val (.move (.slot 12))⟩]
def AppendSeq(k:Sh)(z:V)(bs:Nat):LFn:=⟨(.seq (.ops (AppendSeq_r0 k)) (.seq (.seq (.ops AppendSeq_r1) (.block 0 (.range (.slot 6) [7] (.ops (AppendSeq_r2 k z)) (AppendSeq_b0 k bs)))) (.seq (.ops AppendSeq_r4) .ret))),13,[.slot 4]⟩
abbrev Collect_r0(k:Sh):List aA:=[
 ⟨some 2,none, .val (.move (.const (.sl k .nil [])))⟩]
abbrev Collect_r1(k:Sh)(f0:Nat):List aA:=[
 ⟨some 3,none, .val (.move (.slot 0))⟩,
 ⟨some 4,none, .call f0 [(.const (.sl k .nil [])),(.slot 3)]⟩,
 ⟨some 2,none, .val (.move (.slot 4))⟩]
def Collect(k:Sh)(f0:Nat):LFn:=⟨(.seq (.ops (Collect_r0 k)) (.seq (.ops (Collect_r1 k f0)) .ret)),5,[.slot 2]⟩
abbrev SortedFunc_r0(k:Sh):List aA:=[
 ⟨some 4,none, .val (.move (.const (.sl k .nil [])))⟩]
abbrev SortedFunc_r1(f0:Nat):List aA:=[
 ⟨some 6,none, .val (.move (.slot 0))⟩,
 ⟨some 7,none, .call f0 [(.slot 6)]⟩,
 ⟨some 5,none, .val (.move (.slot 7))⟩]
abbrev SortedFunc_r2(f1:Nat):List aA:=[
 ⟨some 8,none, .val (.move (.slot 5))⟩,
 ⟨some 9,none, .val (.move (.slot 1))⟩,
 ⟨some 10,none, .call f1 [(.slot 8),(.slot 9)]⟩]
abbrev SortedFunc_r3:List aA:=[
 ⟨some 11,none, .val (.move (.slot 5))⟩,
 ⟨some 4,none, .val (.move (.slot 11))⟩]
def SortedFunc(k:Sh)(f0:Nat)(f1:Nat):LFn:=⟨(.seq (.ops (SortedFunc_r0 k)) (.seq (.ops (SortedFunc_r1 f0)) (.seq (.ops (SortedFunc_r2 f1)) (.seq (.ops SortedFunc_r3) .ret)))),12,[.slot 4]⟩
abbrev Equal_r0:List aA:=[
 ⟨some 4,none, .val (.move (.const (.bool false)))⟩]
abbrev Equal_r1:List aA:=[
 ⟨some 6,none, .val (.move (.slot 0))⟩,
 ⟨some 7,none, .val (.len (.slot 6))⟩,
 ⟨some 8,none, .val (.move (.slot 1))⟩,
 ⟨some 9,none, .val (.len (.slot 8))⟩,
 ⟨some 10,none, .val (.bin .neq (.slot 7) (.slot 9))⟩]
abbrev Equal_r2:List aA:=[
 ⟨some 4,none, .val (.move (.const (.bool false)))⟩]
abbrev Equal_r3:List aA:=[
 ⟨some 11,none, .val (.move (.slot 0))⟩,
 ⟨some 12,none, .val (.len (.slot 11))⟩,
 ⟨some 13,none, .val (.move (.const (.int .i64 0)))⟩]
abbrev Equal_r4:List aA:=[
 ⟨some 14,none, .val (.bin .lss (.slot 13) (.slot 12))⟩]
abbrev Equal_r5:List aA:=[
 ⟨some 15,none, .val (.move (.slot 13))⟩,
 ⟨some 5,none, .val (.move (.slot 15))⟩]
abbrev Equal_r6(k:Sh)(e:uT):List (aA×List Nat):=[
 (⟨some 16,none, .val (.move (.slot 0))⟩,[]),
 (⟨some 17,none, .val (.move (.slot 5))⟩,[]),
 (⟨some 18,none, .val (.idxA k (.slot 16) (.slot 17))⟩,[0,1]),
 (⟨some 19,none, .val (.load k (.slot 18))⟩,[0,1,2]),
 (⟨some 20,none, .val (.move (.slot 1))⟩,[]),
 (⟨some 21,none, .val (.move (.slot 5))⟩,[]),
 (⟨some 22,none, .val (.idxA k (.slot 20) (.slot 21))⟩,[4,5]),
 (⟨some 23,none, .val (.load k (.slot 22))⟩,[4,5,6]),
 (⟨some 24,none, .val (.eq true e (.slot 19) (.slot 23))⟩,[0,1,2,3,4,5,6,7])]
abbrev Equal_r6t:List aA:=[]
abbrev Equal_r7:List aA:=[
 ⟨some 4,none, .val (.move (.const (.bool false)))⟩]
abbrev Equal_r8:List aA:=[
 ⟨some 25,none, .val (.bin .add (.slot 13) (.const (.int .i64 1)))⟩,
 ⟨some 13,none, .val (.move (.slot 25))⟩]
abbrev Equal_l0(k:Sh)(e:uT):cU:=(.seq (.ops Equal_r4) (.seq (.cond (.slot 14) .skip (.exit 0)) (.seq (.block 1 (.seq (.ops Equal_r5) (.seq (.draw 9 (Equal_r6 k e) Equal_r6t) (.cond (.slot 24) (.seq (.ops Equal_r7) .ret) .skip)))) (.ops Equal_r8))))
abbrev Equal_r9:List aA:=[
 ⟨some 4,none, .val (.move (.const (.bool true)))⟩]
def Equal(k:Sh)(e:uT):LFn:=⟨(.seq (.ops Equal_r0) (.seq (.seq (.ops Equal_r1) (.cond (.slot 10) (.seq (.ops Equal_r2) .ret) .skip)) (.seq (.seq (.ops Equal_r3) (.block 0 (.loop (Equal_l0 k e)))) (.seq (.ops Equal_r9) .ret)))),26,[.slot 4]⟩
abbrev Clone_r0(k:Sh):List aA:=[
 ⟨some 2,none, .val (.move (.const (.sl k .nil [])))⟩]
abbrev Clone_r1(k:Sh):List aA:=[
 ⟨some 3,none, .val (.move (.slot 0))⟩,
 ⟨some 4,none, .val (.eq false .slice (.slot 3) (.const (.sl k .nil [])))⟩]
abbrev Clone_r2(k:Sh):List aA:=[
 ⟨some 2,none, .val (.move (.const (.sl k .nil [])))⟩]
abbrev Clone_r3(k:Sh)(bs:Nat):List aA:=[
 ⟨some 5,none, .bslice k []⟩,
 ⟨some 6,none, .val (.move (.slot 0))⟩,
 ⟨some 7,none, .append k bs (.slot 5) (.slot 6)⟩,
 ⟨some 2,none, .val (.move (.slot 7))⟩]
def Clone(k:Sh)(bs:Nat):LFn:=⟨(.seq (.ops (Clone_r0 k)) (.seq (.seq (.ops (Clone_r1 k)) (.cond (.slot 4) (.seq (.ops (Clone_r2 k)) .ret) .skip)) (.seq (.ops (Clone_r3 k bs)) .ret))),8,[.slot 2]⟩
abbrev CmpInt_r0:List aA:=[
 ⟨some 4,none, .val (.move (.const (.int .i64 0)))⟩]
abbrev CmpInt_r1(f0:Nat):List aA:=[
 ⟨some 7,none, .val (.move (.slot 0))⟩,
 ⟨some 8,none, .call f0 [(.slot 7)]⟩,
 ⟨some 5,none, .val (.move (.slot 8))⟩]
abbrev CmpInt_r2(f0:Nat):List aA:=[
 ⟨some 9,none, .val (.move (.slot 1))⟩,
 ⟨some 10,none, .call f0 [(.slot 9)]⟩,
 ⟨some 6,none, .val (.move (.slot 10))⟩]
abbrev CmpInt_r3:List aA:=[
 ⟨some 11,none, .val (.move (.slot 5))⟩]
abbrev CmpInt_r4:List aA:=[
 ⟨some 12,none, .val (.move (.slot 6))⟩]
abbrev CmpInt_r5:List aA:=[
 ⟨some 4,none, .val (.move (.const (.int .i64 0)))⟩]
abbrev CmpInt_r6:List aA:=[
 ⟨some 4,none, .val (.move (.const (.int .i64 (-1))))⟩]
abbrev CmpInt_r7:List aA:=[
 ⟨some 13,none, .val (.move (.slot 6))⟩]
abbrev CmpInt_r8:List aA:=[
 ⟨some 4,none, .val (.move (.const (.int .i64 1)))⟩]
abbrev CmpInt_r9:List aA:=[
 ⟨some 14,none, .val (.move (.slot 0))⟩,
 ⟨some 15,none, .val (.move (.slot 1))⟩,
 ⟨some 16,none, .val (.bin .lss (.slot 14) (.slot 15))⟩]
abbrev CmpInt_r10:List aA:=[
 ⟨some 4,none, .val (.move (.const (.int .i64 (-1))))⟩]
abbrev CmpInt_r11:List aA:=[
 ⟨some 17,none, .val (.move (.slot 0))⟩,
 ⟨some 18,none, .val (.move (.slot 1))⟩,
 ⟨some 19,none, .val (.bin .gtr (.slot 17) (.slot 18))⟩]
abbrev CmpInt_r12:List aA:=[
 ⟨some 4,none, .val (.move (.const (.int .i64 1)))⟩]
abbrev CmpInt_r13:List aA:=[
 ⟨some 4,none, .val (.move (.const (.int .i64 0)))⟩]
def CmpInt(f0:Nat):LFn:=⟨(.seq (.ops CmpInt_r0) (.seq (.ops (CmpInt_r1 f0)) (.seq (.ops (CmpInt_r2 f0)) (.seq (.seq (.ops CmpInt_r3) (.cond (.slot 11) (.seq (.seq (.ops CmpInt_r4) (.cond (.slot 12) (.seq (.ops CmpInt_r5) .ret) .skip)) (.seq (.ops CmpInt_r6) .ret)) .skip)) (.seq (.seq (.ops CmpInt_r7) (.cond (.slot 13) (.seq (.ops CmpInt_r8) .ret) .skip)) (.seq (.seq (.ops CmpInt_r9) (.cond (.slot 16) (.seq (.ops CmpInt_r10) .ret) .skip)) (.seq (.seq (.ops CmpInt_r11) (.cond (.slot 19) (.seq (.ops CmpInt_r12) .ret) .skip)) (.seq (.ops CmpInt_r13) .ret)))))))),20,[.slot 4]⟩
abbrev OrInt_r0:List aA:=[
 ⟨some 2,none, .val (.move (.const (.int .i64 0)))⟩]
abbrev OrInt_r1:List aA:=[
 ⟨some 3,none, .val (.move (.const (.int .i64 0)))⟩]
abbrev OrInt_r2:List aA:=[
 ⟨some 6,none, .val (.move (.slot 0))⟩,
 ⟨some 7,none, .val (.len (.slot 6))⟩,
 ⟨some 8,none, .val (.move (.const (.int .i64 0)))⟩]
abbrev OrInt_r3:List aA:=[
 ⟨some 9,none, .val (.bin .lss (.slot 8) (.slot 7))⟩]
abbrev OrInt_r4:List aA:=[
 ⟨some 10,none, .val (.idxA .leaf (.slot 6) (.slot 8))⟩,
 ⟨some 11,none, .val (.load .leaf (.slot 10))⟩,
 ⟨some 5,none, .val (.move (.slot 11))⟩]
abbrev OrInt_r5:List aA:=[
 ⟨some 12,none, .val (.move (.slot 5))⟩,
 ⟨some 13,none, .val (.move (.slot 3))⟩,
 ⟨some 14,none, .val (.bin .neq (.slot 12) (.slot 13))⟩]
abbrev OrInt_r6:List aA:=[
 ⟨some 15,none, .val (.move (.slot 5))⟩,
 ⟨some 2,none, .val (.move (.slot 15))⟩]
abbrev OrInt_r7:List aA:=[
 ⟨some 16,none, .val (.bin .add (.slot 8) (.const (.int .i64 1)))⟩,
 ⟨some 8,none, .val (.move (.slot 16))⟩]
abbrev OrInt_l0:cU:=(.seq (.ops OrInt_r3) (.seq (.cond (.slot 9) .skip (.exit 0)) (.seq (.block 1 (.seq (.ops OrInt_r4) (.seq (.ops OrInt_r5) (.cond (.slot 14) (.seq (.ops OrInt_r6) .ret) .skip)))) (.ops OrInt_r7))))
abbrev OrInt_r8:List aA:=[
 ⟨some 17,none, .val (.move (.slot 3))⟩,
 ⟨some 2,none, .val (.move (.slot 17))⟩]
def OrInt:LFn:=⟨(.seq (.ops OrInt_r0) (.seq (.ops OrInt_r1) (.seq (.seq (.ops OrInt_r2) (.block 0 (.loop OrInt_l0))) (.seq (.ops OrInt_r8) .ret)))),18,[.slot 2]⟩
abbrev NaNInt_r0:List aA:=[
 ⟨some 2,none, .val (.move (.const (.bool false)))⟩]
abbrev NaNInt_r1:List aA:=[
 ⟨some 3,none, .val (.move (.slot 0))⟩,
 ⟨some 4,none, .val (.move (.slot 0))⟩,
 ⟨some 5,none, .val (.bin .neq (.slot 3) (.slot 4))⟩,
 ⟨some 2,none, .val (.move (.slot 5))⟩]
def NaNInt:LFn:=⟨(.seq (.ops NaNInt_r0) (.seq (.ops NaNInt_r1) .ret)),6,[.slot 2]⟩
end LB
end Go.Proofs.YthikfnmcjipobaaGreat
/-
Contracts of functions of Go's library over slices whose elements fit one shape:IndexFunc,ContainsFunc,Values and its iterator,AppendSeq,Collect. No program in sight. No conditions beyond those named.
-/
namespace Go.Proofs.YthikfnmcjipobaaGreat
open Nat renaming reduceAdd→jA,reduceSub→jB,reduceLT→jC,reduceLeDiff→jD,reduceEqDiff→jE
open Int renaming reduceToNat→jF,toNat_natCast→jG,natCast_add→jH,natCast_one→jI,natCast_zero→jJ
open List renaming length_map→jK,length_cons→jL,length_nil→jM,replicate_succ→jN,replicate_zero→jO,cons_append→jP,nil_append→jQ
set_option linter.unusedSimpArgs false
set_option linter.unusedVariables false
set_option linter.unusedSectionVars false
open Go.RowKit
attribute [local go_sem] Option.some.injEq Prod.mk.injEq false_and and_false Bool.true_eq_false mP jR jX gG iV if_true Bool.true_and mF dS iH gL dQ aA.ok aA.next LOp.ok LOp.next bC.ok bC.out aQ.ev bN iI cH bO cO V.undef Sh.size gH fW cK aA.dok aA.dres LOp.dok LOp.dout lI iD gI eX List.take_succ_cons List.take_zero List.take_nil List.drop_succ_cons List.drop_zero List.drop_nil List.set_cons_succ List.set_cons_zero List.getD_cons_succ List.getD_cons_zero jL jM List.map_cons List.map_nil List.all_cons List.all_nil List.mem_cons List.not_mem_nil jN jO jP jQ List.append_nil List.isEmpty_cons List.isEmpty_nil dW fJ hM Option.getD_some Option.isSome_some Option.isSome_none Nat.add_eq Nat.zero_add Nat.add_zero true_and and_true and_self true_implies implies_true false_implies forall_const forall_eq forall_eq_or_imp ne_eq not_false_eq_true not_true_eq_false Bool.not_true Bool.not_false decide_true decide_false Bool.and_true Bool.true_and Bool.and_false Bool.false_and true_or or_true false_or or_false eq_self Bool.false_eq_true mK iO gC aD fH eT eB dU cL dT aZ aX dN jG Int.toNat_zero List.take_length Hp.set_app Hp.del_app gW fV aA.plain LOp.isCall aA.dplain LOp.isStop eM kT gY lY fN V.gd_true V.gd_false fM eK eL fL bG aY aU fK eS beq_true beq_false dD dE dF cB cC bH bI cP eQ cE dK dH bJ dI dL eN eO bK dJ bF cD eP bP dG bQ bB gQ gO gP gN dM cG dX cR eG eF eE eD eC bX bW cZ cY cX cA bZ bY eJ eI eH dC dB dA cQ cF bS kM Hp.turn fT Option.isNone_some Option.isNone_none
theorem fE{α:Type}(f:α→V)(l:List α)(k:Nat)(h:k<l.length):(l.map f).getD k (.tup [])=f l[k]:=by
 rw[List.getD_eq_getElem?_getD,List.getElem?_eq_getElem (by simpa using h)]
 simp
def iX{α:Type}(p:α→Bool)(l:List α):Int:=match l.findIdx? p with
 |some i=>i
 |none=>-1
theorem xS{α:Type}(p:α→Bool)(l:List α):decide (0≤iX p l)=l.any p:=by
 unfold iX
 cases hf:l.findIdx? p with
 |none=>
  rw[List.findIdx?_eq_none_iff] at hf
  have:l.any p=false:=by
   rw[List.any_eq_false]
   intro x hx
   simp[hf x hx]
  simp[this]
 |some i=>
  rw[List.findIdx?_eq_some_iff_getElem] at hf
  obtain⟨h1,h2,_⟩:=hf
  have:l.any p=true:=List.any_eq_true.2 ⟨l[i],List.getElem_mem _,h2⟩
  simp[this]
section
variable{P:Program}{k:Sh}{α:Type}(e:α→V)(hfit:∀x,(e x).fits k=true)
include hfit
theorem sS{f:Nat}(hL:aH P f=some (LB.IndexFunc k))(p:α→Bool)(own:Own)(l:List α)(g:Nat)(caps:List V)(h:Hp)(hp:∀x∈l,cM P g ([e x]++caps) h (.bool (p x)))(hl:l.length≤1000000000):
 cM P f [.sl k own (l.map e), .fn (.func g) [] caps] h (.int .i64 (iX p l)):=by
 refine bL (fun L=>trivial) fun h' nx hh=>aG hL fun hd=>?_
 simp only[jL,jM,jA,jB,jN,jO,jP,jQ,V.undef]
 repeat (first|with_reducible refine aN ?_|with_reducible refine aI ?_|with_reducible refine aP ?_|with_reducible refine aB ?_|with_reducible refine aC ?_|with_reducible refine aO ?_|(refine aR rfl (by simp only[jK,go_sem,reduceIte,jA,jB,jC,jD,reduceCtorEq,jE,jF];try omega) ?_;simp only[jK,go_sem,reduceIte,jA,jB,jC,jD,reduceCtorEq,jE,jF])|(with_reducible refine aK ?_))
 refine pK (fun i:Nat=>i≤l.length∧∀x∈l.take i,p x=false) (fun i=>⟨aD 19 0 [(0, .sl k own (l.map e)),(1, .fn (.func g) [] caps),(7, .int .i64 l.length),(8, .int .i64 i)],h',nx⟩) (fun i=>l.length-i) 0 ⟨Nat.zero_le _,by simp⟩ ?_ ?_
 ·refine qO (by simp only[WkL,aD,jH,jI,jJ,go_sem,reduceIte,jA,jB,jC,jD,reduceCtorEq,jE,jF]) ?_ ?_
  ·exact Hp.le_refl _
  omega
 rintro i ⟨hi,hno⟩
 simp only[aD,go_sem,reduceIte,jA,jB,jC,jD,reduceCtorEq,jE,jF]
 repeat (first|with_reducible refine aN ?_|with_reducible refine aI ?_|with_reducible refine aP ?_|with_reducible refine aB ?_|with_reducible refine aC ?_|with_reducible refine aO ?_|(refine aR rfl (by simp only[ go_sem,reduceIte,jA,jB,jC,jD,reduceCtorEq,jE,jF];try omega) ?_;simp only[ go_sem,reduceIte,jA,jB,jC,jD,reduceCtorEq,jE,jF])|(with_reducible refine aK ?_))
 refine fY _ rfl (fun hc=>?_) (fun hc=>?_)
 ·have hlt:i<l.length:=by simpa using hc
  have hg:=fE e l i hlt
  repeat (first|with_reducible refine aN ?_|with_reducible refine aI ?_|with_reducible refine aP ?_|with_reducible refine aB ?_|with_reducible refine aC ?_|with_reducible refine aO ?_|(refine aR rfl (by simp only[jK,jG,hg,hfit,go_sem,reduceIte,jA,jB,jC,jD,reduceCtorEq,jE,jF];try omega) ?_;simp only[jK,jG,hg,hfit,go_sem,reduceIte,jA,jB,jC,jD,reduceCtorEq,jE,jF])|(with_reducible refine aK ?_))
  refine qB rfl (hp l[i] (List.getElem_mem _)) (by simp only[go_sem,reduceIte,jA,jB,jC,jD,reduceCtorEq,jE,jF]) hh ?_
  simp only[go_sem,reduceIte,jA,jB,jC,jD,reduceCtorEq,jE,jF]
  repeat (first|with_reducible refine aN ?_|with_reducible refine aI ?_|with_reducible refine aP ?_|with_reducible refine aB ?_|with_reducible refine aC ?_|with_reducible refine aO ?_|(refine aR rfl (by simp only[ go_sem,reduceIte,jA,jB,jC,jD,reduceCtorEq,jE,jF];try omega) ?_;simp only[ go_sem,reduceIte,jA,jB,jC,jD,reduceCtorEq,jE,jF])|(with_reducible refine aK ?_))
  refine fY _ rfl (fun hc=>?_) (fun hc=>?_)
  ·repeat (first|with_reducible refine aN ?_|with_reducible refine aI ?_|with_reducible refine aP ?_|with_reducible refine aB ?_|with_reducible refine aC ?_|with_reducible refine aO ?_|(refine aR rfl (by simp only[ go_sem,reduceIte,jA,jB,jC,jD,reduceCtorEq,jE,jF];try omega) ?_;simp only[ go_sem,reduceIte,jA,jB,jC,jD,reduceCtorEq,jE,jF])|(with_reducible refine aK ?_))
   refine cV ?_
   repeat (first|with_reducible refine lS ?_|with_reducible refine jT ?_|with_reducible refine kF ?_|with_reducible refine kG ?_)
   refine aM h' (Hp.le_refl _) ⟨?_,rfl⟩
   simp only[go_sem,reduceIte,jA,jB,jC,jD,reduceCtorEq,jE,jF]
   have:l.findIdx? p=some i:=by
    rw[List.findIdx?_eq_some_iff_getElem]
    refine⟨hlt,hc,fun j hj=>?_⟩
    have:=hno l[j] (List.mem_take_iff_getElem.2 ⟨j,by omega,rfl⟩)
    simp[this]
   simp only[iX,this]
  repeat (first|with_reducible refine aN ?_|with_reducible refine aI ?_|with_reducible refine aP ?_|with_reducible refine aB ?_|with_reducible refine aC ?_|with_reducible refine aO ?_|(refine aR rfl (by simp only[ go_sem,reduceIte,jA,jB,jC,jD,reduceCtorEq,jE,jF];try omega) ?_;simp only[ go_sem,reduceIte,jA,jB,jC,jD,reduceCtorEq,jE,jF])|(with_reducible refine aK ?_))
  refine lT (i+1) ⟨by omega,?_⟩ (by omega) ?_
  ·intro x hx
   rw[List.take_succ_eq_append_getElem hlt,List.mem_append,List.mem_singleton] at hx
   rcases hx with hx|rfl
   ·exact hno x hx
   exact hc
  rw[cS (by omega) (by omega)]
  refine qO (by simp only[WkL,aD,jH,jI,jJ,go_sem,reduceIte,jA,jB,jC,jD,reduceCtorEq,jE,jF]) ?_ ?_
  ·exact Hp.le_refl _
  omega
 have hge:i=l.length:=by have:¬i<l.length:=by simpa using hc
                         omega
 refine oB ?_
 repeat (first|with_reducible refine mT ?_|with_reducible refine mH ?_|with_reducible refine mI ?_|with_reducible refine bT (by decide) ?_|with_reducible refine lJ ?_|with_reducible refine aB ?_)
 repeat (first|with_reducible refine aN ?_|with_reducible refine aI ?_|with_reducible refine aP ?_|with_reducible refine aB ?_|with_reducible refine aC ?_|with_reducible refine aO ?_|(refine aR rfl (by simp only[ go_sem,reduceIte,jA,jB,jC,jD,reduceCtorEq,jE,jF];try omega) ?_;simp only[ go_sem,reduceIte,jA,jB,jC,jD,reduceCtorEq,jE,jF])|(with_reducible refine aK ?_))
 refine cV (aM h' (Hp.le_refl _) ⟨?_,rfl⟩)
 simp only[go_sem,reduceIte,jA,jB,jC,jD,reduceCtorEq,jE,jF]
 rw[hge,List.take_length] at hno
 have:l.findIdx? p=none:=by
  rw[List.findIdx?_eq_none_iff]
  exact fun x hx=>hno x hx
 simp only[iX,this]
theorem kD{f f0:Nat}(hL:aH P f=some (LB.ContainsFunc k f0))(hL0:aH P f0=some (LB.IndexFunc k))(p:α→Bool)(own:Own)(l:List α)(g:Nat)(caps:List V)(h:Hp)(hp:∀x∈l,cM P g ([e x]++caps) h (.bool (p x)))(hl:l.length≤1000000000):
 cM P f [.sl k own (l.map e), .fn (.func g) [] caps] h (.bool (l.any p)):=by
 refine bL (fun L=>trivial) fun h' nx hh=>aG hL fun hd=>?_
 simp only[jL,jM,jA,jB,jN,jO,jP,jQ,V.undef]
 repeat (first|with_reducible refine aN ?_|with_reducible refine aI ?_|with_reducible refine aP ?_|with_reducible refine aB ?_|with_reducible refine aC ?_|with_reducible refine aO ?_|(refine aR rfl (by simp only[ go_sem,reduceIte,jA,jB,jC,jD,reduceCtorEq,jE,jF];try omega) ?_;simp only[ go_sem,reduceIte,jA,jB,jC,jD,reduceCtorEq,jE,jF])|(with_reducible refine aK ?_))
 refine aJ (sS e hfit hL0 p own l g caps h hp hl) (by simp only[go_sem,reduceIte,jA,jB,jC,jD,reduceCtorEq,jE,jF]) hh ?_
 simp only[go_sem,reduceIte,jA,jB,jC,jD,reduceCtorEq,jE,jF]
 repeat (first|with_reducible refine aN ?_|with_reducible refine aI ?_|with_reducible refine aP ?_|with_reducible refine aB ?_|with_reducible refine aC ?_|with_reducible refine aO ?_|(refine aR rfl (by simp only[ go_sem,reduceIte,jA,jB,jC,jD,reduceCtorEq,jE,jF];try omega) ?_;simp only[ go_sem,reduceIte,jA,jB,jC,jD,reduceCtorEq,jE,jF])|(with_reducible refine aK ?_))
 refine cV (aM h' (Hp.le_refl _) ⟨?_,rfl⟩)
 simp only[go_sem,reduceIte,jA,jB,jC,jD,reduceCtorEq,jE,jF]
 rw[←xS]
theorem uU{f:Nat}{z:V}(hL:aH P f=some (LB.ValuesIt k z))(hz:z.fits k=true)(own:Own)(l:List α)(hl:l.length≤1000000000):
 aEx P f [.ept .leaf [.sl k own (l.map e)] 0 0] Hp.none (l.map fun x=>[e x]):=by
 intro yn J D hbJ hnJ hnD hJ h0 nx0 h0J hd0
 simp only[jK]
 refine aG hL fun hd=>?_
 simp only[jL,jM,jA,jB,jN,jO,jP,jQ,V.undef]
 repeat (first|with_reducible refine aN ?_|with_reducible refine aI ?_|with_reducible refine aP ?_|with_reducible refine aB ?_|with_reducible refine aC ?_|with_reducible refine aO ?_|(refine aR rfl (by simp only[jK,go_sem,reduceIte,jA,jB,jC,jD,reduceCtorEq,jE,jF];try omega) ?_;simp only[jK,go_sem,reduceIte,jA,jB,jC,jD,reduceCtorEq,jE,jF])|(with_reducible refine aK ?_))
 refine pK (fun p:Nat×Hp×Nat=>p.1≤l.length∧J p.1 p.2.1 p.2.2∧aT p.2.1 p.2.2) (fun p=>⟨aD 16 0 [(0, .yld yn),(5, .sl k own (l.map e)),(6, .int .i64 l.length),(7, .int .i64 p.1)],p.2.1,p.2.2⟩) (fun p=>l.length-p.1) (0,h0,nx0) ⟨Nat.zero_le _,h0J,hd0⟩ ?_ ?_
 ·refine qO (by simp only[WkL,aD,jH,jI,jJ,go_sem,reduceIte,jA,jB,jC,jD,reduceCtorEq,jE,jF]) ?_ ?_
  ·exact Hp.le_refl _
  exact Nat.le_refl _
 rintro⟨i,h,nx⟩ ⟨hi,hj,hdm⟩
 simp only at hi hj hdm
 simp only[aD,go_sem,reduceIte,jA,jB,jC,jD,reduceCtorEq,jE,jF]
 repeat (first|with_reducible refine aN ?_|with_reducible refine aI ?_|with_reducible refine aP ?_|with_reducible refine aB ?_|with_reducible refine aC ?_|with_reducible refine aO ?_|(refine aR rfl (by simp only[ go_sem,reduceIte,jA,jB,jC,jD,reduceCtorEq,jE,jF];try omega) ?_;simp only[ go_sem,reduceIte,jA,jB,jC,jD,reduceCtorEq,jE,jF])|(with_reducible refine aK ?_))
 refine fY _ rfl (fun hc=>?_) (fun hc=>?_)
 ·have hlt:i<l.length:=by simpa using hc
  have hg:=fE e l i hlt
  repeat (first|with_reducible refine aN ?_|with_reducible refine aI ?_|with_reducible refine aP ?_|with_reducible refine aB ?_|with_reducible refine aC ?_|with_reducible refine aO ?_|(refine aR rfl (by simp only[jK,jG,hg,hfit,hz,aY (hfit _),aU hz (hfit _),go_sem,reduceIte,jA,jB,jC,jD,reduceCtorEq,jE,jF];try omega) ?_;simp only[jK,jG,hg,hfit,hz,aY (hfit _),aU hz (hfit _),go_sem,reduceIte,jA,jB,jC,jD,reduceCtorEq,jE,jF])|(with_reducible refine aK ?_))
  refine tL rfl ?_
  have hy:=(hJ i (by simpa using hlt) h (nx+1+1) (hnJ i h nx _ hj (by omega)) (hdm.up (by omega))).dom
  simp only[List.getElem_map] at hy
  refine(hy.weaken ?_).mono ?_
  ·exact aW hdm (aW hdm (Hp.le_refl _) (by omega) _) (by omega) _
  rintro v h' nx' hnx ⟨hq,hdm',_⟩
  unfold gM
  rcases hq with⟨rfl,hj'⟩|⟨rfl,hD⟩
  ·simp only[go_sem,reduceIte,jA,jB,jC,jD,reduceCtorEq,jE,jF]
   repeat (first|with_reducible refine aN ?_|with_reducible refine aI ?_|with_reducible refine aP ?_|with_reducible refine aB ?_|with_reducible refine aC ?_|with_reducible refine aO ?_|(refine aR rfl (by simp only[ go_sem,reduceIte,jA,jB,jC,jD,reduceCtorEq,jE,jF];try omega) ?_;simp only[ go_sem,reduceIte,jA,jB,jC,jD,reduceCtorEq,jE,jF])|(with_reducible refine aK ?_))
   refine fY _ rfl (fun hc=>?_) (fun hc=>?_)
   ·cases hc
   repeat (first|with_reducible refine aN ?_|with_reducible refine aI ?_|with_reducible refine aP ?_|with_reducible refine aB ?_|with_reducible refine aC ?_|with_reducible refine aO ?_|(refine aR rfl (by simp only[ go_sem,reduceIte,jA,jB,jC,jD,reduceCtorEq,jE,jF];try omega) ?_;simp only[ go_sem,reduceIte,jA,jB,jC,jD,reduceCtorEq,jE,jF])|(with_reducible refine aK ?_))
   refine lT (i+1,h',nx') ⟨hlt,hj',hdm'⟩ (by simp only;omega) ?_
   rw[cS (by omega) (by omega)]
   refine qO (by simp only[WkL,aD,jH,jI,jJ,go_sem,reduceIte,jA,jB,jC,jD,reduceCtorEq,jE,jF]) ?_ ?_
   ·exact Hp.le_refl _
   exact Nat.le_refl _
  simp only[go_sem,reduceIte,jA,jB,jC,jD,reduceCtorEq,jE,jF]
  repeat (first|with_reducible refine aN ?_|with_reducible refine aI ?_|with_reducible refine aP ?_|with_reducible refine aB ?_|with_reducible refine aC ?_|with_reducible refine aO ?_|(refine aR rfl (by simp only[ go_sem,reduceIte,jA,jB,jC,jD,reduceCtorEq,jE,jF];try omega) ?_;simp only[ go_sem,reduceIte,jA,jB,jC,jD,reduceCtorEq,jE,jF])|(with_reducible refine aK ?_))
  refine fY _ rfl (fun hc=>?_) (fun hc=>?_)
  ·refine cV ?_
   repeat (first|with_reducible refine lS ?_|with_reducible refine jT ?_|with_reducible refine kF ?_|with_reducible refine kG ?_)
   exact⟨h',Hp.le_refl _, .inr hD⟩
  cases hc
 have hge:i=l.length:=by have:¬i<l.length:=by simpa using hc
                         omega
 subst hge
 refine oB ?_
 repeat (first|with_reducible refine mT ?_|with_reducible refine mH ?_|with_reducible refine mI ?_|with_reducible refine bT (by decide) ?_|with_reducible refine lJ ?_|with_reducible refine aB ?_)
 exact⟨h,Hp.le_refl _, .inl hj⟩
end
theorem yQ{P:Program}{k:Sh}{f f0:Nat}(hL:aH P f=some (LB.Values k f0))(own:Own)(l:List V)(hn:∀L,dY L l)(h:Hp):
 cM P f [.sl k own l] h (.fn (.func f0) [] [.ept .leaf [(V.sl k own l).loose] 0 0]):=by
 refine bL (fun L=>?_) fun h' nx hh=>aAy (aG hL fun hd=>?_)
 ·cases own<;>simp[V.loose,V.names,dY,hn L]
 simp only[jL,jM,jA,jB,jN,jO,jP,jQ,V.undef]
 repeat (first|with_reducible refine aN ?_|with_reducible refine aI ?_|with_reducible refine aP ?_|with_reducible refine aB ?_|with_reducible refine aC ?_|with_reducible refine aO ?_|(refine aR rfl (by simp only[ go_sem,reduceIte,jA,jB,jC,jD,reduceCtorEq,jE,jF];try omega) ?_;simp only[ go_sem,reduceIte,jA,jB,jC,jD,reduceCtorEq,jE,jF])|(with_reducible refine aK ?_))
 refine cV (aM _ (Hp.le_refl _) ⟨nx,Nat.le_refl _,?_,rfl⟩)
 simp only[go_sem,reduceIte,jA,jB,jC,jD,reduceCtorEq,jE,jF]
/-
Contracts of functions of Go's library:slices.AppendSeq,Collect,Equal,Clone,cmp.Compare and cmp.Or of int's. No program in sight. No conditions beyond those named.
-/
section
variable{P:Program}{k:Sh}{α:Type}(e:α→V)(hfit:∀x,(e x).fits k=true)
include hfit
theorem aAV{f bs:Nat}{z:V}(hL:aH P f=some (LB.AppendSeq k z bs))(hz:z.fits k=true)(hbs:bs≤140737)(g:Nat)(caps:List V)(hb:Hp)(xs:List α)(hit:aEx P g caps hb (xs.map fun x=>[e x]))(hl:xs.length≤100000000)
 (h':Hp) (nx:Nat) (hh:hb.has h'):
 bM P f [.sl k .nil [], .fn (.func g) [] caps] h' nx fun v h'' _=>(xs=[]∧v= .sl k .nil []∧h''=h')∨(xs≠ []∧∃id,nx≤id∧v= .rs id k 0 xs.length∧h''=h'.set id (.arr k (xs.map e))):=by
 refine aG hL fun hd=>?_
 simp only[jL,jM,jA,jB,jN,jO,jP,jQ,V.undef]
 repeat (first|with_reducible refine aN ?_|with_reducible refine aI ?_|with_reducible refine aP ?_|with_reducible refine aB ?_|with_reducible refine aC ?_|with_reducible refine aO ?_|(refine aR rfl (by simp only[ go_sem,reduceIte,jA,jB,jC,jD,reduceCtorEq,jE,jF];try omega) ?_;simp only[ go_sem,reduceIte,jA,jB,jC,jD,reduceCtorEq,jE,jF])|(with_reducible refine aK ?_))
 have hnone:∀n,nx≤n→h' n=none:=fun n hn=>aT.none hd hn
 obtain⟨I,hI⟩:∃I:Nat→Hp→Nat→Prop,∀i h nx1,I i h nx1↔(h'.le h∧∃acc,h nx=some (.arr .leaf [acc])∧((i=0∧acc= .sl k .nil [])∨(0<i∧∃id,nx≤id∧id≠nx∧id≠nx+1∧acc= .rs id k 0 i∧h id=some (.arr k ((xs.take i).map e))))):=⟨_,fun _ _ _=>Iff.rfl⟩
 refine rI hit rfl (by simp) (aT.set hd (by simp) (by simp) _) I (fun _ _ _=>False) ?_ ?_ ?_ (fun _ _ _ _ h=>h.elim) (fun _ _ _ _ h=>h.elim) ?_ ?_ ?_ (fun _ _ _ h=>h.elim)
 ·intro i h nx1 hi
  exact wV hh (aHT ((hI _ _ _).1 hi).1)
 ·exact fun i h nx1 nx2 hi _=>(hI _ _ _).2 ((hI _ _ _).1 hi)
 ·intro i h nx1 b hi
  obtain⟨hle,acc,h1,h2⟩:=(hI _ _ _).1 hi
  refine(hI _ _ _).2 ⟨iR hle (hnone _ (by simp)) b,acc,?_,?_⟩
  ·simp only[Hp.set_app]
   rw[if_neg (by simp)];exact h1
  rcases h2 with h2|⟨hi,id,h3,h4,h5,h6,h7⟩
  ·exact .inl h2
  refine .inr ⟨hi,id,h3,h4,h5,h6,?_⟩
  simp only[Hp.set_app]
  rw[if_neg h5];exact h7
 ·exact(hI _ _ _).2 ⟨iR (Hp.le_refl _) (hnone _ (by simp)) _, .sl k .nil [],by simp[Hp.set_app], .inl ⟨rfl,rfl⟩⟩
 ·intro i hi h nx1 X hii hnx hX hdm
  obtain⟨hle,acc,h1,h2⟩:=(hI _ _ _).1 hii
  simp only at hnx hX
  have hi':i<xs.length:=by simpa using hi
  have hnx0:nx<nx1:=by omega
  have e1:(nx=nx1)=False:=by simp;omega
  have e2:(nx+1=nx1)=False:=by simp;omega
  have e4:(nx1=nx+1)=False:=by simp;omega
  have e6:(nx1=nx)=False:=by simp;omega
  have e7:(nx=nx1+2)=False:=by simp;omega
  have e8:(nx+1=nx1+2)=False:=by simp;omega
  have e9:(nx=nx1+3)=False:=by simp;omega
  have e10:(nx+1=nx1+3)=False:=by simp;omega
  have hx:(xs.map fun x=>[e x])[i]=[e xs[i]]:=by simp
  simp only[putAll,hx,List.set_cons_succ,List.set_cons_zero]
  repeat (first|with_reducible refine aN ?_|with_reducible refine aI ?_|with_reducible refine aP ?_|with_reducible refine aB ?_|with_reducible refine aC ?_|with_reducible refine aO ?_|(refine aR rfl (by simp only[hz,hfit,e1,e2,e4,go_sem,reduceIte,jA,jB,jC,jD,reduceCtorEq,jE,jF];try omega) ?_;simp only[hz,hfit,e1,e2,e4,go_sem,reduceIte,jA,jB,jC,jD,reduceCtorEq,jE,jF])|(with_reducible refine aK ?_))
  refine rS (by simp only[e1,e2,e4,go_sem,reduceIte,jA,jB,jC,jD,reduceCtorEq,jE,jF];exact hX) fun X'=>?_
  simp only[go_sem,reduceIte,jA,jB,jC,jD,reduceCtorEq,jE,jF]
  refine aI (aO ?_)
  have hone:∀(h'':Hp) (nx2 id:Nat),h'.le h''→nx1≤id→h'' nx=some (.arr .leaf [.rs id k 0 (i+1)])→h'' (nx+1)=some X'→h'' id=some (.arr k ((xs.take (i+1)).map e))→∀sl,kL 1 (tH (nx+1) X' (I (i+1)) (fun _ _ _=>False)) .normal ⟨sl,h'',nx2⟩:=by
   intro h'' nx2 id q1 q2 q3 q4 q5 sl
   exact aC (oY q4 ((hI _ _ _).2 ⟨q1,_,q3, .inr ⟨by omega,id,by omega,by omega,by omega,rfl,q5⟩⟩))
  generalize hQ:kL 1 (tH (nx+1) X' (I (i+1)) (fun _ _ _=>False)) .normal=Qn at hone⊢
  have hle2:∀n b,nx1≤n→∀{h2:Hp},h'.le h2→h'.le (h2.set n b):=fun n b hn h2 q=>iR q (hnone n (by omega)) b
  have hle3:∀n,nx≤n→∀{h2:Hp},h'.le h2→∀b,h'.le (h2.set n b):=fun n hn h2 q b=>iR q (hnone n hn) b
  rcases h2 with⟨rfl,rfl⟩|⟨hpos,id,h3,h4,h5,rfl,h7⟩
  ·refine bR 3 rfl (by simp only[h1,hfit,hz,e1,e2,e4,e6,go_sem,reduceIte,jA,jB,jC,jD,reduceCtorEq,jE,jF]) ?_
   simp only[h1,hfit,hz,e1,e2,e4,e6,go_sem,reduceIte,jA,jB,jC,jD,reduceCtorEq,jE,jF]
   refine nC rfl rfl (by simp) (by simp only[jL,jM];omega) ?_
   refine aR rfl (by simp only[h1,hfit,hz,e1,e2,e4,e6,e7,e8,e9,e10,go_sem,reduceIte,jA,jB,jC,jD,reduceCtorEq,jE,jF];try omega) ?_
   simp only[h1,hfit,hz,e1,e2,e4,e6,e7,e8,e9,e10,go_sem,reduceIte,jA,jB,jC,jD,reduceCtorEq,jE,jF]
   refine hone _ _ (nx1+3) ?_ (by omega) ?_ ?_ ?_ _
   ·repeat (first|exact hle|refine hle3 _ (by omega) ?_ _)
   ·simp only[h1,e1,e2,e4,e6,e7,e8,e9,e10,go_sem,reduceIte,jA,jB,jC,jD,reduceCtorEq,jE,jF]
   ·simp only[h1,e1,e2,e4,e6,e7,e8,e9,e10,go_sem,reduceIte,jA,jB,jC,jD,reduceCtorEq,jE,jF]
   have:xs.take (0+1)=[xs[0]]:=by
    cases xs with
    |nil=>simp at hi'
    |cons x l=>simp
   rw[this]
   simp only[List.map_cons,List.map_nil,go_sem,reduceIte,jA,jB,jC,jD,reduceCtorEq,jE,jF]
   have:(nx1+3=nx)=False:=by simp;omega
   simp only[this,go_sem,reduceIte,jA,jB,jC,jD,reduceCtorEq,jE,jF]
  have hid:id<nx1:=hdm _ _ h7
  have f1:(id=nx1)=False:=by simp;omega
  have f2:(id=nx1+2)=False:=by simp;omega
  have f3:(id=nx)=False:=by simp;omega
  have f4:(id=nx+1)=False:=by simp;omega
  have f5:(id=nx1+3)=False:=by simp;omega
  have f6:(nx=id)=False:=by simp;omega
  have f7:(nx+1=id)=False:=by simp;omega
  have f8:(nx1+3=id)=False:=by simp;omega
  have hlen:((xs.take i).map e).length=i:=by simp;omega
  have hb1:(i+1)*bs≤140737488355328:=xD (by omega) hbs
  refine aR rfl (by simp only[h1,h7,hlen,hb1,hfit,hz,e1,e2,e4,e6,e7,e8,e9,e10,f1,f2,f3,f4,f5,f6,f7,f8,go_sem,reduceIte,jA,jB,jC,jD,reduceCtorEq,jE,jF];try omega) ?_
  simp only[h1,h7,hlen,hb1,hfit,hz,e1,e2,e4,e6,e7,e8,e9,e10,f1,f2,f3,f4,f5,f6,f7,f8,go_sem,reduceIte,jA,jB,jC,jD,reduceCtorEq,jE,jF]
  refine hone _ _ (nx1+3) ?_ (by omega) ?_ ?_ ?_ _
  ·repeat (first|exact hle|refine hle3 _ (by omega) ?_ _|refine qE ?_ (hnone _ h3))
  ·simp only[h1,e1,e2,e4,e6,e7,e8,e9,e10,go_sem,reduceIte,jA,jB,jC,jD,reduceCtorEq,jE,jF]
  ·simp only[h1,e1,e2,e4,e6,e7,e8,e9,e10,f6,f7,go_sem,reduceIte,jA,jB,jC,jD,reduceCtorEq,jE,jF]
  have:(nx1+3=nx)=False:=by simp;omega
  rw[List.take_succ_eq_append_getElem hi',List.map_append]
  simp only[this,List.map_cons,List.map_nil,go_sem,reduceIte,jA,jB,jC,jD,reduceCtorEq,jE,jF]
 intro h nx1 hii hnx hdm
 obtain⟨hle,acc,h1,h2⟩:=(hI _ _ _).1 hii
 simp only at hnx
 have e1:(nx=nx+1)=False:=by simp
 repeat (first|with_reducible refine aN ?_|with_reducible refine aI ?_|with_reducible refine aP ?_|with_reducible refine aB ?_|with_reducible refine aC ?_|with_reducible refine aO ?_|(refine aR rfl (by simp only[h1,e1,go_sem,reduceIte,jA,jB,jC,jD,reduceCtorEq,jE,jF];try omega) ?_;simp only[h1,e1,go_sem,reduceIte,jA,jB,jC,jD,reduceCtorEq,jE,jF])|(with_reducible refine aK ?_))
 rcases h2 with⟨h2,rfl⟩|⟨hpos,id,h3,h4,h5,rfl,h7⟩
 ·refine cV (aM h' ?_ (.inl ⟨?_,?_,rfl⟩))
  ·exact qE hle (hnone _ (by simp))
  ·cases xs with
   |nil=>rfl
   |cons x l=>simp at h2
  simp only[go_sem,reduceIte,jA,jB,jC,jD,reduceCtorEq,jE,jF]
 have hne:xs≠ []:=by rintro rfl;simp at hpos
 refine cV (aM (h'.set id (.arr k (xs.map e))) ?_ (.inr ⟨hne,id,h3,?_,rfl⟩))
 ·refine aBc (qE hle (hnone _ (by simp))) ?_
  simp only[Hp.del_app]
  rw[if_neg h5,h7]
  simp
 simp only[jK,go_sem,reduceIte,jA,jB,jC,jD,reduceCtorEq,jE,jF]
theorem aDt{f f0 bs:Nat}{z:V}(hL:aH P f=some (LB.Collect k f0))(hL0:aH P f0=some (LB.AppendSeq k z bs))(hz:z.fits k=true)(hbs:bs≤140737)(g:Nat)(caps:List V)(hb:Hp)(xs:List α)(hit:aEx P g caps hb (xs.map fun x=>[e x]))(hl:xs.length≤100000000)
 (h':Hp) (nx:Nat) (hh:hb.has h'):
 bM P f [.fn (.func g) [] caps] h' nx fun v h'' _=>(xs=[]∧v= .sl k .nil []∧h''=h')∨(xs≠ []∧∃id,nx≤id∧v= .rs id k 0 xs.length∧h''=h'.set id (.arr k (xs.map e))):=by
 refine aG hL fun hd=>?_
 simp only[jL,jM,jA,jB,jN,jO,jP,jQ,V.undef]
 repeat (first|with_reducible refine aN ?_|with_reducible refine aI ?_|with_reducible refine aP ?_|with_reducible refine aB ?_|with_reducible refine aC ?_|with_reducible refine aO ?_|(refine aR rfl (by simp only[ go_sem,reduceIte,jA,jB,jC,jD,reduceCtorEq,jE,jF];try omega) ?_;simp only[ go_sem,reduceIte,jA,jB,jC,jD,reduceCtorEq,jE,jF])|(with_reducible refine aK ?_))
 refine bU ((aAV e hfit hL0 hz hbs g caps hb xs hit hl _ _ hh).mono ?_)
 intro v h'' nx' hnx hv
 unfold gM
 simp only[go_sem,reduceIte,jA,jB,jC,jD,reduceCtorEq,jE,jF]
 repeat (first|with_reducible refine aN ?_|with_reducible refine aI ?_|with_reducible refine aP ?_|with_reducible refine aB ?_|with_reducible refine aC ?_|with_reducible refine aO ?_|(refine aR rfl (by simp only[ go_sem,reduceIte,jA,jB,jC,jD,reduceCtorEq,jE,jF];try omega) ?_;simp only[ go_sem,reduceIte,jA,jB,jC,jD,reduceCtorEq,jE,jF])|(with_reducible refine aK ?_))
 exact cV (aM h'' (Hp.le_refl _) hv)
end
end Go.Proofs.YthikfnmcjipobaaGreat
