/-
Texts of this proof,one behind the other. No conditions.
-/
import Derived.Test.YtecepaehmojpgaaGreatKcb
set_option linter.unusedSimpArgs false
set_option linter.unusedVariables false
set_option linter.unusedSectionVars false
namespace Go.Proofs.YtecepaehmojpgaaGreat
open Go.RowKit
theorem aKo{K:Ker}{h:Hp}(hr:Rel K h){n a:Nat}{k:Sh}{es:List V}{cv:Value}(hn:h n=some (.arr k es))(ha:¬K.live a)(hv:VR K (.rs n k 0 es.length) cv):
 ∃K',K'.w=K.w∧K.le K'∧(∀m,K'.live m→K.live m∨m=a)∧VR K' (.sl k (.tok a) es) cv∧Rel K' ((h.del n).set a .tip):=by
 have hb:=hr.blk n _ hn
 cases hb with
 |arr _ _ c T hh hcs himm hfit hcv=>
  cases hv with
  |rs _ _ _ _ cap hl hcap hm=>
   obtain⟨T',m,hm1,hm2⟩:=hm
   have hcm:m=c.size:=by simp[World.shape?,hh] at hm1;exact hm1.2.symm
   subst hcm
   have hblk:K.mu n<K.w.heap.size:=by
    rcases Nat.lt_or_ge (K.mu n) K.w.heap.size with hlt|hge
    ·exact hlt
    rw[Array.getElem?_eq_none hge] at hh;exact absurd hh (by simp)
   have hle:K.le (K.claim a (K.mu n) (es.length*k.size)):=K.le_claim ha (by rw[himm];exact Nat.zero_le _)
   have hmu:(K.claim a (K.mu n) (es.length*k.size)).mu a=K.mu n:=by simp[Ker.claim]
   refine⟨K.claim a (K.mu n) (es.length*k.size),rfl,hle,fun m hm=>hm.symm,?_,hr.claim hn ha (by rw[himm];exact Nat.zero_le _) (.tip c T (by rw[hmu];exact hh) (by simp[Ker.claim]) (by simp only[Ker.claim,if_true];exact hcs))⟩
   have:=VR.sl (K:=K.claim a (K.mu n) (es.length*k.size)) k (.tok a) es (K.mu n) 0 cap (fun j=>c.getD j Go.undef) hblk hfit
    (fun j hj=>by
      show K.w.cell? _=_
      simp only[World.cell?,hh,Nat.zero_add]
      rw[Array.getD_eq_getD_getElem?,Array.getElem?_eq_getElem (by omega)]
      rfl)
    (fun j hj=> .inr (by simp only[Ker.claim,if_true];omega))
    (fun i hi j hj=>(hcv i hi j hj).mono hle) hcap (by simp) (by simp)
    (fun m hm=>by
      injection hm with hm
      subst hm
      refine⟨.inl rfl, .inr ⟨hmu,by simp[Ker.claim],T',c.size,?_,by simpa using Nat.le_of_eq hm2⟩⟩
      exact hm1)
   simpa using this
theorem Hp.set_app(h:Hp)(n:Nat)(b:Blk)(m:Nat):(h.set n b) m=if m=n then some b else h m:=rfl
theorem Hp.del_app(h:Hp)(n m:Nat):(h.del n) m=if m=n then Option.none else h m:=rfl
def aM(h:Hp)(nx:Nat):Prop:=∀m b,h m=some b→m<nx
theorem aW.dom{P:Program}{f:FuncId}{args:List V}{h:Hp}{nx:Nat}{R:V→Hp→Nat→Prop}(c:aW P f args h nx R):aW P f args h nx fun v h' nx'=>R v h' nx'∧aM h' nx'∧nx≤nx':=
 ⟨c.1,fun K cargs hl hrel hv=>(c.2 K cargs hl hrel hv).mono fun _ _ ⟨K',v,cv,h',nx',a,b,c,d,e,g,i,j⟩=>⟨K',v,cv,h',nx',a,b,c,d,e,g,i,j,fun m b hm=>(g m (e.lt m b hm)).1,i⟩⟩
theorem fH.dom{P:Program}{n:Nat}{args:List V}{h:Hp}{nx:Nat}{R:V→Hp→Nat→Prop}(c:fH P n args h nx R):fH P n args h nx fun v h' nx'=>R v h' nx'∧aM h' nx'∧nx≤nx':=
 fun m K cargs hl hn hrel hv=>(c m K cargs hl hn hrel hv).mono fun _ _ ⟨K',v,cv,h',nx',a,b,c,d,e,g,i,j⟩=>⟨K',v,cv,h',nx',a,b,c,d,e,g,i,j,fun m b hm=>(g m (e.lt m b hm)).1,i⟩
theorem aM.set{h:Hp}{nx nx' n:Nat}(hd:aM h nx)(hn:n<nx')(hle:nx≤nx')(b:Blk):aM (h.set n b) nx':=fun m c e=>by
 unfold Hp.set at e
 split at e
 ·omega
 have:=hd m c e;omega
theorem aM.del{h:Hp}{nx n:Nat}(hd:aM h nx):aM (h.del n) nx:=fun m c e=>by
 unfold Hp.del at e
 split at e
 ·cases e
 exact hd m c e
theorem aM.up{h:Hp}{nx nx':Nat}(hd:aM h nx)(hle:nx≤nx'):aM h nx':=fun m c e=>by have:=hd m c e;omega
theorem aM.le{h h':Hp}{nx:Nat}(hd:aM h' nx)(hle:h.le h'):aM h nx:=fun m c e=>hd m c (hle m c e)
theorem aGk{h h':Hp}{n:Nat}{b:Blk}(hle:h.le h')(hn:h' n=some b):(h.set n b).le h':=fun m c e=>by
 unfold Hp.set at e
 split at e
 ·rename_i em;subst em;injection e with e;subst e;exact hn
 exact hle m c e
theorem kB{h h':Hp}{n:Nat}(hle:h.le h')(hn:h n=none)(b:Blk):h.le (h'.set n b):=fun m c e=>by
 unfold Hp.set
 split
 ·rename_i em;subst em;rw[hn] at e;cases e
 exact hle m c e
theorem uW{h h':Hp}{n:Nat}(hle:h.le h')(hn:h n=none):h.le (h'.del n):=fun m c e=>by
 unfold Hp.del
 split
 ·rename_i em;subst em;rw[hn] at e;cases e
 exact hle m c e
theorem aM.none{h:Hp}{nx n:Nat}(hd:aM h nx)(hn:nx≤n):h n= .none:=by
 cases e:h n with
 |none=>rfl
 |some b=>exact absurd (hd n b e) (by omega)
theorem aKm{h h':Hp}(hle:h.le h'):Hp.has h h':=fun n b e _=>hle n _ e
theorem Hp.le_trans{a b c:Hp}(h:a.le b)(h':b.le c):a.le c:=fun n x e=>h' n x (h n x e)
def aHr(P:Program)(gf:Nat)(caps:List V)(hb:Hp)(xs:List (List V)):Prop:=
 ∀(yn:Nat) (J:Nat→Hp→Nat→Prop) (D:Hp→Nat→Prop),
  (∀i h nx,J i h nx→hb.has h)→(∀i h nx nx',J i h nx→nx≤nx'→J i h nx')→(∀h nx nx',D h nx→nx≤nx'→D h nx')→
  (∀i (hi:i<xs.length) h nx,J i h nx→aM h nx→fH P yn xs[i] h nx fun v h' nx'=>(v= .bool true∧J (i+1) h' nx')∨(v= .bool false∧D h' nx'))→
  ∀h nx,J 0 h nx→aM h nx→aW P gf (.yld yn::caps) h nx fun _ h' nx'=>J xs.length h' nx'∨D h' nx'
def aKW(r:Nat)(X:Blk)(J:St→Prop):cD→St→Prop
 | .normal,s=>s.h r=some X∧J s
 |_,_=>False
def aBS(r:Nat)(X:Blk)(I:Hp→Nat→Prop)(E:cD→Hp→Nat→Prop):cD→St→Prop
 | .normal,s=>s.h r=some X∧I s.h s.nx
 |e,s=>s.h r=some X∧E e s.h s.nx
theorem aDV{r:Nat}{X:Blk}{J:St→Prop}{s:St}(h:s.h r=some X)(hj:J s):aKW r X J .normal s:=⟨h,hj⟩
theorem aAp{r:Nat}{X:Blk}{I:Hp→Nat→Prop}{E:cD→Hp→Nat→Prop}{s:St}(h:s.h r=some X)(hi:I s.h s.nx):aBS r X I E .normal s:=⟨h,hi⟩
theorem yG{P:Program}{g:aL}{ps:List Nat}{as b:bE}{Q:cD→St→Prop}{s:St}{gf:Nat}{caps:List V}{hb:Hp}{xs:List (List V)}(hit:aHr P gf caps hb xs)(hg:g.ev s.sl= .fn (.func gf) [] caps)
 (hlen:∀x∈xs,x.length=ps.length) (hd:aM s.h s.nx) (I:Nat→Hp→Nat→Prop) (E:cD→Hp→Nat→Prop)
 (hbI:∀i h nx,I i h nx→hb.has h) (hnI:∀i h nx nx',I i h nx→nx≤nx'→I i h nx') (hsI:∀i h nx b,I i h nx→I i (h.set s.nx b) nx)
 (hnE:∀e h nx nx',E e h nx→nx≤nx'→E e h nx') (hsE:∀e h nx b,E e h nx→E e (h.set s.nx b) nx)
 (h0:I 0 s.h (s.nx+1))
 (hround:∀i (hi:i<xs.length) h nx X,I i h nx→s.nx<nx→h s.nx=some X→aM h nx→
   lwp P as (aKW s.nx X fun s1=>∀X',lwp P b (aBS s.nx X' (I (i+1)) E) ⟨s1.sl,s1.h.set s.nx X',s1.nx⟩) ⟨putAll s.sl ps xs[i],h,nx⟩)
 (hend:∀h nx,I xs.length h nx→s.nx<nx→aM h nx→Q .normal ⟨s.sl,h.del s.nx,nx⟩)
 (hex:∀e h nx,E e h nx→s.nx<nx→aM h nx→(e= .ret∨∃id,e= .exit id)→Q e ⟨s.sl,h.del s.nx,nx⟩):lwp P (.range g ps as b) Q s:=by
 simp only[lwp,hg]
 intro rcd U hpl hY
 have hset:∀(h:Hp) (b:Blk),(h.set s.nx b) s.nx=some b:=fun h b=>by simp[Hp.set]
 refine((hit s.nx (fun i h nx=>I i h nx∧h s.nx=some (.obj (rcd .ready none) U))
  (fun h nx=>(h s.nx=some (.obj (rcd .done (some .ret)) U)∧E .ret h nx)∨∃id,h s.nx=some (.obj (rcd .done (some (.exit id))) U)∧E (.exit id) h nx)
  (fun i h nx hj=>hbI i h nx hj.1) (fun i h nx nx' hj hle=>⟨hnI i h nx nx' hj.1 hle,hj.2⟩)
  (fun h nx nx' hD hle=>hD.imp (fun hD=>⟨hD.1,hnE _ _ _ _ hD.2 hle⟩) (fun⟨id,hD⟩=>⟨id,hD.1,hnE _ _ _ _ hD.2 hle⟩)) ?_ _ (s.nx+1) ⟨hsI _ _ _ _ h0,hset _ _⟩ ?_).dom).mono ?_
 ·rintro i hi h nx ⟨hI,hr⟩ hdom
  refine hY xs[i] h nx _ (hlen _ (List.getElem_mem _)) hr ?_
  refine oU ?_ (hround i hi h nx _ hI (hdom _ _ hr) hr hdom)
  intro e s1 hq
  cases e with
  |exit id=>exact hq.elim
  |ret=>exact hq.elim
  |normal=>
   refine⟨hq.1,oU ?_ (hq.2 (.obj (rcd .busy none) U))⟩
   intro e s2 hq2
   cases e with
   |normal=>exact⟨hq2.1, .inl ⟨rfl,hsI _ _ _ _ hq2.2,hset _ _⟩⟩
   |ret=>exact⟨hq2.1, .inr ⟨rfl, .inl ⟨hset _ _,hsE _ _ _ _ hq2.2⟩⟩⟩
   |exit id=>exact⟨hq2.1, .inr ⟨rfl, .inr ⟨id,hset _ _,hsE _ _ _ _ hq2.2⟩⟩⟩
 ·intro m b hm
  unfold Hp.set at hm
  split at hm
  ·omega
  have:=hd m b hm;omega
 rintro v h' nx' _ ⟨(⟨hI,hr⟩|(⟨hr,hE⟩|⟨id,hr,hE⟩)),hdom,hle⟩
 ·exact .inl ⟨hr,hend _ _ hI (by omega) hdom⟩
 ·exact .inr (.inl ⟨hr,hex _ _ _ hE (by omega) hdom (.inl rfl)⟩)
 exact .inr (.inr ⟨id,hr,hex _ _ _ hE (by omega) hdom (.inr ⟨id,rfl⟩)⟩)
def bZ{ι:Type}(sl:ι→List V)(C:ι→Hp→Nat→Prop)(m:ι→Nat)(n:Nat)(Q:cD→St→Prop):cD→St→Prop
 | .normal,s=>∃s',aAI s s'∧∃i,m i<n∧WkL s'.sl (sl i)∧C i s'.h s'.nx
 |e,s=>Q e s
section
variable{P:Program}{Q:cD→St→Prop}{s:St}{ι:Type}{sl:ι→List V}{C:ι→Hp→Nat→Prop}{m:ι→Nat}{n:Nat}
theorem aI{sl0:List V}{h:Hp}{nx:Nat}(i:ι)(hm:m i<n)(hC:C i h nx)(hw:WkL sl0 (sl i)):bZ sl C m n Q .normal ⟨sl0,h,nx⟩:=⟨_,(Wk.refl _).tell,i,hm,hw,hC⟩
theorem iE{id:Nat}(h:Q (.exit id) s):bZ sl C m n Q (.exit id) s:=h
theorem fB(h:Q .ret s):bZ sl C m n Q .ret s:=h
theorem aY{c:bE}(sl:ι→List V)(C:ι→Hp→Nat→Prop)(m:ι→Nat)(i0:ι)(h0:C i0 s.h s.nx)(hw:WkL s.sl (sl i0))(hr:∀i h nx,C i h nx→lwp P c (bZ sl C m (m i) Q) ⟨sl i,h,nx⟩):lwp P (.loop c) Q s:=by
 refine mO (fun p:ι×Hp×Nat=>C p.1 p.2.1 p.2.2) (fun p=>⟨sl p.1,p.2.1,p.2.2⟩) (fun p=>m p.1) (i0,s.h,s.nx) h0 ⟨hw,Hp.le_refl _,Nat.le_refl _⟩ ?_
 rintro⟨i,h,nx⟩ hC
 refine oU ?_ (hr i h nx hC)
 intro e s' hq
 cases e with
 |normal=>
  obtain⟨s2,h0,j,h1,h2,h3⟩:=hq
  exact⟨(j,s2.h,s2.nx),h3,h1,h0.trans (Wk.tell ⟨h2,Hp.le_refl _,Nat.le_refl _⟩)⟩
 |exit id=>exact hq
 |ret=>exact hq
end
theorem aM.set2{h:Hp}{nx n:Nat}(hd:aM h nx)(hn:n<nx)(b:Blk):aM (h.set n b) nx:=hd.set hn (Nat.le_refl _) b
def aA.plain(o:aA):Bool:=match o.g with
 |none=> !o.op.isCall
 |some _=>false
def wC:List aA→List aA
 | []=>[]
 |o::r=>match o.plain with
  |true=>o::wC r
  |false=>[]
def vB:List aA→List aA
 | []=>[]
 |o::r=>match o.plain with
  |true=>vB r
  |false=>o::r
theorem aFM{P:Program}{Q:St→Prop}:∀(l:List aA) (s:St),oS (wC l) s→aV P (vB l) Q (iL (wC l) s)→aV P l Q s
 | [],s,_,h=>h
 |o::r,s,ho,h=>by
  cases hc:o.plain with
  |false=>simp only[wC,vB,hc] at ho h;exact h
  |true=>
   simp only[wC,vB,hc] at ho h
   have hcall:o.op.isCall=false:=by
    unfold aA.plain at hc
    split at hc
    ·simpa using hc
    cases hc
   exact pU hcall ho.1 (aFM r _ ho.2 h)
theorem aIh{P:Program}{Q:St→Prop}{s:St}:aV P [] Q s=Q s:=rfl
theorem dL{P:Program}{Q:St→Prop}{s:St}(h:Q s):aV P [] Q s:=h
theorem eW{P:Program}{Q:St→Prop}{o:aA}{r:List aA}{s:St}(_:o.plain=true)(ho:oS (wC (o::r)) s)(h:aV P (vB (o::r)) Q (iL (wC (o::r)) s)):aV P (o::r) Q s:=aFM _ s ho h
theorem nW{P:Program}{Q:St→Prop}{s:St}{dst:Option Nat}{k:Sh}{bs:Nat}{x y:aL}{r:List aA}{ys:List V}(hx:x.ev s.sl= .sl k .nil [])(hy:dX s.h (y.ev s.sl)=some (k,ys))(hne:ys≠ [])(hb:ys.length*bs≤140737488355328)
 (h:aV P r Q ⟨bF s.sl dst (.rs s.nx k 0 ys.length),s.h.set s.nx (.arr k ys),s.nx+1⟩):aV P (⟨dst,none, .append k bs x y⟩::r) Q s:=by
 unfold aV
 simp only[LOp.run,LOp.sem,hy,hx]
 exact⟨trivial,trivial,by simpa using hb, .inr ⟨trivial,trivial,hne,h⟩⟩
theorem wR{P:Program}{Q:St→Prop}{s:St}{dst:Option Nat}{k:Sh}{bs n len:Nat}{x y:aL}{r:List aA}{es ys:List V}(hx:x.ev s.sl= .rs n k 0 len)(hn:s.h n=some (.arr k es))(hl:len≤es.length)(hy:dX s.h (y.ev s.sl)=some (k,ys))(hne:ys≠ [])(hb:(len+ys.length)*bs≤140737488355328)
 (h:aV P r Q ⟨bF s.sl dst (.rs s.nx k 0 (len+ys.length)),(s.h.del n).set s.nx (.arr k (es.take len++ys)),s.nx+1⟩):aV P (⟨dst,none, .append k bs x y⟩::r) Q s:=by
 unfold aV
 simp only[LOp.run,LOp.sem,hy,hx,hn]
 exact⟨trivial,trivial, .inr ⟨trivial,trivial,hl,hne,hb,h⟩⟩
theorem wQ{P:Program}{Q:St→Prop}{s:St}{dst:Option Nat}{k:Sh}{xs:List aL}{r:List aA}(hf:∀e∈xs,(e.ev s.sl).fits k=true)
 (h:aV P r Q ⟨bF s.sl dst (.rs s.nx k 0 xs.length),s.h.set s.nx (.arr k (xs.map (aL.ev s.sl))),s.nx+1⟩):aV P (⟨dst,none, .bslice k xs⟩::r) Q s:=by
 unfold aV
 exact⟨hf, .inr h⟩
theorem aBx{a b:Nat}(h:a≤1000000000)(h':b≤140737):a*b≤140737488355328:=Nat.le_trans (Nat.mul_le_mul h h') (by decide)
def LOp.isStop:LOp→Bool
 | .call _ _=>true
 | .callv _ _=>true
 | .callw _ _ _=>true
 | .store _ _ _=>true
 |_=>false
def aA.dplain(o:aA):Bool:=match o.g with
 |none=> !o.op.isStop
 |some _=>false
def nQ:List (aA×List Nat)→List (aA×List Nat)
 | []=>[]
 |o::r=>match o.1.dplain with
  |true=>o::nQ r
  |false=>[]
def pY:List (aA×List Nat)→List (aA×List Nat)
 | []=>[]
 |o::r=>match o.1.dplain with
  |true=>pY r
  |false=>o::r
def aJB:List (aA×List Nat)→List (aA×List Nat)
 | []=>[]
 |o::r=>match o.1.op.isStop with
  |true=>[]
  |false=>o::aJB r
def tA:List (aA×List Nat)→List (aA×List Nat)
 | []=>[]
 |o::r=>match o.1.op.isStop with
  |true=>o::r
  |false=>tA r
theorem aDJ:∀l:List (aA×List Nat),aJB l++tA l=l
 | []=>rfl
 |o::r=>by
  unfold aJB tA
  split
  ·rfl
  rw[List.cons_append,aDJ r]
theorem zM:∀l:List (aA×List Nat),nQ l++pY l=l
 | []=>rfl
 |o::r=>by
  unfold nQ pY
  split
  ·rw[List.cons_append,zM r]
  rfl
theorem dI{P:Program}{h0:Hp}{nx0:Nat}{Q:List V→List (Option Blk)→List (Option Con)→Prop}{o:aA×List Nat}{r:List (aA×List Nat)}{sl:List V}{adds:List (Option Blk)}{cons:List (Option Con)}(_:o.1.dplain=true)(ho:vH h0 nx0 (nQ (o::r)) ⟨sl,adds,cons⟩)
 (h:dA P h0 nx0 (pY (o::r)) (gU h0 nx0 (nQ (o::r)) ⟨sl,adds,cons⟩).sl (gU h0 nx0 (nQ (o::r)) ⟨sl,adds,cons⟩).adds (gU h0 nx0 (nQ (o::r)) ⟨sl,adds,cons⟩).cons Q):dA P h0 nx0 (o::r) sl adds cons Q:=by
 have:=aDG (P:=P) (Q:=Q) (r:=pY (o::r)) (nQ (o::r)) ⟨sl,adds,cons⟩ ho h
 rwa [zM] at this
theorem jU(k:Sh):cJ k k 0:=by cases k<;>simp[cJ]
theorem iZ{k:Sh}{v:V}(h:v.fits k=true):bY k 0 v=v:=by
 cases k with
 |leaf=>cases v<;>first|rfl|(simp[V.fits,V.leafy] at h)
 |agg m=>
  cases v with
  |agg cs=>
   simp only[V.fits,Bool.and_eq_true,decide_eq_true_eq] at h
   simp[bY,V.cells,h.1]
  |_=>simp[V.fits] at h
theorem aGs(o:Nat):cJ .leaf .leaf o=(o=0):=rfl
theorem aGt(n o:Nat):cJ (.agg n) .leaf o=(o<n):=rfl
theorem aGu(n m o:Nat):cJ (.agg n) (.agg m) o=(o+m≤n):=rfl
theorem aET(o:Nat)(v:V):bY .leaf o v=v.cell o:=rfl
theorem aEU(m o:Nat)(cs:List V):bY (.agg m) o (.agg cs)=if o=0∧cs.length=m then .agg cs else .agg ((cs.drop o).take m):=rfl
theorem aBI(o:Nat)(cs:List V)(v:V):bR .leaf o (.agg cs) v= .agg (cs.set o v):=rfl
theorem aBJ(m o:Nat)(cs:List V)(v:V):bR (.agg m) o (.agg cs) v=if o=0∧cs.length=m then v else .agg (cs.take o++v.cells++cs.drop (o+m)):=rfl
theorem aJY(n:Nat)(ks:List LK)(xs ys:List V):veq (.plain (.agg n) ks) (.agg xs) (.agg ys)=if ((V.agg xs).fits (.agg n)&&(V.agg ys).fits (.agg n))=true then hZ ks xs ys else none:=rfl
theorem aJW(ks:List LK)(k k':IntKind)(a b:Int):veq (.plain .leaf ks) (.int k a) (.int k' b)=hZ ks [.int k a] [.int k' b]:=rfl
theorem aJX(ks:List LK)(a b:Bool):veq (.plain .leaf ks) (.bool a) (.bool b)=hZ ks [.bool a] [.bool b]:=rfl
theorem aJV(ks:List LK)(a b:ByteArray):veq (.plain .leaf ks) (.str a) (.str b)=hZ ks [.str a] [.str b]:=rfl
theorem aHk(cs:List V):(V.agg cs).cells=cs:=rfl
theorem zT{v:V}(h:v.leafy=true):v.cells=[v]:=by cases v<;>first|rfl|(simp[V.leafy] at h)
theorem zV(cs:List V)(j:Nat):(V.agg cs).cell j=cs.getD j V.undef:=rfl
theorem vM{v:V}(h:v.leafy=true):v.cell 0=v:=by cases v<;>first|rfl|(simp[V.leafy] at h)
theorem aHC:veq .ptr .nilPtr .nilPtr=some true:=rfl
theorem aHB(n:Nat)(k:Sh)(i o:Nat):veq .ptr .nilPtr (.ptr n k i o)=some false:=rfl
theorem aHA(n:Nat)(k:Sh)(i o:Nat):veq .ptr (.ptr n k i o) .nilPtr=some false:=rfl
theorem aHz(k:Sh)(es:List V)(i o:Nat):veq .ptr .nilPtr (.ept k es i o)=some false:=rfl
theorem aHy(k:Sh)(es:List V)(i o:Nat):veq .ptr (.ept k es i o) .nilPtr=some false:=rfl
theorem aEm(k k':Sh)(o:Own)(es es':List V):veq .slice (.sl k o es) (.sl k' .nil es')=some (o== .nil):=rfl
theorem aEl(n:Nat)(k k':Sh)(o l:Nat)(es':List V):veq .slice (.rs n k o l) (.sl k' .nil es')=some false:=rfl
theorem aGe:veq .func .nilFn .nilFn=some true:=rfl
theorem aGd(f:Fn)(a b:List V):veq .func .nilFn (.fn f a b)=some false:=rfl
theorem aGc(f:Fn)(a b:List V):veq .func (.fn f a b) .nilFn=some false:=rfl
theorem aEp:veq (.iface true) .nilIface .nilIface=some true:=rfl
theorem aEo(c:Bool)(t:Nat)(v:V):veq (.iface c) .nilIface (.iface t v)=some false:=by cases c<;>rfl
theorem aEn(c:Bool)(t:Nat)(v:V):veq (.iface c) (.iface t v) .nilIface=some false:=by cases c<;>rfl
theorem aHG:veq .map .nilMap .nilMap=some true:=rfl
theorem aHF(n:Nat):veq .map .nilMap (.map n)=some false:=rfl
theorem aHE(n:Nat):veq .map (.map n) .nilMap=some false:=rfl
theorem aGh:veq .chan .nilChan .nilChan=some true:=rfl
theorem aGg(n:Nat):veq .chan .nilChan (.chan n)=some false:=rfl
theorem aGf(n:Nat):veq .chan (.chan n) .nilChan=some false:=rfl
theorem aIz(n:Nat)(cs:List V):V.fits (.agg n) (.agg cs)=(decide (cs.length=n)&&cs.all V.leafy):=by simp only[V.fits]
theorem aEW(b:Bool):V.leafy (.bool b)=true:=by simp only[V.leafy]
theorem uV(k:IntKind)(n:Int):V.leafy (.int k n)=true:=by simp only[V.leafy]
theorem aGH(s:ByteArray):V.leafy (.str s)=true:=by simp only[V.leafy]
theorem aCb:V.leafy (.nilPtr)=true:=by simp only[V.leafy]
theorem aGI(n:Nat)(k:Sh)(i o:Nat):V.leafy (.ptr n k i o)=true:=by simp only[V.leafy]
theorem aGJ(k:Sh)(es:List V)(i o:Nat):V.leafy (.ept k es i o)=true:=by simp only[V.leafy]
theorem aIk(k:Sh)(own:Own)(es:List V):V.leafy (.sl k own es)=true:=by simp only[V.leafy]
theorem aIl(n:Nat)(k:Sh)(off len:Nat):V.leafy (.rs n k off len)=true:=by simp only[V.leafy]
theorem aCc:V.leafy (.nilMap)=true:=by simp only[V.leafy]
theorem aBk(n:Nat):V.leafy (.map n)=true:=by simp only[V.leafy]
theorem aAw:V.leafy (.nilChan)=true:=by simp only[V.leafy]
theorem aEV(n:Nat):V.leafy (.chan n)=true:=by simp only[V.leafy]
theorem aIm(f:Fn)(a b:List V):V.leafy (.fn f a b)=true:=by simp only[V.leafy]
theorem aDj:V.leafy (.nilFn)=true:=by simp only[V.leafy]
theorem aGG(n:Nat):V.leafy (.yld n)=true:=by simp only[V.leafy]
theorem aDk(t:Nat)(v:V):V.leafy (.iface t v)=true:=by simp only[V.leafy]
theorem yS:V.leafy (.nilIface)=true:=by simp only[V.leafy]
theorem vF(v:V):v.fits .leaf=v.leafy:=by cases v<;>rfl
theorem cG{k:Sh}{e v:V}(he:e.fits k=true)(hv:v.fits k=true):bR k 0 e v=v:=by
 cases k with
 |leaf=>cases e<;>first|rfl|(simp[V.fits,V.leafy] at he)
 |agg m=>
  cases e with
  |agg cs=>
   simp only[V.fits,Bool.and_eq_true,decide_eq_true_eq] at he
   simp[bR,he.1]
  |_=>simp[V.fits] at he
def V.gd(c:Bool)(v:V):V:=if c=true then v else V.undef
theorem V.gd_true(v:V):V.gd true v=v:=rfl
theorem V.gd_false(v:V):V.gd false v=V.undef:=rfl
theorem aJk(c:Bool)(x y:V):V.pick c (V.gd c x) y=V.pick c x y:=by cases c<;>simp[V.gd,mL,lA]
theorem aHU(c:Bool)(x y:V):V.pick c x (V.gd (!c) y)=V.pick c x y:=by cases c<;>simp[V.gd,mL,lA]
theorem aHV(t x:Bool):V.pick t (.bool x) (.bool false)= .bool (t&&x):=by cases t<;>rfl
theorem aJj(t y:Bool):V.pick t (.bool true) (.bool y)= .bool (t||y):=by cases t<;>rfl
def zD(g:Option (Nat×Bool)):List aA→List aA
 | []=>[]
 |o::r=>if o.g=g then o::zD g r else []
def wE(g:Option (Nat×Bool)):List aA→List aA
 | []=>[]
 |o::r=>if o.g=g then wE g r else o::r
def aIQ(l:List aA):List aA:=l.map fun o=>⟨o.dst,none,o.op⟩
def pA(c:Bool)(sl':List V):List aA→List V→List V
 | [],sl=>sl
 |o::r,sl=>pA c sl' r (match o.dst with|some d=>sl.set d (V.gd c (sl'.getD d V.undef))|none=>sl)
def vR(ds:List Nat)(a b:List V):Prop:=a.length=b.length∧∀t,t∉ds→a.getD t V.undef=b.getD t V.undef
theorem aDi{P:Program}{Q:St→Prop}:∀(l:List aA) (s:St),aV P l Q s→aV P l (fun s'=>Q s'∧vR (l.filterMap (·.dst)) s.sl s'.sl) s:=by
 have key:∀(l:List aA) (s0 s:St) (ds:List Nat),vR ds s0.sl s.sl→aV P l Q s→aV P l (fun s'=>Q s'∧vR (ds++l.filterMap (·.dst)) s0.sl s'.sl) s:=by
  intro l
  induction l with
  |nil=>intro s0 s ds hb h;exact⟨h,by simpa using hb⟩
  |cons o r ih=>
   intro s0 s ds hb h
   have step:∀(v:V) (h':Hp) (nx':Nat),aV P r Q ⟨bF s.sl o.dst v,h',nx'⟩→aV P r (fun s'=>Q s'∧vR (ds++(o::r).filterMap (·.dst)) s0.sl s'.sl) ⟨bF s.sl o.dst v,h',nx'⟩:=by
    intro v h' nx' hq
    have hb':vR (ds++[o].filterMap (·.dst)) s0.sl (bF s.sl o.dst v):=by
     obtain⟨h1,h2⟩:=hb
     cases hd:o.dst with
     |none=>simp only[bF,List.filterMap_cons,hd,List.filterMap_nil,List.append_nil];exact⟨h1,h2⟩
     |some d=>
      refine⟨by simp[bF,h1],fun t ht=>?_⟩
      simp[hd] at ht
      rw[h2 t ht.1]
      simp only[bF,List.getD_eq_getElem?_getD]
      rw[List.getElem?_set_ne (fun e=>ht.2 e.symm)]
    have:=ih s0 ⟨bF s.sl o.dst v,h',nx'⟩ _ hb' hq
    have e:(ds++[o].filterMap (·.dst))++r.filterMap (·.dst)=ds++(o::r).filterMap (·.dst):=by
     cases hd:o.dst<;>simp[hd]
    rw[e] at this
    exact this
   have one:=fQ (P:=P) (Q:=fun s'=>aV P r Q s') (Q':=fun s'=>aV P r Q s') (fun _ x=>x) [o] s
   revert h
   unfold aV
   split
   ·rename_i hg
    intro h
    have:=fQ (P:=P) (Q:=fun s'=>aV P r Q s'∧∃v h' nx',s'=⟨bF s.sl o.dst v,h',nx'⟩) (Q':=fun s'=>aV P r (fun s'=>Q s'∧vR (ds++(o::r).filterMap (·.dst)) s0.sl s'.sl) s') (by rintro s' ⟨hq,v,h',nx',rfl⟩;exact step v h' nx' hq) [o] s (by
     unfold aV
     rw[hg]
     show o.op.run P s.sl s.h s.nx fun v h' nx'=>aV P r Q ⟨bF s.sl o.dst v,h',nx'⟩∧_
     exact LOp.run_mono (fun v h' nx' hq=>⟨hq,v,h',nx',rfl⟩) h)
    unfold aV at this
    rw[hg] at this
    exact this
   rename_i t want hg
   split
   ·split
    ·intro h
     exact LOp.run_mono (fun v h' nx' hq=>step v h' nx' hq) h
    exact step _ _ _
   ·exact step _ _ _
   exact id
 intro l s h
 have:=key l s s [] ⟨rfl,fun _ _=>rfl⟩ h
 simpa using this
theorem oZ{sl':List V}:∀(l:List aA) (sl:List V),sl.length=sl'.length→(∀t,t∉l.filterMap (·.dst)→sl.getD t V.undef=sl'.getD t V.undef)→pA true sl' l sl=sl'
 | [],sl,hl,h=>by
  apply List.ext_getElem hl
  intro i h1 h2
  have:=h i (by simp)
  rwa [List.getD_eq_getElem?_getD,List.getD_eq_getElem?_getD,List.getElem?_eq_getElem h1,List.getElem?_eq_getElem h2] at this
 |o::r,sl,hl,h=>by
  unfold pA
  cases hd:o.dst with
  |none=>exact oZ r sl hl (by simpa [hd] using h)
  |some d=>
   refine oZ r _ (by simpa using hl) fun t ht=>?_
   by_cases e:d=t
   ·subst e
    simp only[List.getD_eq_getElem?_getD]
    by_cases hdl:d<sl.length
    ·rw[List.getElem?_set_self hdl];simp[V.gd]
    rw[List.getElem?_eq_none (by simp;omega),List.getElem?_eq_none (by omega)]
   have:=h t (by
    rw[List.filterMap_cons,hd]
    simp only[List.mem_cons,not_or]
    exact⟨fun e'=>e e'.symm,ht⟩)
   simp only[List.getD_eq_getElem?_getD] at this⊢
   rw[List.getElem?_set_ne e,this]
theorem sX{P:Program}{Q:St→Prop}{sl':List V}{t:Nat}{want b:Bool}(hne:b≠want){r:List aA}:∀(l:List aA) (s:St),(∀o∈l,o.g=some (t,want))→(∀o∈l,o.dst≠some t)→s.sl.getD t V.undef= .bool b→
 aV P r Q ⟨pA false sl' l s.sl,s.h,s.nx⟩→aV P (l++r) Q s
 | [],s,_,_,_,h=>h
 |o::l,s,hg,hd,hb,h=>by
  rw[List.cons_append]
  unfold aV
  rw[hg o (by simp)]
  simp only[hb]
  rw[if_neg hne]
  refine sX (sl':=sl') hne l _ (fun o' ho'=>hg o' (by simp[ho'])) (fun o' ho'=>hd o' (by simp[ho'])) ?_ ?_
  ·cases hdo:o.dst with
   |none=>exact hb
   |some d=>
    have:d≠t:=fun e=>hd o (by simp) (by rw[hdo,e])
    simp only[bF,List.getD_eq_getElem?_getD] at hb⊢
    rw[List.getElem?_set_ne this];exact hb
  unfold pA at h
  cases hdo:o.dst with
  |none=>rw[hdo] at h;simpa [bF] using h
  |some d=>rw[hdo] at h;simpa [bF,V.gd] using h
theorem wD(g:Option (Nat×Bool)):∀l:List aA,zD g l++wE g l=l
 | []=>rfl
 |o::r=>by
  unfold zD wE
  split
  ·rw[List.cons_append,wD g r]
  rfl
theorem aFc(g:Option (Nat×Bool)):∀(l:List aA),∀o∈zD g l,o.g=g
 | [],o,h=>by cases h
 |o'::r,o,h=>by
  unfold zD at h
  split at h
  ·rename_i e
   rcases List.mem_cons.1 h with rfl|h
   ·exact e
   exact aFc g r o h
  cases h
theorem aJt{P:Program}{Q:St→Prop}{s:St}{t:Nat}{want:Bool}{dst:Option Nat}{op:LOp}{r:List aA}(b:Bool)(hb:s.sl.getD t V.undef= .bool b)(hd:((zD (some (t,want)) (⟨dst,some (t,want),op⟩::r)).all fun o=>decide (o.dst≠some t))=true)(sl':List V)
 (h1:b=want→aV P (aIQ (zD (some (t,want)) (⟨dst,some (t,want),op⟩::r))) (fun s1=>s1=⟨sl',s.h,s.nx⟩) s)
 (h2:aV P (wE (some (t,want)) (⟨dst,some (t,want),op⟩::r)) Q ⟨pA (b==want) sl' (zD (some (t,want)) (⟨dst,some (t,want),op⟩::r)) s.sl,s.h,s.nx⟩):
 aV P (⟨dst,some (t,want),op⟩::r) Q s:=by
 generalize (⟨dst,some (t,want),op⟩::r)=l at*
 rw[←wD (some (t,want)) l]
 have hd':∀o∈zD (some (t,want)) l,o.dst≠some t:=fun o ho=>by simpa using List.all_eq_true.1 hd o ho
 by_cases e:b=want
 ·subst e
  have h1':=h1 rfl
  rw[show(b==b)=true by simp] at h2
  have app:∀(a:List aA) (s:St),(∀o∈a,o.g=some (t,b))→(∀o∈a,o.dst≠some t)→s.sl.getD t V.undef= .bool b→aV P (aIQ a) (fun s1=>aV P (wE (some (t,b)) l) Q s1) s→aV P (a++wE (some (t,b)) l) Q s:=by
   intro a
   induction a with
   |nil=>exact fun s _ _ _ h=>h
   |cons o a ih=>
    intro s hg hdd hb h
    rw[List.cons_append]
    unfold aV
    rw[hg o (by simp)]
    simp only[hb,if_true]
    have h':o.op.run P s.sl s.h s.nx fun v h' nx'=>aV P (aIQ a) (fun s1=>aV P (wE (some (t,b)) l) Q s1) ⟨bF s.sl o.dst v,h',nx'⟩:=h
    refine LOp.run_mono (fun v h' nx' hq=>ih _ (fun o' ho'=>hg o' (by simp[ho'])) (fun o' ho'=>hdd o' (by simp[ho'])) ?_ hq) h'
    cases hdo:o.dst with
    |none=>exact hb
    |some d=>
     have:d≠t:=fun e=>hdd o (by simp) (by rw[hdo,e])
     simp only[bF,List.getD_eq_getElem?_getD] at hb⊢
     rw[List.getElem?_set_ne this];exact hb
  refine app _ s (aFc _ _) hd' hb (fQ ?_ _ _ (aDi _ _ h1'))
  rintro s1 ⟨rfl,hbs⟩
  have e:pA true sl' (zD (some (t,b)) l) s.sl=sl':=by
   refine oZ _ _ hbs.1 fun t' ht'=>hbs.2 t' ?_
   simpa [aIQ,List.filterMap_map] using ht'
  rw[e] at h2
  exact h2
 rw[show(b==want)=false by simpa using e] at h2
 exact sX e _ s (aFc _ _) hd' hb h2
theorem aGX{K:Ker}{h:Hp}(hr:Rel K h){n a:Nat}{k:Sh}{es:List V}{i o:Nat}{cv:Value}(hn:h n=some (.arr k es))(ha:¬K.live a)(hv:VR K (.ptr n k i o) cv):
 ∃K',K'.w=K.w∧K.le K'∧(∀m,K'.live m→K.live m∨m=a)∧VR K' (.ept k es i o) cv∧Rel K' (h.del n):=by
 have hb:=hr.blk n _ hn
 cases hb with
 |arr _ _ c T hh hcs himm hfit hcv=>
  cases hv with
  |ptr _ _ _ _ hl=>
   have hblk:K.mu n<K.w.heap.size:=by
    rcases Nat.lt_or_ge (K.mu n) K.w.heap.size with hlt|hge
    ·exact hlt
    rw[Array.getElem?_eq_none hge] at hh;exact absurd hh (by simp)
   have hle:K.le (K.claim a (K.mu n) (es.length*k.size)):=K.le_claim ha (by rw[himm];exact Nat.zero_le _)
   have hmu:(K.claim a (K.mu n) (es.length*k.size)).mu a=K.mu n:=by simp[Ker.claim]
   have hrel:=hr.claim hn (a:=a) (m:=es.length*k.size) ha (by rw[himm];exact Nat.zero_le _) (b1:= .tip) (.tip c T (by rw[hmu];exact hh) (by simp[Ker.claim]) (by simp only[Ker.claim,if_true];exact hcs))
   refine⟨K.claim a (K.mu n) (es.length*k.size),rfl,hle,fun m hm=>hm.symm,?_,hrel.weaken ?_⟩
   ·have:=VR.ept (K:=K.claim a (K.mu n) (es.length*k.size)) k es i o (K.mu n) 0 (fun j=>c.getD j Go.undef) hblk hfit
     (fun j hj=>by
       show K.w.cell? _=_
       simp only[World.cell?,hh,Nat.zero_add]
       rw[Array.getD_eq_getD_getElem?,Array.getElem?_eq_getElem (by omega)]
       rfl)
     (fun j hj=> .inr (by simp only[Ker.claim,if_true];omega))
     (fun i hi j hj=>(hcv i hi j hj).mono hle)
    simpa using this
   intro m b e
   unfold Hp.del at e
   split at e
   ·cases e
   rename_i hm
   have hma:m≠a:=fun e2=>ha (e2▸hr.lt m b e)
   unfold Hp.set Hp.del
   rw[if_neg hma,if_neg hm];exact e
def V.loose:V→V
 | .sl k .nil es=> .sl k .nil es
 | .sl k _ es=> .sl k .free es
 | .agg cs=> .agg (cs.map fun c=>match c with
  | .sl k .nil es=> .sl k .nil es
  | .sl k _ es=> .sl k .free es
  |v=>v)
 |v=>v
theorem VR.loose{K:Ker}{v:V}{cv:Value}(r:VR K v cv):VR K v.loose cv:=by
 have one:∀{k:Sh} {own:Own} {es:List V} {cv:Value},VR K (.sl k own es) cv→VR K (match V.sl k own es with| .sl k .nil es=> .sl k .nil es| .sl k _ es=> .sl k .free es|v=>v) cv:=by
  intro k own es cv r
  cases own with
  |nil=>exact r
  |full=>exact r.free (by simp)
  |tok n=>exact r.free (by simp)
  |free=>exact r.free (by simp)
 cases v with
 |sl k own es=>cases own<;>first|exact r|exact r.free (by simp)
 |agg cs=>
  cases r with
  |agg _ ccs hl hv=>
   refine .agg _ ccs (by simpa using hl) fun i hi=>?_
   have hi':i<cs.length:=by simpa using hi
   have:=hv i hi'
   simp only[List.getD_eq_getElem?_getD,List.getElem?_map,List.getElem?_eq_getElem hi',Option.map_some,Option.getD_some] at this⊢
   generalize cs[i]=c at this⊢
   cases c<;>first|exact this|exact one this
 |_=>exact r
theorem aAe{P:Program}{f:FuncId}{args:List V}{h:Hp}{nx:Nat}{g:Fn}{v0:V}
 (c:aW P f args h nx fun v h' _=>∃n,nx≤n∧v= .fn g [] [.ptr n .leaf 0 0]∧h'=h.set n (.arr .leaf [v0])):
 aW P f args h nx fun v h' _=>v= .fn g [] [.ept .leaf [v0.loose] 0 0]∧h'=h:=by
 refine⟨c.1,fun K cargs hl hr hv=>(c.2 K cargs hl hr hv).mono ?_⟩
 rintro e w' ⟨K',v,cv,h',nx',rfl,he,hle,hvr,hrel,hlv,hnx,n,hn,rfl,rfl⟩
 have hfr:¬K'.live nx':=fun hh=>Nat.lt_irrefl _ (hlv nx' hh).1
 have hset:(h.set n (.arr .leaf [v0])) n=some (.arr .leaf [v0]):=by simp[Hp.set]
 cases hvr with
 |fn _ _ _ cf cc h1 h2 v1 v2=>
 have vp:=v2 0 (by simp)
 simp only[List.getD_cons_zero] at vp
 obtain⟨K'',q1,q2,q3,q4,q5⟩:=aGX hrel hset hfr vp
 have hdom:h n=none:=by
  cases hd:h n with
  |none=>rfl
  |some b=>exact absurd (hl n (hr.lt n b hd)) (by omega)
 have hh:(h.set n (.arr .leaf [v0])).del n=h:=by
  funext x
  unfold Hp.set Hp.del
  by_cases e2:x=n
  ·subst e2;simp[hdom]
  simp[e2]
 rw[hh] at q5
 have q4':VR K'' (.ept .leaf [v0.loose] 0 0) (cc.getD 0 Go.undef):=by
  generalize cc.getD 0 Go.undef=x at q4⊢
  cases q4 with
  |ept _ _ _ _ b off f hb hfit hcell hst hvv=>
   have hleaf:v0.leafy=true:=by simpa [V.fits] using hfit v0 (by simp)
   have hll:v0.loose.leafy=true:=by
    cases v0<;>first|rfl|(simp[V.leafy] at hleaf)|skip
    rename_i own es
    cases own<;>rfl
   have hc1:∀v:V,v.leafy=true→v.cell 0=v:=fun v hv=>by cases v<;>first|rfl|(simp[V.leafy] at hv)
   refine .ept _ _ _ _ b off f hb (by simpa [V.fits] using hll) hcell hst ?_
   intro i hi j hj
   have hi0:i=0:=by simpa using hi
   have hj0:j=0:=by simpa [Sh.size] using hj
   subst hi0 hj0
   have:=hvv 0 (by simp) 0 (by simp[Sh.size])
   simp only[List.getD_cons_zero,hc1 _ hleaf,hc1 _ hll] at this⊢
   exact this.loose
 refine⟨K'',_,_,h,nx'+1,q1,he,hle.trans q2, .fn g [] [.ept .leaf [v0.loose] 0 0] cf cc h1 h2 (fun i hi=>absurd hi (by simp)) (fun i hi=>?_),q5,fun m hm=>?_,by omega,rfl,rfl⟩
 ·have hi0:i=0:=by simpa using hi
  subst hi0
  exact q4'
 rcases q3 m hm with hm|rfl
 ·exact⟨by have:=(hlv m hm).1;omega,(hlv m hm).2⟩
 exact⟨by omega, .inr hnx⟩
section
variable{P:Program}{h0:Hp}{nx0:Nat}
theorem fL{tl:List aA}{n:Nat}{Q:cD→St→Prop}{s:St}{sl:List V}{adds:List (Option Blk)}{cons:List (Option Con)}(h:aV P tl (Q .normal) ⟨sl,xD (nZ s.h s.nx adds) cons,s.nx+n⟩):aID P tl n Q s sl adds cons:=h
abbrev DL:=List (aA×List Nat)
def aKV(g:Option (Nat×Bool)):DL→DL
 | []=>[]
 |o::r=>if o.1.g=g then o::aKV g r else []
def aJR(g:Option (Nat×Bool)):DL→DL
 | []=>[]
 |o::r=>if o.1.g=g then aJR g r else o::r
def aKU(l:DL):DL:=l.map fun o=>(⟨o.1.dst,none,o.1.op⟩,o.2)
def aIJ(c:Bool)(sl':List V):DL→List V→List V
 | [],sl=>sl
 |o::r,sl=>aIJ c sl' r (match o.1.dst with|some d=>sl.set d (V.gd c (sl'.getD d V.undef))|none=>sl)
def aJN{α:Type}:DL→List (Option α)
 | []=>[]
 |_::r=>none::aJN r
end
theorem aLb{a j k:Nat}:a+(j+1)+(k+1)=a+(j+k+2):=by omega
theorem rY{sl:List V}{t:Nat}{v:V}(h:sl.getD t V.undef=v):sl.set t v=sl:=by
 rcases Nat.lt_or_ge t sl.length with ht|ht
 ·rw[List.getD_eq_getElem?_getD,List.getElem?_eq_getElem ht] at h
  simp only[Option.getD_some] at h
  rw[←h]
  exact List.set_getElem_self ht
 exact List.set_eq_of_length_le ht
section
variable{P:Program}{r:List aA}{Qs:St→Prop}{s:St}{dst:Option Nat}
theorem yM{t:Nat}{want b:Bool}{op:LOp}(hb:s.sl.getD t V.undef= .bool b)
 (h1:b=want→aV P (⟨dst,none,op⟩::r) Qs ⟨s.sl.set t (.bool want),s.h,s.nx⟩) (h2:b= !want→aV P r Qs ⟨bF (s.sl.set t (.bool !want)) dst V.undef,s.h,s.nx⟩):
 aV P (⟨dst,some (t,want),op⟩::r) Qs s:=by
 refine rF hb (fun e=>?_) (fun e=>?_)
 ·have:=h1 e
  rw[←e,rY hb] at this
  exact this
 have e':b= !want:=by cases b<;>cases want<;>simp at e⊢
 have:=h2 e'
 rw[←e',rY hb] at this
 exact this
end
section
variable{P:Program}{h0:Hp}{nx0:Nat}{Q:List V→List (Option Blk)→List (Option Con)→Prop}{sl:List V}{adds:List (Option Blk)}{cons:List (Option Con)}{r:List (aA×List Nat)}{dst:Option Nat}{deps:List Nat}
theorem zL{t:Nat}{want b:Bool}{op:LOp}(hb:sl.getD t V.undef= .bool b)(h1:b=want→dA P h0 nx0 ((⟨dst,none,op⟩,deps)::r) (sl.set t (.bool want)) adds cons Q)
 (h2:b= !want→dA P h0 nx0 r (bF (sl.set t (.bool !want)) dst V.undef) (adds++[none]) (cons++[none]) Q):dA P h0 nx0 ((⟨dst,some (t,want),op⟩,deps)::r) sl adds cons Q:=by
 refine aFl hb (fun e=>?_) (fun e=>?_)
 ·have:=h1 e
  rw[←e,rY hb] at this
  exact this
 have e':b= !want:=by cases b<;>cases want<;>simp at e⊢
 have:=h2 e'
 rw[←e',rY hb] at this
 exact this
end
section
variable{P:Program}{h0:Hp}{nx0:Nat}{Q:List V→List (Option Blk)→List (Option Con)→Prop}{sl:List V}{adds:List (Option Blk)}{cons:List (Option Con)}{r:List (aA×List Nat)}{dst:Option Nat}{deps:List Nat}{t:Nat}{op:LOp}
end
theorem aFj{P:Program}{h0:Hp}{nx0:Nat}{Q:List V→List (Option Blk)→List (Option Con)→Prop}{sl:List V}{adds:List (Option Blk)}{cons:List (Option Con)}{r:List (aA×List Nat)}{dst:Option Nat}{deps:List Nat}{t:Sh}{x v:aL}{j i o:Nat}{k:Sh}{es:List V}
 (hx:x.ev sl= .ptr (nx0+j) k i o) (ha:adds.getD j none=some (.arr k es)) (hd:j∈deps) (hu:cZ (nx0+j) cons) (hi:i<es.length) (hp:cJ k t o) (hf:(v.ev sl).fits t=true)
 (h:dA P h0 nx0 r (bF sl dst V.undef) (adds++[none]) (cons++[some ⟨nx0+j, .arr k es,some (.arr k (es.set i (bR t o (es.getD i V.undef) (v.ev sl))))⟩]) Q):dA P h0 nx0 ((⟨dst,none, .store t x v⟩,deps)::r) sl adds cons Q:=
 nP hx (by rw[vK];exact⟨hu,hd,ha⟩) hi hp hf h
def qR(b:Bool)(A B:Prop):Prop:=(b=true→A)∧(b=false→B)
theorem aJE{A B:Prop}(h:A):qR true A B:=⟨(fun _=>h),(fun h=>by cases h)⟩
theorem aJF{A B:Prop}(h:B):qR false A B:=⟨(fun h=>by cases h),(fun _=>h)⟩
theorem kN{b:Bool}{A B:Prop}(h1:b=true→A)(h2:b=false→B):qR b A B:=⟨h1,h2⟩
theorem gY{P:Program}{c:aL}{a b:bE}{Q:cD→St→Prop}{s:St}(h:lwp P (.cond c a b) Q s):lwp P (.cond c a b) Q s:=h
theorem iP{P:Program}{n:Nat}{hd:List (aA×List Nat)}{tl:List aA}{Q:cD→St→Prop}{s:St}(h:lwp P (.draw n hd tl) Q s):lwp P (.draw n hd tl) Q s:=h
theorem gW{P:Program}{o:aA}{r:List aA}{Q:St→Prop}{s:St}(h:aV P (o::r) Q s):aV P (o::r) Q s:=h
theorem gX{P:Program}{h0:Hp}{nx0:Nat}{Q:List V→List (Option Blk)→List (Option Con)→Prop}{sl:List V}{adds:List (Option Blk)}{cons:List (Option Con)}{l:List (aA×List Nat)}(h:dA P h0 nx0 l sl adds cons Q):dA P h0 nx0 l sl adds cons Q:=h
theorem eG{P:Program}{c:aL}{a b:bE}{Q:cD→St→Prop}{s:St}{t:Bool}(hc:c.ev s.sl= .bool t)(h:qR t (lwp P a Q s) (lwp P b Q s)):lwp P (.cond c a b) Q s:=cP t hc h.1 h.2
theorem cU{P:Program}{r:List aA}{Qs:St→Prop}{s:St}{dst:Option Nat}{t:Nat}{b:Bool}{op:LOp}(hb:s.sl.getD t V.undef= .bool b)
 (h:qR b (aV P (⟨dst,none,op⟩::r) Qs ⟨s.sl.set t (.bool true),s.h,s.nx⟩) (aV P r Qs ⟨bF (s.sl.set t (.bool false)) dst V.undef,s.h,s.nx⟩)):aV P (⟨dst,some (t,true),op⟩::r) Qs s:=
 yM hb h.1 h.2
theorem cV{P:Program}{r:List aA}{Qs:St→Prop}{s:St}{dst:Option Nat}{t:Nat}{b:Bool}{op:LOp}(hb:s.sl.getD t V.undef= .bool b)
 (h:qR b (aV P r Qs ⟨bF (s.sl.set t (.bool true)) dst V.undef,s.h,s.nx⟩) (aV P (⟨dst,none,op⟩::r) Qs ⟨s.sl.set t (.bool false),s.h,s.nx⟩)):aV P (⟨dst,some (t,false),op⟩::r) Qs s:=
 yM hb h.2 h.1
section
variable{P:Program}{h0:Hp}{nx0:Nat}{Q:List V→List (Option Blk)→List (Option Con)→Prop}{sl:List V}{adds:List (Option Blk)}{cons:List (Option Con)}{r:List (aA×List Nat)}{dst:Option Nat}{deps:List Nat}{t:Nat}{op:LOp}
theorem cW{b:Bool}(hb:sl.getD t V.undef= .bool b)(h:qR b (dA P h0 nx0 ((⟨dst,none,op⟩,deps)::r) (sl.set t (.bool true)) adds cons Q) (dA P h0 nx0 r (bF (sl.set t (.bool false)) dst V.undef) (adds++[none]) (cons++[none]) Q)):
 dA P h0 nx0 ((⟨dst,some (t,true),op⟩,deps)::r) sl adds cons Q:=zL hb h.1 h.2
theorem cX{b:Bool}(hb:sl.getD t V.undef= .bool b)(h:qR b (dA P h0 nx0 r (bF (sl.set t (.bool true)) dst V.undef) (adds++[none]) (cons++[none]) Q) (dA P h0 nx0 ((⟨dst,none,op⟩,deps)::r) (sl.set t (.bool false)) adds cons Q)):
 dA P h0 nx0 ((⟨dst,some (t,false),op⟩,deps)::r) sl adds cons Q:=zL hb h.2 h.1
end
theorem dD{t u:Nat}{k:Sh}{R:V→Hp→Nat→Prop}{s:St}(ho:(bD.load k (.slot t)).ok s.sl s.h)(h':Hp)(hle:h'.le s.h)(hR:R (.tup [(bD.load k (.slot t)).out s.sl s.h,s.sl.getD u V.undef]) h' s.nx):mK [.cell t k, .slot u] R .ret s:=by
 have:=bD.sem_of_ok (R:=fun v=>∃h',h'.le s.h∧R (mI [v,s.sl.getD u V.undef]) h' s.nx) ho ⟨h',hle,by generalize (bD.load k (.slot t)).out s.sl s.h=x at hR;exact hR⟩
 exact this
def Acc(h:Hp)(n0:Nat)(o:Own)(es:List V):Prop:=(es=[]∧o= .nil)∨(es≠ []∧∃id,n0≤id∧o= .tok id∧h id=some .tip)
def kD(h:Hp)(n0:Nat)(o:Own):Prop:=∃id,n0≤id∧o= .tok id∧h id=some .tip
def Hp.delO(h:Hp):Own→Hp
 | .tok n=>h.del n
 |_=>h
theorem aII(h:Hp):h.delO .nil=h:=rfl
theorem aIH(h:Hp)(n:Nat):h.delO (.tok n)=h.del n:=rfl
def Hp.same(n0:Nat)(h h':Hp):Prop:=∀m,m<n0→h' m=h m
theorem Hp.same.rfl'{n0:Nat}{h:Hp}:Hp.same n0 h h:=fun _ _=>rfl
theorem bJ{n0 n:Nat}{h h':Hp}(s:Hp.same n0 h h')(hn:n0≤n)(b:Blk):Hp.same n0 h (h'.set n b):=fun m hm=>by
 unfold Hp.set
 rw[if_neg (by omega)]
 exact s m hm
theorem bO{n0 n:Nat}{h h':Hp}(s:Hp.same n0 h h')(hn:n0≤n):Hp.same n0 h (h'.del n):=fun m hm=>by
 unfold Hp.del
 rw[if_neg (by omega)]
 exact s m hm
theorem fO{n0:Nat}{h h':Hp}{o:Own}(s:Hp.same n0 h h')(ho:∀id,o= .tok id→n0≤id):Hp.same n0 h (h'.delO o):=by
 cases o with
 |tok id=>exact bO s (ho id rfl)
 |_=>exact s
theorem Acc.ge{h:Hp}{n0:Nat}{o:Own}{es:List V}(a:Acc h n0 o es)(id:Nat)(e:o= .tok id):n0≤id:=by
 rcases a with⟨_,rfl⟩|⟨_,id',hge,rfl,_⟩
 ·cases e
 injection e with e;omega
theorem Hp.same.le{n0:Nat}{h h':Hp}(s:Hp.same n0 h h'){h0:Hp}(hd:aM h0 n0)(hle:h0.le h):h0.le h':=fun m b e=>by rw[s m (hd m b e)];exact hle m b e
theorem aM.delO{h:Hp}{nx:Nat}(hd:aM h nx)(o:Own):aM (h.delO o) nx:=by
 cases o<;>first|exact hd|exact hd.del
theorem aFR{h:Hp}{o:Own}{m:Nat}(hn:∀id,o= .tok id→m≠id):h.delO o m=h m:=by
 cases o with
 |tok id=>show(h.del id) m=h m;unfold Hp.del;rw[if_neg (hn id rfl)]
 |_=>rfl
theorem Acc.set{h:Hp}{n0 n:Nat}{o:Own}{es:List V}(a:Acc h n0 o es)(hn:h n≠some .tip)(b:Blk):Acc (h.set n b) n0 o es:=by
 rcases a with⟨e,eo⟩|⟨e,id,hge,eo,ht⟩
 ·exact .inl ⟨e,eo⟩
 refine .inr ⟨e,id,hge,eo,?_⟩
 unfold Hp.set
 rw[if_neg (fun e2=>hn (by rw[←e2];exact ht))]
 exact ht
theorem Acc.del{h:Hp}{n0 n:Nat}{o:Own}{es:List V}(a:Acc h n0 o es)(hn:o≠ .tok n):Acc (h.del n) n0 o es:=by
 rcases a with⟨e,eo⟩|⟨e,id,hge,eo,ht⟩
 ·exact .inl ⟨e,eo⟩
 refine .inr ⟨e,id,hge,eo,?_⟩
 unfold Hp.del
 rw[if_neg (fun e=>hn (by rw[eo,e]))]
 exact ht
theorem Acc.delO{h:Hp}{n0:Nat}{o o':Own}{es:List V}(a:Acc h n0 o es)(hn:∀id,o'= .tok id→o≠ .tok id):Acc (h.delO o') n0 o es:=by
 cases o' with
 |tok id=>exact a.del (hn id rfl)
 |_=>exact a
theorem kD.set{h:Hp}{n0 n:Nat}{o:Own}(a:kD h n0 o)(hn:h n≠some .tip)(b:Blk):kD (h.set n b) n0 o:=by
 obtain⟨id,hge,eo,ht⟩:=a
 refine⟨id,hge,eo,?_⟩
 unfold Hp.set
 rw[if_neg (fun e2=>hn (by rw[←e2];exact ht))]
 exact ht
theorem aM.ntip{h:Hp}{nx n:Nat}(hd:aM h nx)(hn:nx≤n):h n≠some .tip:=fun e=>absurd (hd n _ e) (by omega)
theorem gS{h:Hp}{n:Nat}{k:Sh}{es:List V}:h.set n (.arr k es) n≠some .tip:=by unfold Hp.set;rw[if_pos rfl];exact(fun e=>by cases e)
theorem iY{h:Hp}{n:Nat}{k:Sh}{es:List V}(e:h n=some (.arr k es)):h n≠some .tip:=by rw[e];exact(fun e=>by cases e)
theorem gQ{h:Hp}{n m:Nat}{b:Blk}(hn:m≠n)(hm:h m≠some .tip):h.set n b m≠some .tip:=by unfold Hp.set;rw[if_neg hn];exact hm
theorem gR{h:Hp}{n m:Nat}(hm:h m≠some .tip):h.del n m≠some .tip:=by unfold Hp.del;split<;>first|exact hm|exact(fun e=>by cases e)
theorem Acc.new{h:Hp}{n0 n:Nat}(es:List V)(hne:es≠ [])(hn:n0≤n):Acc (h.set n .tip) n0 (.tok n) es:= .inr ⟨hne,n,hn,rfl,by unfold Hp.set;rw[if_pos rfl]⟩
theorem kD.new{h:Hp}{n0 n:Nat}(hn:n0≤n):kD (h.set n .tip) n0 (.tok n):=⟨n,hn,rfl,by unfold Hp.set;rw[if_pos rfl]⟩
theorem Acc.nil{h:Hp}{n0:Nat}:Acc h n0 .nil []:= .inl ⟨rfl,rfl⟩
theorem Acc.loose{h:Hp}{n0:Nat}{o:Own}{k:Sh}{es:List V}(a:Acc h n0 o es):(V.sl k o es).loose=(if es.isEmpty=true then .sl k .nil [] else .sl k .free es):=by
 rcases a with⟨rfl,rfl⟩|⟨hne,id,_,rfl,_⟩
 ·rfl
 cases es with
 |nil=>exact absurd rfl hne
 |cons=>rfl
theorem Acc.ok{h:Hp}{n0:Nat}{o:Own}{es:List V}(a:Acc h n0 o es):tK h o:=by
 rcases a with⟨_,rfl⟩|⟨_,id,_,rfl,ht⟩
 ·trivial
 exact ht
theorem kD.ok{h:Hp}{n0:Nat}{o:Own}(a:kD h n0 o):tK h o:=by
 obtain⟨id,_,rfl,ht⟩:=a
 exact ht
section
variable{P:Program}{r:List aA}{Qs:St→Prop}{s:St}{dst:Option Nat}
theorem aGD{k:Sh}{bs:Nat}{x y:aL}{o:Own}{es ys:List V}(hx:x.ev s.sl= .sl k o es)(ha:tK s.h o)(hy:dX s.h (y.ev s.sl)=some (k,ys))(hne:ys≠ [])(hb:(es.length+ys.length)*bs≤140737488355328)
 (hq:aV P r Qs ⟨bF s.sl dst (.sl k (.tok s.nx) (es++ys)),(s.h.delO o).set s.nx .tip,s.nx+1⟩):aV P (⟨dst,none, .append k bs x y⟩::r) Qs s:=by
 have hys:ys.isEmpty=false:=by cases ys with|nil=>exact absurd rfl hne|cons=>rfl
 unfold aV
 simp only[LOp.run,LOp.sem,hy,hx,true_and]
 refine⟨hb, .inl ⟨ha,?_⟩⟩
 cases o with
 |free=>exact ha.elim
 |nil=>simpa only[fF,eQ,hys,Hp.delO,Bool.false_eq_true,if_false] using hq
 |full=>simpa only[fF,eQ,hys,Hp.delO,Bool.false_eq_true,if_false] using hq
 |tok id=>exact hq
theorem sR{k:Sh}{bs:Nat}{x y:aL}{o:Own}{es ys:List V}{n0:Nat}(hx:x.ev s.sl= .sl k o es)(ha:Acc s.h n0 o es)(hy:dX s.h (y.ev s.sl)=some (k,ys))(hne:ys≠ [])(hb:(es.length+ys.length)*bs≤140737488355328)
 (hq:aV P r Qs ⟨bF s.sl dst (.sl k (.tok s.nx) (es++ys)),(s.h.delO o).set s.nx .tip,s.nx+1⟩):aV P (⟨dst,none, .append k bs x y⟩::r) Qs s:=
 aGD hx ha.ok hy hne hb hq
end
def LOp.isApp:LOp→Bool
 | .append .. =>true
 |_=>false
def aA.plain2(o:aA):Bool:=o.plain&& !o.op.isApp
def oY:List aA→List aA
 | []=>[]
 |o::r=>match o.plain2 with
  |true=>o::oY r
  |false=>[]
def pX:List aA→List aA
 | []=>[]
 |o::r=>match o.plain2 with
  |true=>pX r
  |false=>o::r
theorem aFN{P:Program}{Q:St→Prop}:∀(l:List aA) (s:St),oS (oY l) s→aV P (pX l) Q (iL (oY l) s)→aV P l Q s
 | [],s,_,h=>h
 |o::r,s,ho,h=>by
  cases hc:o.plain2 with
  |false=>simp only[oY,pX,hc] at ho h;exact h
  |true=>
   simp only[oY,pX,hc] at ho h
   have hcall:o.op.isCall=false:=by
    simp only[aA.plain2,Bool.and_eq_true] at hc
    have hc:=hc.1
    unfold aA.plain at hc
    split at hc
    ·simpa using hc
    cases hc
   exact pU hcall ho.1 (aFN r _ ho.2 h)
theorem fK{P:Program}{Q:St→Prop}{o:aA}{r:List aA}{s:St}(_:o.plain2=true)(ho:oS (oY (o::r)) s)(h:aV P (pX (o::r)) Q (iL (oY (o::r)) s)):aV P (o::r) Q s:=aFN _ s ho h
theorem oW{P:Program}{Q:St→Prop}{o:aA}{r:List aA}{s:St}(hp:o.op.isApp=true)(hg:o.g=none)(ho:o.ok s)(h:aV P r Q (o.next s)):aV P (o::r) Q s:=by
 refine pU ?_ ho h
 cases e:o.op<;>rw[e] at hp<;>first|rfl|cases hp
theorem aLc{a b:Nat}(h:a<b):(a=b)=False:=aBd (by omega)
theorem aKK{a b k:Nat}(h:a<b):(a=b+k)=False:=aBd (by omega)
theorem aKL{a b:Nat}(h:a<b):(b=a)=False:=aBd (by omega)
theorem aKl{a b k:Nat}(h:a<b):(b+k=a)=False:=aBd (by omega)
class Stp(A:Prop)(B:outParam Prop):Prop where
 go:B→A
theorem stp{A B:Prop} [i:Stp A B](h:B):A:=i.go h
variable{P:Program}{Q:cD→St→Prop}{s:St}
instance aLx{a b:bE}:Stp (lwp P (.seq a b) Q s) (lwp P a (qB (lwp P b) Q) s):=⟨bI⟩
instance aLw{l:List aA}:Stp (lwp P (.ops l) Q s) (aV P l (Q .normal) s):=⟨bN⟩
instance aLv{b:(cD→St→Prop)→St→Prop}:Stp (qB b Q .normal s) (b Q s):=⟨aO⟩
instance aLu{R:St→Prop}:Stp (aV P [] R s) (R s):=⟨dL⟩
instance aLt{id:Nat}:Stp (gB id Q .normal s) (Q .normal s):=⟨bT⟩
instance aLs{id:Nat}{c:bE}:Stp (lwp P (.block id c) Q s) (lwp P c (gB id Q) s):=⟨cT⟩
instance aLr:Stp (lwp P .skip Q s) (Q .normal s):=⟨dZ⟩
instance aLq:Stp (lwp P .ret Q s) (Q .ret s):=⟨bU⟩
instance aLp{b:(cD→St→Prop)→St→Prop}:Stp (qB b Q .ret s) (Q .ret s):=⟨gK⟩
instance aLo{id:Nat}:Stp (gB id Q .ret s) (Q .ret s):=⟨eL⟩
instance aLn{ι:Type}{sl:ι→List V}{C:ι→Hp→Nat→Prop}{m:ι→Nat}{n:Nat}:Stp (bZ sl C m n Q .ret s) (Q .ret s):=⟨fB⟩
instance aLm{id:Nat}:Stp (lwp P (.exit id) Q s) (Q (.exit id) s):=⟨lE⟩
instance aLl{b:(cD→St→Prop)→St→Prop}{id:Nat}:Stp (qB b Q (.exit id) s) (Q (.exit id) s):=⟨iV⟩
instance aLk{ι:Type}{sl:ι→List V}{C:ι→Hp→Nat→Prop}{m:ι→Nat}{n id:Nat}:Stp (bZ sl C m n Q (.exit id) s) (Q (.exit id) s):=⟨iE⟩
instance aLj{id:Nat}:Stp (gB id Q (.exit id) s) (Q .normal s):=⟨gA⟩
instance aLi{A B:Prop}:Stp (qR true A B) A:=⟨aJE⟩
instance aLh{A B:Prop}:Stp (qR false A B) B:=⟨aJF⟩
theorem ee2{p0 p1:Prop}(x0:p0)(x1:p1):p0∧p1:=⟨x0,x1⟩
theorem ee3{p0 p1 p2:Prop}(x0:p0)(x1:p1)(x2:p2):p0∧p1∧p2:=⟨x0,x1,x2⟩
theorem ee4{p0 p1 p2 p3:Prop}(x0:p0)(x1:p1)(x2:p2)(x3:p3):p0∧p1∧p2∧p3:=⟨x0,x1,x2,x3⟩
theorem ee5{p0 p1 p2 p3 p4:Prop}(x0:p0)(x1:p1)(x2:p2)(x3:p3)(x4:p4):p0∧p1∧p2∧p3∧p4:=⟨x0,x1,x2,x3,x4⟩
theorem ee6{p0 p1 p2 p3 p4 p5:Prop}(x0:p0)(x1:p1)(x2:p2)(x3:p3)(x4:p4)(x5:p5):p0∧p1∧p2∧p3∧p4∧p5:=⟨x0,x1,x2,x3,x4,x5⟩
theorem ee7{p0 p1 p2 p3 p4 p5 p6:Prop}(x0:p0)(x1:p1)(x2:p2)(x3:p3)(x4:p4)(x5:p5)(x6:p6):p0∧p1∧p2∧p3∧p4∧p5∧p6:=⟨x0,x1,x2,x3,x4,x5,x6⟩
theorem ee8{p0 p1 p2 p3 p4 p5 p6 p7:Prop}(x0:p0)(x1:p1)(x2:p2)(x3:p3)(x4:p4)(x5:p5)(x6:p6)(x7:p7):p0∧p1∧p2∧p3∧p4∧p5∧p6∧p7:=⟨x0,x1,x2,x3,x4,x5,x6,x7⟩
theorem ee9{p0 p1 p2 p3 p4 p5 p6 p7 p8:Prop}(x0:p0)(x1:p1)(x2:p2)(x3:p3)(x4:p4)(x5:p5)(x6:p6)(x7:p7)(x8:p8):p0∧p1∧p2∧p3∧p4∧p5∧p6∧p7∧p8:=⟨x0,x1,x2,x3,x4,x5,x6,x7,x8⟩
theorem aKt{p0 p1 p2 p3 p4 p5 p6 p7 p8 p9:Prop}(x0:p0)(x1:p1)(x2:p2)(x3:p3)(x4:p4)(x5:p5)(x6:p6)(x7:p7)(x8:p8)(x9:p9):p0∧p1∧p2∧p3∧p4∧p5∧p6∧p7∧p8∧p9:=⟨x0,x1,x2,x3,x4,x5,x6,x7,x8,x9⟩
theorem aIB{p0 p1 p2 p3 p4 p5 p6 p7 p8 p9 p10:Prop}(x0:p0)(x1:p1)(x2:p2)(x3:p3)(x4:p4)(x5:p5)(x6:p6)(x7:p7)(x8:p8)(x9:p9)(x10:p10):p0∧p1∧p2∧p3∧p4∧p5∧p6∧p7∧p8∧p9∧p10:=⟨x0,x1,x2,x3,x4,x5,x6,x7,x8,x9,x10⟩
theorem aKS{p0 p1 p2 p3 p4 p5 p6 p7 p8 p9 p10 p11 p12:Prop}(x0:p0)(x1:p1)(x2:p2)(x3:p3)(x4:p4)(x5:p5)(x6:p6)(x7:p7)(x8:p8)(x9:p9)(x10:p10)(x11:p11)(x12:p12):p0∧p1∧p2∧p3∧p4∧p5∧p6∧p7∧p8∧p9∧p10∧p11∧p12:=⟨x0,x1,x2,x3,x4,x5,x6,x7,x8,x9,x10,x11,x12⟩
theorem aKs{p0 p1 p2 p3 p4 p5 p6 p7 p8 p9 p10 p11 p12 p13:Prop}(x0:p0)(x1:p1)(x2:p2)(x3:p3)(x4:p4)(x5:p5)(x6:p6)(x7:p7)(x8:p8)(x9:p9)(x10:p10)(x11:p11)(x12:p12)(x13:p13):p0∧p1∧p2∧p3∧p4∧p5∧p6∧p7∧p8∧p9∧p10∧p11∧p12∧p13:=⟨x0,x1,x2,x3,x4,x5,x6,x7,x8,x9,x10,x11,x12,x13⟩
theorem aLe{p0 p1 p2 p3 p4 p5 p6 p7 p8 p9 p10 p11 p12 p13 p14 p15:Prop}(x0:p0)(x1:p1)(x2:p2)(x3:p3)(x4:p4)(x5:p5)(x6:p6)(x7:p7)(x8:p8)(x9:p9)(x10:p10)(x11:p11)(x12:p12)(x13:p13)(x14:p14)(x15:p15):p0∧p1∧p2∧p3∧p4∧p5∧p6∧p7∧p8∧p9∧p10∧p11∧p12∧p13∧p14∧p15:=⟨x0,x1,x2,x3,x4,x5,x6,x7,x8,x9,x10,x11,x12,x13,x14,x15⟩
theorem wl{G B:Prop}(k:B)(h:PLift B→G:=by
 intro k
 (repeat (first|with_reducible refine bI ?_|with_reducible refine cT ?_|with_reducible refine dZ ?_|with_reducible refine aO ?_|with_reducible refine bT ?_|with_reducible refine bN ?_|(refine eW rfl (by simp only[go_sem,reduceIte,Nat.reduceAdd,Nat.reduceSub,Nat.reduceLT,Nat.reduceLeDiff,reduceCtorEq,Nat.reduceEqDiff,Int.reduceToNat];try omega) ?_;simp only[go_sem,reduceIte,Nat.reduceAdd,Nat.reduceSub,Nat.reduceLT,Nat.reduceLeDiff,reduceCtorEq,Nat.reduceEqDiff,Int.reduceToNat])|(with_reducible refine dL ?_)))
 exact k.down):G:=h ⟨k⟩
theorem wle{G B p:Prop}(E:p)(k:B)(h:p→PLift B→G:=by
 intro E k
 (repeat (first|with_reducible refine bI ?_|with_reducible refine cT ?_|with_reducible refine dZ ?_|with_reducible refine aO ?_|with_reducible refine bT ?_|with_reducible refine bN ?_|(refine eW rfl (by simp only[E,List.length_map,go_sem,reduceIte,Nat.reduceAdd,Nat.reduceSub,Nat.reduceLT,Nat.reduceLeDiff,reduceCtorEq,Nat.reduceEqDiff,Int.reduceToNat];try omega) ?_;simp only[E,List.length_map,go_sem,reduceIte,Nat.reduceAdd,Nat.reduceSub,Nat.reduceLT,Nat.reduceLeDiff,reduceCtorEq,Nat.reduceEqDiff,Int.reduceToNat])|(with_reducible refine dL ?_)))
 exact k.down):G:=h E ⟨k⟩
attribute [go_sem] Option.some.injEq Prod.mk.injEq false_and and_false Bool.true_eq_false aKV aJR aKU aIJ aJN if_true Bool.true_and aJB tA aBn oS iL aA.ok aA.next LOp.ok LOp.next bD.ok bD.out aL.ev bF aDU mL lA tV V.undef Sh.size nZ vH gU aA.dok aA.dres LOp.dok LOp.dout aDF aBu hZ iO List.take_succ_cons List.take_zero List.take_nil List.drop_succ_cons List.drop_zero List.drop_nil List.set_cons_succ List.set_cons_zero List.getD_cons_succ List.getD_cons_zero List.length_cons List.length_nil List.map_cons List.map_nil List.all_cons List.all_nil List.mem_cons List.not_mem_nil List.replicate_succ List.replicate_zero List.cons_append List.nil_append List.append_nil List.isEmpty_cons List.isEmpty_nil fF eQ tK Option.getD_some Option.isSome_some Option.isSome_none Nat.add_eq Nat.zero_add Nat.add_zero true_and and_true and_self true_implies implies_true false_implies forall_const forall_eq forall_eq_or_imp ne_eq not_false_eq_true not_true_eq_false Bool.not_true Bool.not_false decide_true decide_false Bool.and_true Bool.true_and Bool.and_false Bool.false_and true_or or_true false_or or_false eq_self Bool.false_eq_true aKi aIb mI aB dT eP gH tD pZ tC jS lK dX Int.toNat_natCast Int.toNat_zero List.take_length Hp.set_app Hp.del_app wC vB aA.plain LOp.isCall aA.dplain LOp.isStop aIh zD wE aIQ pA V.gd_true V.gd_false aJk aHU aHV aJj jU iZ cG nQ pY beq_true beq_false aGs aGt aGu aET aEU aBI aBJ vF aIz aEW uV aGH aCb aGI aGJ aIk aIl aCc aBk aAw aEV aIm aDj aGG aDk yS aJY aJW aJX aJV aHk zT zV vM aHC aHB aHA aHz aHy aEm aEl aGe aGd aGc aEp aEo aEn aHG aHF aHE aGh aGg aGf vK aFq cZ xD Hp.turn iQ Option.isNone_some Option.isNone_none aLb oY pX aA.plain2 LOp.isApp aLc aKK aKL aKl aII aIH
theorem dmo{h H:Hp}{nx n:Nat}(q:aM h nx)(k:aM h nx→aM H n:=by
 intro q;(try dsimp only);repeat (first|exact aM.up q (by omega)|refine aM.set2 ?_ (by omega) _|refine aM.del ?_|refine aM.delO ?_ _)):aM H n:=k q
theorem kep{h h1 H:Hp}{m n:Nat}(q:Hp.same m h h1)(k:Hp.same m h h1→Hp.same n h H:=by
 intro q;(try dsimp only);repeat (first|exact q|refine bJ ?_ (by omega) _|refine bO ?_ (by omega))):Hp.same n h H:=k q
theorem aKN{h h1 H:Hp}{m n n0:Nat}{o:Own}{es:List V}(q:Hp.same m h h1)(a:Acc h1 n0 o es)(k:Hp.same m h h1→Acc h1 n0 o es→Hp.same n h H:=by
 intro q a;(try dsimp only);repeat (first|exact q|refine bJ ?_ (by omega) _|refine bO ?_ (by omega)|refine fO ?_ (fun id e=>by have:=a.ge id e;omega))):Hp.same n h H:=k q a
theorem acc{h H:Hp}{nx n0:Nat}{o:Own}{es:List V}(a:Acc h n0 o es)(d:aM h nx)(k:Acc h n0 o es→aM h nx→Acc H n0 o es:=by
 intro a d;(try dsimp only);repeat' (first|exact a|exact aM.ntip d (by omega)|exact gS|exact iY (by assumption)|refine gQ (by omega) ?_|refine gR ?_|refine Acc.set ?_ ?_ _)):Acc H n0 o es:=k a d
theorem lef{h h1 H:Hp}{nx:Nat}(d:aM h nx)(q:h.le h1)(k:aM h nx→h.le h1→h.le H:=by
 intro d q;(try dsimp only);repeat (first|exact q|refine aJ d ?_ (by omega) _|refine aK d ?_ (by omega))):h.le H:=k d q
theorem leo{h H:Hp}{nx:Nat}(d:aM h nx)(k:aM h nx→h.le H:=by
 intro d;(try dsimp only);repeat (first|exact Hp.le_refl _|refine aJ d ?_ (by omega) _|refine aK d ?_ (by omega))):h.le H:=k d
theorem fls{p:Prop}(h:¬p:=by omega):p=False:=eq_false h
theorem dct{p:Prop} [Decidable p](h:p:=by omega):decide p=true:=decide_eq_true h
theorem dcf{p:Prop} [Decidable p](h:¬p:=by omega):decide p=false:=decide_eq_false h
theorem bqf{a b:Int}(h:a≠b:=by omega):(a==b)=false:=by simpa using h
theorem bqt{a b:Int}(h:a=b:=by omega):(a==b)=true:=by simpa using h
theorem bnt{a b:Int}(h:a≠b:=by omega):(a != b)=true:=by simpa using h
theorem bnf{a b:Int}(h:a=b:=by omega):(a != b)=false:=by simpa using h
theorem wrp{a b:Int}(h:a=b:=by omega)(h1:-9223372036854775808≤b:=by omega)(h2:b<9223372036854775808:=by omega):IntKind.i64.wrap a=b:=by rw[h];exact bM (by omega) (by omega)
theorem wkl{a b:List V}(E:True)(h:WkL a b:=by simp only[WkL,aB,Int.natCast_add,Int.natCast_one,Int.natCast_zero,go_sem,reduceIte,Nat.reduceAdd,Nat.reduceSub,Nat.reduceLT,Nat.reduceLeDiff,reduceCtorEq,Nat.reduceEqDiff,Int.reduceToNat]):WkL a b:=h
theorem wke{a b:List V}{p:Prop}(E:p)(h:p→WkL a b:=by intro E;simp only[WkL,aB,Int.natCast_add,Int.natCast_one,Int.natCast_zero,E,go_sem,reduceIte,Nat.reduceAdd,Nat.reduceSub,Nat.reduceLT,Nat.reduceLeDiff,reduceCtorEq,Nat.reduceEqDiff,Int.reduceToNat]):WkL a b:=h E
theorem e2{A B:Prop}(a:A)(b:B):A∧B:=⟨a,b⟩
theorem e3{A B C:Prop}(a:A)(b:B)(c:C):A∧B∧C:=⟨a,b,c⟩
theorem e4{A B C D:Prop}(a:A)(b:B)(c:C)(d:D):A∧B∧C∧D:=⟨a,b,c,d⟩
theorem e5{A B C D E:Prop}(a:A)(b:B)(c:C)(d:D)(e:E):A∧B∧C∧D∧E:=⟨a,b,c,d,e⟩
theorem e6{A B C D E F:Prop}(a:A)(b:B)(c:C)(d:D)(e:E)(f:F):A∧B∧C∧D∧E∧F:=⟨a,b,c,d,e,f⟩
theorem e7{A B C D E F G:Prop}(a:A)(b:B)(c:C)(d:D)(e:E)(f:F)(g:G):A∧B∧C∧D∧E∧F∧G:=⟨a,b,c,d,e,f,g⟩
theorem e8{A B C D E F G H:Prop}(a:A)(b:B)(c:C)(d:D)(e:E)(f:F)(g:G)(h:H):A∧B∧C∧D∧E∧F∧G∧H:=⟨a,b,c,d,e,f,g,h⟩
theorem e9{A B C D E F G H I:Prop}(a:A)(b:B)(c:C)(d:D)(e:E)(f:F)(g:G)(h:H)(i:I):A∧B∧C∧D∧E∧F∧G∧H∧I:=⟨a,b,c,d,e,f,g,h,i⟩
theorem e10{A B C D E F G H I J:Prop}(a:A)(b:B)(c:C)(d:D)(e:E)(f:F)(g:G)(h:H)(i:I)(j:J):A∧B∧C∧D∧E∧F∧G∧H∧I∧J:=⟨a,b,c,d,e,f,g,h,i,j⟩
theorem e13{A B C D E F G H I J K L M:Prop}(a:A)(b:B)(c:C)(d:D)(e:E)(f:F)(g:G)(h:H)(i:I)(j:J)(k:K)(l:L)(m:M):A∧B∧C∧D∧E∧F∧G∧H∧I∧J∧K∧L∧M:=⟨a,b,c,d,e,f,g,h,i,j,k,l,m⟩
theorem e14{A B C D E F G H I J K L M N:Prop}(a:A)(b:B)(c:C)(d:D)(e:E)(f:F)(g:G)(h:H)(i:I)(j:J)(k:K)(l:L)(m:M)(n:N):A∧B∧C∧D∧E∧F∧G∧H∧I∧J∧K∧L∧M∧N:=⟨a,b,c,d,e,f,g,h,i,j,k,l,m,n⟩
theorem au{G B:Prop}(k:B)(h:PLift B→G:=by
 intro k
 (repeat' (first|(with_reducible first|refine stp ?_|refine bQ (by decide) ?_)|((first|(with_reducible refine gW ?_;first|refine fK rfl ?_ ?_|refine aQ (C1 _) rfl (aR _) ?_|refine aQ (C2 _) rfl (aR _) ?_|refine aQ (C3 _) rfl (aR _) ?_|refine aQ (C4 _) rfl (aR _) ?_|refine aQ C5 rfl (aR _) ?_|refine aQ C6 rfl (aR _) ?_|(first|refine cU rfl ?_|refine cV rfl ?_)|refine cK rfl ?_)|(with_reducible refine gX ?_;first|refine dI rfl ?_ ?_|refine bL (D1 _) rfl (bX _) ?_|refine bL (D2 _) rfl (bX _) ?_|refine bL (D3 _) rfl (bX _) ?_|refine bL (D4 _) rfl (bX _) ?_|refine bL (D5 _) rfl (bX _) ?_|refine bL (D6 _) rfl (bX _) ?_|(first|refine cW rfl ?_|refine cX rfl ?_)|refine cL rfl ?_|refine dH (dN ?_)|refine dH (fL ?_))|(with_reducible refine gY ?_;refine eG rfl ?_))<;>try simp only[go_sem,reduceIte,Nat.reduceAdd,Nat.reduceSub,Nat.reduceLT,Nat.reduceLeDiff,reduceCtorEq,Nat.reduceEqDiff,Int.reduceToNat])|(with_reducible refine iP ?_;refine eU rfl ?_)|omega))
 exact k.down):G:=h ⟨k⟩
theorem aus{G B:Prop}(k:B)(h:PLift B→G:=by
 intro k
 (repeat' (first|(with_reducible first|refine stp ?_|refine bQ (by decide) ?_)|((first|(with_reducible refine gW ?_;first|refine fK rfl ?_ ?_|refine aQ (C1 _) rfl (aR _) ?_|refine aQ (C2 _) rfl (aR _) ?_|refine aQ (C3 _) rfl (aR _) ?_|refine aQ (C4 _) rfl (aR _) ?_|refine aQ C5 rfl (aR _) ?_|refine aQ C6 rfl (aR _) ?_|(first|refine cU rfl ?_|refine cV rfl ?_)|refine cK rfl ?_)|(with_reducible refine gX ?_;first|refine dI rfl ?_ ?_|refine bL (D1 _) rfl (bX _) ?_|refine bL (D2 _) rfl (bX _) ?_|refine bL (D3 _) rfl (bX _) ?_|refine bL (D4 _) rfl (bX _) ?_|refine bL (D5 _) rfl (bX _) ?_|refine bL (D6 _) rfl (bX _) ?_|(first|refine cW rfl ?_|refine cX rfl ?_)|refine cL rfl ?_|refine dH (dN ?_)|refine dH (fL ?_))|(with_reducible refine gY ?_;refine eG rfl ?_))<;>try simp only[go_sem,reduceIte,Nat.reduceAdd,Nat.reduceSub,Nat.reduceLT,Nat.reduceLeDiff,reduceCtorEq,Nat.reduceEqDiff,Int.reduceToNat])|omega))
 exact k.down):G:=h ⟨k⟩
theorem aue{G B p:Prop}(E:p)(k:B)(h:p→PLift B→G:=by
 intro E k
 (repeat' (first|(with_reducible first|refine stp ?_|refine bQ (by decide) ?_)|((first|(with_reducible refine gW ?_;first|refine fK rfl ?_ ?_|refine aQ (C1 _) rfl (aR _) ?_|refine aQ (C2 _) rfl (aR _) ?_|refine aQ (C3 _) rfl (aR _) ?_|refine aQ (C4 _) rfl (aR _) ?_|refine aQ C5 rfl (aR _) ?_|refine aQ C6 rfl (aR _) ?_|refine sR rfl (acc hacc hdm) rfl (by simp) (by simp only[E,List.length_map,go_sem,reduceIte,Nat.reduceAdd,Nat.reduceSub,Nat.reduceLT,Nat.reduceLeDiff,reduceCtorEq,Nat.reduceEqDiff,Int.reduceToNat];try omega) ?_|refine oW rfl rfl (by simp only[E,List.length_map,go_sem,reduceIte,Nat.reduceAdd,Nat.reduceSub,Nat.reduceLT,Nat.reduceLeDiff,reduceCtorEq,Nat.reduceEqDiff,Int.reduceToNat];try omega) ?_|(first|refine cU rfl ?_|refine cV rfl ?_)|refine cK rfl ?_)|(with_reducible refine gX ?_;first|refine dI rfl ?_ ?_|refine bL (D1 _) rfl (bX _) ?_|refine bL (D2 _) rfl (bX _) ?_|refine bL (D3 _) rfl (bX _) ?_|refine bL (D4 _) rfl (bX _) ?_|refine bL (D5 _) rfl (bX _) ?_|refine bL (D6 _) rfl (bX _) ?_|refine aFj rfl rfl (by decide) (by(simp only[cZ,go_sem,reduceIte,Nat.reduceAdd,Nat.reduceSub,Nat.reduceLT,Nat.reduceLeDiff,reduceCtorEq,Nat.reduceEqDiff,Int.reduceToNat])<;>try omega) (by simp only[go_sem,reduceIte,Nat.reduceAdd,Nat.reduceSub,Nat.reduceLT,Nat.reduceLeDiff,reduceCtorEq,Nat.reduceEqDiff,Int.reduceToNat]) (by simp only[go_sem,reduceIte,Nat.reduceAdd,Nat.reduceSub,Nat.reduceLT,Nat.reduceLeDiff,reduceCtorEq,Nat.reduceEqDiff,Int.reduceToNat]) (by simp only[E,go_sem,reduceIte,Nat.reduceAdd,Nat.reduceSub,Nat.reduceLT,Nat.reduceLeDiff,reduceCtorEq,Nat.reduceEqDiff,Int.reduceToNat]) ?_|(first|refine cW rfl ?_|refine cX rfl ?_)|refine cL rfl ?_|refine dH (dN ?_)|refine dH (fL ?_))|(with_reducible refine gY ?_;refine eG rfl ?_))<;>try simp only[E,List.length_map,go_sem,reduceIte,Nat.reduceAdd,Nat.reduceSub,Nat.reduceLT,Nat.reduceLeDiff,reduceCtorEq,Nat.reduceEqDiff,Int.reduceToNat])|(with_reducible refine iP ?_;refine eU rfl ?_)|omega))
 exact k.down):G:=h E ⟨k⟩
end Go.Proofs.YtecepaehmojpgaaGreat
