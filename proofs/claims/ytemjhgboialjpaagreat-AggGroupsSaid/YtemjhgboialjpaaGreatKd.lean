/-
Texts of this proof,one behind the other. No conditions.
-/
import Derived.Test.YtemjhgboialjpaaGreatKcb
set_option linter.unusedSimpArgs false
set_option linter.unusedVariables false
set_option linter.unusedSectionVars false
namespace Go.Proofs.YtemjhgboialjpaaGreat
open Go.RowKit
theorem Hp.set_app(h:Hp)(n:Nat)(b:Blk)(m:Nat):(h.set n b) m=if m=n then some b else h m:=rfl
theorem Hp.del_app(h:Hp)(n m:Nat):(h.del n) m=if m=n then Option.none else h m:=rfl
def aX(h:Hp)(nx:Nat):Prop:=∀m b,h m=some b→m<nx
theorem aP.dom{P:Program}{f:FuncId}{args:List V}{h:Hp}{nx:Nat}{R:V→Hp→Nat→Prop}(c:aP P f args h nx R):aP P f args h nx fun v h' nx'=>R v h' nx'∧aX h' nx'∧nx≤nx':=
 ⟨c.1,fun K cargs hl hrel hv=>(c.2 K cargs hl hrel hv).mono fun _ _ ⟨K',v,cv,h',nx',a,b,c,d,e,g,i,j⟩=>⟨K',v,cv,h',nx',a,b,c,d,e,g,i,j,fun m b hm=>(g m (e.lt m b hm)).1,i⟩⟩
theorem dE.dom{P:Program}{n:Nat}{args:List V}{h:Hp}{nx:Nat}{R:V→Hp→Nat→Prop}(c:dE P n args h nx R):dE P n args h nx fun v h' nx'=>R v h' nx'∧aX h' nx'∧nx≤nx':=
 fun m K cargs hl hn hrel hv=>(c m K cargs hl hn hrel hv).mono fun _ _ ⟨K',v,cv,h',nx',a,b,c,d,e,g,i,j⟩=>⟨K',v,cv,h',nx',a,b,c,d,e,g,i,j,fun m b hm=>(g m (e.lt m b hm)).1,i⟩
theorem aX.set{h:Hp}{nx nx' n:Nat}(hd:aX h nx)(hn:n<nx')(hle:nx≤nx')(b:Blk):aX (h.set n b) nx':=fun m c e=>by
 unfold Hp.set at e
 split at e
 ·omega
 have:=hd m c e;omega
theorem aX.del{h:Hp}{nx n:Nat}(hd:aX h nx):aX (h.del n) nx:=fun m c e=>by
 unfold Hp.del at e
 split at e
 ·cases e
 exact hd m c e
theorem aX.up{h:Hp}{nx nx':Nat}(hd:aX h nx)(hle:nx≤nx'):aX h nx':=fun m c e=>by have:=hd m c e;omega
theorem aX.le{h h':Hp}{nx:Nat}(hd:aX h' nx)(hle:h.le h'):aX h nx:=fun m c e=>hd m c (hle m c e)
theorem tD{h h':Hp}{n:Nat}{b:Blk}(hle:h.le h')(hn:h' n=some b):(h.set n b).le h':=fun m c e=>by
 unfold Hp.set at e
 split at e
 ·rename_i em;subst em;injection e with e;subst e;exact hn
 exact hle m c e
theorem fT{h h':Hp}{n:Nat}(hle:h.le h')(hn:h n=none)(b:Blk):h.le (h'.set n b):=fun m c e=>by
 unfold Hp.set
 split
 ·rename_i em;subst em;rw[hn] at e;cases e
 exact hle m c e
theorem kP{h h':Hp}{n:Nat}(hle:h.le h')(hn:h n=none):h.le (h'.del n):=fun m c e=>by
 unfold Hp.del
 split
 ·rename_i em;subst em;rw[hn] at e;cases e
 exact hle m c e
theorem aX.none{h:Hp}{nx n:Nat}(hd:aX h nx)(hn:nx≤n):h n= .none:=by
 cases e:h n with
 |none=>rfl
 |some b=>exact absurd (hd n b e) (by omega)
theorem aCA{h h':Hp}(hle:h.le h'):Hp.has h h':=fun n b e _=>hle n _ e
def wO(P:Program)(gf:Nat)(caps:List V)(hb:Hp)(xs:List (List V)):Prop:=
 ∀(yn:Nat) (J:Nat→Hp→Nat→Prop) (D:Hp→Nat→Prop),
  (∀i h nx,J i h nx→hb.has h)→(∀i h nx nx',J i h nx→nx≤nx'→J i h nx')→(∀h nx nx',D h nx→nx≤nx'→D h nx')→
  (∀i (hi:i<xs.length) h nx,J i h nx→aX h nx→dE P yn xs[i] h nx fun v h' nx'=>(v= .bool true∧J (i+1) h' nx')∨(v= .bool false∧D h' nx'))→
  ∀h nx,J 0 h nx→aX h nx→aP P gf (.yld yn::caps) h nx fun _ h' nx'=>J xs.length h' nx'∨D h' nx'
def aEm(r:Nat)(X:Blk)(J:St→Prop):bB→St→Prop
 | .normal,s=>s.h r=some X∧J s
 |_,_=>False
def oV(r:Nat)(X:Blk)(I:Hp→Nat→Prop)(E:bB→Hp→Nat→Prop):bB→St→Prop
 | .normal,s=>s.h r=some X∧I s.h s.nx
 |e,s=>s.h r=some X∧E e s.h s.nx
theorem pR{r:Nat}{X:Blk}{J:St→Prop}{s:St}(h:s.h r=some X)(hj:J s):aEm r X J .normal s:=⟨h,hj⟩
theorem lZ{r:Nat}{X:Blk}{I:Hp→Nat→Prop}{E:bB→Hp→Nat→Prop}{s:St}(h:s.h r=some X)(hi:I s.h s.nx):oV r X I E .normal s:=⟨h,hi⟩
theorem kK{P:Program}{g:aG}{ps:List Nat}{as b:aJ}{Q:bB→St→Prop}{s:St}{gf:Nat}{caps:List V}{hb:Hp}{xs:List (List V)}(hit:wO P gf caps hb xs)(hg:g.ev s.sl= .fn (.func gf) [] caps)
 (hlen:∀x∈xs,x.length=ps.length) (hd:aX s.h s.nx) (I:Nat→Hp→Nat→Prop) (E:bB→Hp→Nat→Prop)
 (hbI:∀i h nx,I i h nx→hb.has h) (hnI:∀i h nx nx',I i h nx→nx≤nx'→I i h nx') (hsI:∀i h nx b,I i h nx→I i (h.set s.nx b) nx)
 (hnE:∀e h nx nx',E e h nx→nx≤nx'→E e h nx') (hsE:∀e h nx b,E e h nx→E e (h.set s.nx b) nx)
 (h0:I 0 s.h (s.nx+1))
 (hround:∀i (hi:i<xs.length) h nx X,I i h nx→s.nx<nx→h s.nx=some X→aX h nx→
   lwp P as (aEm s.nx X fun s1=>∀X',lwp P b (oV s.nx X' (I (i+1)) E) ⟨s1.sl,s1.h.set s.nx X',s1.nx⟩) ⟨putAll s.sl ps xs[i],h,nx⟩)
 (hend:∀h nx,I xs.length h nx→s.nx<nx→aX h nx→Q .normal ⟨s.sl,h.del s.nx,nx⟩)
 (hex:∀e h nx,E e h nx→s.nx<nx→aX h nx→(e= .ret∨∃id,e= .exit id)→Q e ⟨s.sl,h.del s.nx,nx⟩):lwp P (.range g ps as b) Q s:=by
 simp only[lwp,hg]
 intro rcd U hpl hY
 have hset:∀(h:Hp) (b:Blk),(h.set s.nx b) s.nx=some b:=fun h b=>by simp[Hp.set]
 refine((hit s.nx (fun i h nx=>I i h nx∧h s.nx=some (.obj (rcd .ready none) U))
  (fun h nx=>(h s.nx=some (.obj (rcd .done (some .ret)) U)∧E .ret h nx)∨∃id,h s.nx=some (.obj (rcd .done (some (.exit id))) U)∧E (.exit id) h nx)
  (fun i h nx hj=>hbI i h nx hj.1) (fun i h nx nx' hj hle=>⟨hnI i h nx nx' hj.1 hle,hj.2⟩)
  (fun h nx nx' hD hle=>hD.imp (fun hD=>⟨hD.1,hnE _ _ _ _ hD.2 hle⟩) (fun⟨id,hD⟩=>⟨id,hD.1,hnE _ _ _ _ hD.2 hle⟩)) ?_ _ (s.nx+1) ⟨hsI _ _ _ _ h0,hset _ _⟩ ?_).dom).mono ?_
 ·rintro i hi h nx ⟨hI,hr⟩ hdom
  refine hY xs[i] h nx _ (hlen _ (List.getElem_mem _)) hr ?_
  refine kL ?_ (hround i hi h nx _ hI (hdom _ _ hr) hr hdom)
  intro e s1 hq
  cases e with
  |exit id=>exact hq.elim
  |ret=>exact hq.elim
  |normal=>
   refine⟨hq.1,kL ?_ (hq.2 (.obj (rcd .busy none) U))⟩
   intro e s2 hq2
   cases e with
   |normal=>exact⟨hq2.1, .inl ⟨rfl,hsI _ _ _ _ hq2.2,hset _ _⟩⟩
   |ret=>exact⟨hq2.1, .inr ⟨rfl, .inl ⟨hset _ _,hsE _ _ _ _ hq2.2⟩⟩⟩
   |exit id=>exact⟨hq2.1, .inr ⟨rfl, .inr ⟨id,hset _ _,hsE _ _ _ _ hq2.2⟩⟩⟩
 ·intro m b hm
  unfold Hp.set at hm
  split at hm
  ·omega
  have:=hd m b hm;omega
 rintro v h' nx' _ ⟨(⟨hI,hr⟩|(⟨hr,hE⟩|⟨id,hr,hE⟩)),hdom,hle⟩
 ·exact .inl ⟨hr,hend _ _ hI (by omega) hdom⟩
 ·exact .inr (.inl ⟨hr,hex _ _ _ hE (by omega) hdom (.inl rfl)⟩)
 exact .inr (.inr ⟨id,hr,hex _ _ _ hE (by omega) hdom (.inr ⟨id,rfl⟩)⟩)
def bU{ι:Type}(sl:ι→List V)(C:ι→Hp→Nat→Prop)(m:ι→Nat)(n:Nat)(Q:bB→St→Prop):bB→St→Prop
 | .normal,s=>∃s',oI s s'∧∃i,m i<n∧WkL s'.sl (sl i)∧C i s'.h s'.nx
 |e,s=>Q e s
section
variable{P:Program}{Q:bB→St→Prop}{s:St}{ι:Type}{sl:ι→List V}{C:ι→Hp→Nat→Prop}{m:ι→Nat}{n:Nat}
theorem aM{sl0:List V}{h:Hp}{nx:Nat}(i:ι)(hm:m i<n)(hC:C i h nx)(hw:WkL sl0 (sl i)):bU sl C m n Q .normal ⟨sl0,h,nx⟩:=⟨_,(Wk.refl _).tell,i,hm,hw,hC⟩
theorem dZ{id:Nat}(h:Q (.exit id) s):bU sl C m n Q (.exit id) s:=h
theorem dY(h:Q .ret s):bU sl C m n Q .ret s:=h
theorem aY{c:aJ}(sl:ι→List V)(C:ι→Hp→Nat→Prop)(m:ι→Nat)(i0:ι)(h0:C i0 s.h s.nx)(hw:WkL s.sl (sl i0))(hr:∀i h nx,C i h nx→lwp P c (bU sl C m (m i) Q) ⟨sl i,h,nx⟩):lwp P (.loop c) Q s:=by
 refine kM (fun p:ι×Hp×Nat=>C p.1 p.2.1 p.2.2) (fun p=>⟨sl p.1,p.2.1,p.2.2⟩) (fun p=>m p.1) (i0,s.h,s.nx) h0 ⟨hw,Hp.le_refl _,Nat.le_refl _⟩ ?_
 rintro⟨i,h,nx⟩ hC
 refine kL ?_ (hr i h nx hC)
 intro e s' hq
 cases e with
 |normal=>
  obtain⟨s2,h0,j,h1,h2,h3⟩:=hq
  exact⟨(j,s2.h,s2.nx),h3,h1,h0.trans (Wk.tell ⟨h2,Hp.le_refl _,Nat.le_refl _⟩)⟩
 |exit id=>exact hq
 |ret=>exact hq
end
theorem aX.set2{h:Hp}{nx n:Nat}(hd:aX h nx)(hn:n<nx)(b:Blk):aX (h.set n b) nx:=hd.set hn (Nat.le_refl _) b
def aA.plain(o:aA):Bool:=match o.g with
 |none=> !o.op.isCall
 |some _=>false
def pO:List aA→List aA
 | []=>[]
 |o::r=>match o.plain with
  |true=>o::pO r
  |false=>[]
def oY:List aA→List aA
 | []=>[]
 |o::r=>match o.plain with
  |true=>oY r
  |false=>o::r
theorem aAC{P:Program}{Q:St→Prop}:∀(l:List aA) (s:St),mA (pO l) s→aW P (oY l) Q (fM (pO l) s)→aW P l Q s
 | [],s,_,h=>h
 |o::r,s,ho,h=>by
  cases hc:o.plain with
  |false=>simp only[pO,oY,hc] at ho h;exact h
  |true=>
   simp only[pO,oY,hc] at ho h
   have hcall:o.op.isCall=false:=by
    unfold aA.plain at hc
    split at hc
    ·simpa using hc
    cases hc
   exact lJ hcall ho.1 (aAC r _ ho.2 h)
theorem aCt{P:Program}{Q:St→Prop}{s:St}:aW P [] Q s=Q s:=rfl
theorem dN{P:Program}{Q:St→Prop}{s:St}(h:Q s):aW P [] Q s:=h
theorem fE{P:Program}{Q:St→Prop}{o:aA}{r:List aA}{s:St}(_:o.plain=true)(ho:mA (pO (o::r)) s)(h:aW P (oY (o::r)) Q (fM (pO (o::r)) s)):aW P (o::r) Q s:=aAC _ s ho h
theorem jS{P:Program}{Q:St→Prop}{s:St}{dst:Option Nat}{k:Sh}{bs:Nat}{x y:aG}{r:List aA}{ys:List V}(hx:x.ev s.sl= .sl k .nil [])(hy:dW s.h (y.ev s.sl)=some (k,ys))(hne:ys≠ [])(hb:ys.length*bs≤140737488355328)
 (h:aW P r Q ⟨bC s.sl dst (.rs s.nx k 0 ys.length),s.h.set s.nx (.arr k ys),s.nx+1⟩):aW P (⟨dst,none, .append k bs x y⟩::r) Q s:=by
 unfold aW
 simp only[LOp.run,LOp.sem,hy,hx]
 exact⟨trivial,trivial,by simpa using hb, .inr ⟨trivial,trivial,hne,h⟩⟩
theorem jT{P:Program}{Q:St→Prop}{s:St}{dst:Option Nat}{k:Sh}{bs n len:Nat}{x y:aG}{r:List aA}{es ys:List V}(hx:x.ev s.sl= .rs n k 0 len)(hn:s.h n=some (.arr k es))(hl:len≤es.length)(hy:dW s.h (y.ev s.sl)=some (k,ys))(hne:ys≠ [])(hb:(len+ys.length)*bs≤140737488355328)
 (h:aW P r Q ⟨bC s.sl dst (.rs s.nx k 0 (len+ys.length)),(s.h.del n).set s.nx (.arr k (es.take len++ys)),s.nx+1⟩):aW P (⟨dst,none, .append k bs x y⟩::r) Q s:=by
 unfold aW
 simp only[LOp.run,LOp.sem,hy,hx,hn]
 exact⟨trivial,trivial, .inr ⟨trivial,trivial,hl,hne,hb,h⟩⟩
theorem fS{P:Program}{Q:St→Prop}{s:St}{dst:Option Nat}{k:Sh}{xs:List aG}{r:List aA}(hf:∀e∈xs,(e.ev s.sl).fits k=true)
 (h:aW P r Q ⟨bC s.sl dst (.rs s.nx k 0 xs.length),s.h.set s.nx (.arr k (xs.map (aG.ev s.sl))),s.nx+1⟩):aW P (⟨dst,none, .bslice k xs⟩::r) Q s:=by
 unfold aW
 exact⟨hf, .inr h⟩
theorem lQ{a b:Nat}(h:a≤1000000000)(h':b≤140737):a*b≤140737488355328:=Nat.le_trans (Nat.mul_le_mul h h') (by decide)
def LOp.isStop:LOp→Bool
 | .call _ _=>true
 | .callv _ _=>true
 | .callw _ _ _=>true
 | .store _ _ _=>true
 |_=>false
def aA.dplain(o:aA):Bool:=match o.g with
 |none=> !o.op.isStop
 |some _=>false
def iZ:List (aA×List Nat)→List (aA×List Nat)
 | []=>[]
 |o::r=>match o.1.dplain with
  |true=>o::iZ r
  |false=>[]
def lP:List (aA×List Nat)→List (aA×List Nat)
 | []=>[]
 |o::r=>match o.1.dplain with
  |true=>lP r
  |false=>o::r
def aDp:List (aA×List Nat)→List (aA×List Nat)
 | []=>[]
 |o::r=>match o.1.op.isStop with
  |true=>[]
  |false=>o::aDp r
def oA:List (aA×List Nat)→List (aA×List Nat)
 | []=>[]
 |o::r=>match o.1.op.isStop with
  |true=>o::r
  |false=>oA r
theorem yF:∀l:List (aA×List Nat),aDp l++oA l=l
 | []=>rfl
 |o::r=>by
  unfold aDp oA
  split
  ·rfl
  rw[List.cons_append,yF r]
theorem rV:∀l:List (aA×List Nat),iZ l++lP l=l
 | []=>rfl
 |o::r=>by
  unfold iZ lP
  split
  ·rw[List.cons_append,rV r]
  rfl
theorem nZ{P:Program}{h0:Hp}{nx0:Nat}{Q:List V→List (Option Blk)→List (Option Con)→Prop}{o:aA×List Nat}{r:List (aA×List Nat)}{sl:List V}{adds:List (Option Blk)}{cons:List (Option Con)}(_:o.1.dplain=true)(ho:rU h0 nx0 (iZ (o::r)) ⟨sl,adds,cons⟩)
 (h:cE P h0 nx0 (lP (o::r)) (fG h0 nx0 (iZ (o::r)) ⟨sl,adds,cons⟩).sl (fG h0 nx0 (iZ (o::r)) ⟨sl,adds,cons⟩).adds (fG h0 nx0 (iZ (o::r)) ⟨sl,adds,cons⟩).cons Q):cE P h0 nx0 (o::r) sl adds cons Q:=by
 have:=yD (P:=P) (Q:=Q) (r:=lP (o::r)) (iZ (o::r)) ⟨sl,adds,cons⟩ ho h
 rwa [rV] at this
theorem xH(k:Sh):bV k k 0:=by cases k<;>simp[bV]
theorem aL{k:Sh}{v:V}(h:v.fits k=true):bK k 0 v=v:=by
 cases k with
 |leaf=>cases v<;>first|rfl|(simp[V.fits,V.leafy] at h)
 |agg m=>
  cases v with
  |agg cs=>
   simp only[V.fits,Bool.and_eq_true,decide_eq_true_eq] at h
   simp[bK,V.cells,h.1]
  |_=>simp[V.fits] at h
theorem aBf(o:Nat):bV .leaf .leaf o=(o=0):=rfl
theorem aBg(n o:Nat):bV (.agg n) .leaf o=(o<n):=rfl
theorem aBh(n m o:Nat):bV (.agg n) (.agg m) o=(o+m≤n):=rfl
theorem zT(o:Nat)(v:V):bK .leaf o v=v.cell o:=rfl
theorem zU(m o:Nat)(cs:List V):bK (.agg m) o (.agg cs)=if o=0∧cs.length=m then .agg cs else .agg ((cs.drop o).take m):=rfl
theorem vI(o:Nat)(cs:List V)(v:V):bF .leaf o (.agg cs) v= .agg (cs.set o v):=rfl
theorem vJ(m o:Nat)(cs:List V)(v:V):bF (.agg m) o (.agg cs) v=if o=0∧cs.length=m then v else .agg (cs.take o++v.cells++cs.drop (o+m)):=rfl
theorem aBZ(n:Nat)(ks:List LK)(xs ys:List V):veq (.plain (.agg n) ks) (.agg xs) (.agg ys)=if ((V.agg xs).fits (.agg n)&&(V.agg ys).fits (.agg n))=true then eQ ks xs ys else none:=rfl
theorem aDH(ks:List LK)(k k':IntKind)(a b:Int):veq (.plain .leaf ks) (.int k a) (.int k' b)=eQ ks [.int k a] [.int k' b]:=rfl
theorem aDI(ks:List LK)(a b:Bool):veq (.plain .leaf ks) (.bool a) (.bool b)=eQ ks [.bool a] [.bool b]:=rfl
theorem aDG(ks:List LK)(a b:ByteArray):veq (.plain .leaf ks) (.str a) (.str b)=eQ ks [.str a] [.str b]:=rfl
theorem aBO(cs:List V):(V.agg cs).cells=cs:=rfl
theorem aAs{v:V}(h:v.leafy=true):v.cells=[v]:=by cases v<;>first|rfl|(simp[V.leafy] at h)
theorem aCR(cs:List V)(j:Nat):(V.agg cs).cell j=cs.getD j V.undef:=rfl
theorem eW{v:V}(h:v.leafy=true):v.cell 0=v:=by cases v<;>first|rfl|(simp[V.leafy] at h)
theorem aBV:veq .ptr .nilPtr .nilPtr=some true:=rfl
theorem aBU(n:Nat)(k:Sh)(i o:Nat):veq .ptr .nilPtr (.ptr n k i o)=some false:=rfl
theorem aBT(n:Nat)(k:Sh)(i o:Nat):veq .ptr (.ptr n k i o) .nilPtr=some false:=rfl
theorem aBS(k:Sh)(es:List V)(i o:Nat):veq .ptr .nilPtr (.ept k es i o)=some false:=rfl
theorem aBR(k:Sh)(es:List V)(i o:Nat):veq .ptr (.ept k es i o) .nilPtr=some false:=rfl
theorem yU(k k':Sh)(o:Own)(es es':List V):veq .slice (.sl k o es) (.sl k' .nil es')=some (o== .nil):=rfl
theorem yT(n:Nat)(k k':Sh)(o l:Nat)(es':List V):veq .slice (.rs n k o l) (.sl k' .nil es')=some false:=rfl
theorem aAS:veq .func .nilFn .nilFn=some true:=rfl
theorem aAR(f:Fn)(a b:List V):veq .func .nilFn (.fn f a b)=some false:=rfl
theorem aAQ(f:Fn)(a b:List V):veq .func (.fn f a b) .nilFn=some false:=rfl
theorem yX:veq (.iface true) .nilIface .nilIface=some true:=rfl
theorem yW(c:Bool)(t:Nat)(v:V):veq (.iface c) .nilIface (.iface t v)=some false:=by cases c<;>rfl
theorem yV(c:Bool)(t:Nat)(v:V):veq (.iface c) (.iface t v) .nilIface=some false:=by cases c<;>rfl
theorem aBY:veq .map .nilMap .nilMap=some true:=rfl
theorem aBX(n:Nat):veq .map .nilMap (.map n)=some false:=rfl
theorem aBW(n:Nat):veq .map (.map n) .nilMap=some false:=rfl
theorem aAV:veq .chan .nilChan .nilChan=some true:=rfl
theorem aAU(n:Nat):veq .chan .nilChan (.chan n)=some false:=rfl
theorem aAT(n:Nat):veq .chan (.chan n) .nilChan=some false:=rfl
theorem aCH(n:Nat)(cs:List V):V.fits (.agg n) (.agg cs)=(decide (cs.length=n)&&cs.all V.leafy):=by simp only[V.fits]
theorem zX(b:Bool):V.leafy (.bool b)=true:=by simp only[V.leafy]
theorem aBy(k:IntKind)(n:Int):V.leafy (.int k n)=true:=by simp only[V.leafy]
theorem aBv(s:ByteArray):V.leafy (.str s)=true:=by simp only[V.leafy]
theorem vV:V.leafy (.nilPtr)=true:=by simp only[V.leafy]
theorem aBw(n:Nat)(k:Sh)(i o:Nat):V.leafy (.ptr n k i o)=true:=by simp only[V.leafy]
theorem aBz(k:Sh)(es:List V)(i o:Nat):V.leafy (.ept k es i o)=true:=by simp only[V.leafy]
theorem aCx(k:Sh)(own:Own)(es:List V):V.leafy (.sl k own es)=true:=by simp only[V.leafy]
theorem aCy(n:Nat)(k:Sh)(off len:Nat):V.leafy (.rs n k off len)=true:=by simp only[V.leafy]
theorem vW:V.leafy (.nilMap)=true:=by simp only[V.leafy]
theorem aBx(n:Nat):V.leafy (.map n)=true:=by simp only[V.leafy]
theorem sQ:V.leafy (.nilChan)=true:=by simp only[V.leafy]
theorem zW(n:Nat):V.leafy (.chan n)=true:=by simp only[V.leafy]
theorem aCz(f:Fn)(a b:List V):V.leafy (.fn f a b)=true:=by simp only[V.leafy]
theorem xR:V.leafy (.nilFn)=true:=by simp only[V.leafy]
theorem aBu(n:Nat):V.leafy (.yld n)=true:=by simp only[V.leafy]
theorem xS(t:Nat)(v:V):V.leafy (.iface t v)=true:=by simp only[V.leafy]
theorem rG:V.leafy (.nilIface)=true:=by simp only[V.leafy]
theorem gA(v:V):v.fits .leaf=v.leafy:=by cases v<;>rfl
theorem aN{k:Sh}{e v:V}(he:e.fits k=true)(hv:v.fits k=true):bF k 0 e v=v:=by
 cases k with
 |leaf=>cases e<;>first|rfl|(simp[V.fits,V.leafy] at he)
 |agg m=>
  cases e with
  |agg cs=>
   simp only[V.fits,Bool.and_eq_true,decide_eq_true_eq] at he
   simp[bF,he.1]
  |_=>simp[V.fits] at he
def V.gd(c:Bool)(v:V):V:=if c=true then v else V.undef
theorem V.gd_true(v:V):V.gd true v=v:=rfl
theorem V.gd_false(v:V):V.gd false v=V.undef:=rfl
theorem aDf(c:Bool)(x y:V):V.pick c (V.gd c x) y=V.pick c x y:=by cases c<;>simp[V.gd,lF,iS]
theorem aCi(c:Bool)(x y:V):V.pick c x (V.gd (!c) y)=V.pick c x y:=by cases c<;>simp[V.gd,lF,iS]
theorem aCj(t x:Bool):V.pick t (.bool x) (.bool false)= .bool (t&&x):=by cases t<;>rfl
theorem aDe(t y:Bool):V.pick t (.bool true) (.bool y)= .bool (t||y):=by cases t<;>rfl
def aEh(g:Option (Nat×Bool)):List aA→List aA
 | []=>[]
 |o::r=>if o.g=g then o::aEh g r else []
def aDC(g:Option (Nat×Bool)):List aA→List aA
 | []=>[]
 |o::r=>if o.g=g then aDC g r else o::r
def aEs(l:List aA):List aA:=l.map fun o=>⟨o.dst,none,o.op⟩
def aCG(c:Bool)(sl':List V):List aA→List V→List V
 | [],sl=>sl
 |o::r,sl=>aCG c sl' r (match o.dst with|some d=>sl.set d (V.gd c (sl'.getD d V.undef))|none=>sl)
theorem aBE{K:Ker}{h:Hp}(hr:Rel K h){n a:Nat}{k:Sh}{es:List V}{i o:Nat}{cv:Value}(hn:h n=some (.arr k es))(ha:¬K.live a)(hv:VR K (.ptr n k i o) cv):
 ∃K',K'.w=K.w∧K.le K'∧(∀m,K'.live m→K.live m∨m=a)∧VR K' (.ept k es i o) cv∧Rel K' (h.del n):=by
 have hb:=hr.blk n _ hn
 cases hb with
 |arr _ _ c T hh hcs himm hfit hcv=>
  cases hv with
  |ptr _ _ _ _ hl=>
   have hblk:K.mu n<K.w.heap.size:=by
    rcases Nat.lt_or_ge (K.mu n) K.w.heap.size with hlt|hge
    ·exact hlt
    rw[Array.getElem?_eq_none hge] at hh;exact absurd hh (by simp)
   have hle:K.le (K.claim a (K.mu n) (es.length*k.size)):=K.le_claim ha (by rw[himm];exact Nat.zero_le _)
   have hmu:(K.claim a (K.mu n) (es.length*k.size)).mu a=K.mu n:=by simp[Ker.claim]
   have hrel:=hr.claim hn (a:=a) (m:=es.length*k.size) ha (by rw[himm];exact Nat.zero_le _) (b1:= .tip) (.tip c T (by rw[hmu];exact hh) (by simp[Ker.claim]) (by simp only[Ker.claim,if_true];exact hcs))
   refine⟨K.claim a (K.mu n) (es.length*k.size),rfl,hle,fun m hm=>hm.symm,?_,hrel.weaken ?_⟩
   ·have:=VR.ept (K:=K.claim a (K.mu n) (es.length*k.size)) k es i o (K.mu n) 0 (fun j=>c.getD j Go.undef) hblk hfit
     (fun j hj=>by
       show K.w.cell? _=_
       simp only[World.cell?,hh,Nat.zero_add]
       rw[Array.getD_eq_getD_getElem?,Array.getElem?_eq_getElem (by omega)]
       rfl)
     (fun j hj=> .inr (by simp only[Ker.claim,if_true];omega))
     (fun i hi j hj=>(hcv i hi j hj).mono hle)
    simpa using this
   intro m b e
   unfold Hp.del at e
   split at e
   ·cases e
   rename_i hm
   have hma:m≠a:=fun e2=>ha (e2▸hr.lt m b e)
   unfold Hp.set Hp.del
   rw[if_neg hma,if_neg hm];exact e
def V.loose:V→V
 | .sl k .nil es=> .sl k .nil es
 | .sl k _ es=> .sl k .free es
 | .agg cs=> .agg (cs.map fun c=>match c with
  | .sl k .nil es=> .sl k .nil es
  | .sl k _ es=> .sl k .free es
  |v=>v)
 |v=>v
theorem VR.loose{K:Ker}{v:V}{cv:Value}(r:VR K v cv):VR K v.loose cv:=by
 have one:∀{k:Sh} {own:Own} {es:List V} {cv:Value},VR K (.sl k own es) cv→VR K (match V.sl k own es with| .sl k .nil es=> .sl k .nil es| .sl k _ es=> .sl k .free es|v=>v) cv:=by
  intro k own es cv r
  cases own with
  |nil=>exact r
  |full=>exact r.free (by simp)
  |tok n=>exact r.free (by simp)
  |free=>exact r.free (by simp)
 cases v with
 |sl k own es=>cases own<;>first|exact r|exact r.free (by simp)
 |agg cs=>
  cases r with
  |agg _ ccs hl hv=>
   refine .agg _ ccs (by simpa using hl) fun i hi=>?_
   have hi':i<cs.length:=by simpa using hi
   have:=hv i hi'
   simp only[List.getD_eq_getElem?_getD,List.getElem?_map,List.getElem?_eq_getElem hi',Option.map_some,Option.getD_some] at this⊢
   generalize cs[i]=c at this⊢
   cases c<;>first|exact this|exact one this
 |_=>exact r
theorem sH{P:Program}{f:FuncId}{args:List V}{h:Hp}{nx:Nat}{g:Fn}{v0:V}
 (c:aP P f args h nx fun v h' _=>∃n,nx≤n∧v= .fn g [] [.ptr n .leaf 0 0]∧h'=h.set n (.arr .leaf [v0])):
 aP P f args h nx fun v h' _=>v= .fn g [] [.ept .leaf [v0.loose] 0 0]∧h'=h:=by
 refine⟨c.1,fun K cargs hl hr hv=>(c.2 K cargs hl hr hv).mono ?_⟩
 rintro e w' ⟨K',v,cv,h',nx',rfl,he,hle,hvr,hrel,hlv,hnx,n,hn,rfl,rfl⟩
 have hfr:¬K'.live nx':=fun hh=>Nat.lt_irrefl _ (hlv nx' hh).1
 have hset:(h.set n (.arr .leaf [v0])) n=some (.arr .leaf [v0]):=by simp[Hp.set]
 cases hvr with
 |fn _ _ _ cf cc h1 h2 v1 v2=>
 have vp:=v2 0 (by simp)
 simp only[List.getD_cons_zero] at vp
 obtain⟨K'',q1,q2,q3,q4,q5⟩:=aBE hrel hset hfr vp
 have hdom:h n=none:=by
  cases hd:h n with
  |none=>rfl
  |some b=>exact absurd (hl n (hr.lt n b hd)) (by omega)
 have hh:(h.set n (.arr .leaf [v0])).del n=h:=by
  funext x
  unfold Hp.set Hp.del
  by_cases e2:x=n
  ·subst e2;simp[hdom]
  simp[e2]
 rw[hh] at q5
 have q4':VR K'' (.ept .leaf [v0.loose] 0 0) (cc.getD 0 Go.undef):=by
  generalize cc.getD 0 Go.undef=x at q4⊢
  cases q4 with
  |ept _ _ _ _ b off f hb hfit hcell hst hvv=>
   have hleaf:v0.leafy=true:=by simpa [V.fits] using hfit v0 (by simp)
   have hll:v0.loose.leafy=true:=by
    cases v0<;>first|rfl|(simp[V.leafy] at hleaf)|skip
    rename_i own es
    cases own<;>rfl
   have hc1:∀v:V,v.leafy=true→v.cell 0=v:=fun v hv=>by cases v<;>first|rfl|(simp[V.leafy] at hv)
   refine .ept _ _ _ _ b off f hb (by simpa [V.fits] using hll) hcell hst ?_
   intro i hi j hj
   have hi0:i=0:=by simpa using hi
   have hj0:j=0:=by simpa [Sh.size] using hj
   subst hi0 hj0
   have:=hvv 0 (by simp) 0 (by simp[Sh.size])
   simp only[List.getD_cons_zero,hc1 _ hleaf,hc1 _ hll] at this⊢
   exact this.loose
 refine⟨K'',_,_,h,nx'+1,q1,he,hle.trans q2, .fn g [] [.ept .leaf [v0.loose] 0 0] cf cc h1 h2 (fun i hi=>absurd hi (by simp)) (fun i hi=>?_),q5,fun m hm=>?_,by omega,rfl,rfl⟩
 ·have hi0:i=0:=by simpa using hi
  subst hi0
  exact q4'
 rcases q3 m hm with hm|rfl
 ·exact⟨by have:=(hlv m hm).1;omega,(hlv m hm).2⟩
 exact⟨by omega, .inr hnx⟩
section
variable{P:Program}{h0:Hp}{nx0:Nat}
theorem nY{tl:List aA}{n:Nat}{Q:bB→St→Prop}{s:St}{sl:List V}{adds:List (Option Blk)}{cons:List (Option Con)}(h:aW P tl (Q .normal) ⟨sl,sJ (kX s.h s.nx adds) cons,s.nx+n⟩):aCK P tl n Q s sl adds cons:=h
abbrev DL:=List (aA×List Nat)
def aEk(g:Option (Nat×Bool)):DL→DL
 | []=>[]
 |o::r=>if o.1.g=g then o::aEk g r else []
def aDD(g:Option (Nat×Bool)):DL→DL
 | []=>[]
 |o::r=>if o.1.g=g then aDD g r else o::r
def aEj(l:DL):DL:=l.map fun o=>(⟨o.1.dst,none,o.1.op⟩,o.2)
def aCP(c:Bool)(sl':List V):DL→List V→List V
 | [],sl=>sl
 |o::r,sl=>aCP c sl' r (match o.1.dst with|some d=>sl.set d (V.gd c (sl'.getD d V.undef))|none=>sl)
def aDA{α:Type}:DL→List (Option α)
 | []=>[]
 |_::r=>none::aDA r
end
theorem aEq{a j k:Nat}:a+(j+1)+(k+1)=a+(j+k+2):=by omega
theorem nE{sl:List V}{t:Nat}{v:V}(h:sl.getD t V.undef=v):sl.set t v=sl:=by
 rcases Nat.lt_or_ge t sl.length with ht|ht
 ·rw[List.getD_eq_getElem?_getD,List.getElem?_eq_getElem ht] at h
  simp only[Option.getD_some] at h
  rw[←h]
  exact List.set_getElem_self ht
 exact List.set_eq_of_length_le ht
section
variable{P:Program}{r:List aA}{Qs:St→Prop}{s:St}{dst:Option Nat}
theorem rC{t:Nat}{want b:Bool}{op:LOp}(hb:s.sl.getD t V.undef= .bool b)
 (h1:b=want→aW P (⟨dst,none,op⟩::r) Qs ⟨s.sl.set t (.bool want),s.h,s.nx⟩) (h2:b= !want→aW P r Qs ⟨bC (s.sl.set t (.bool !want)) dst V.undef,s.h,s.nx⟩):
 aW P (⟨dst,some (t,want),op⟩::r) Qs s:=by
 refine zQ hb (fun e=>?_) (fun e=>?_)
 ·have:=h1 e
  rw[←e,nE hb] at this
  exact this
 have e':b= !want:=by cases b<;>cases want<;>simp at e⊢
 have:=h2 e'
 rw[←e',nE hb] at this
 exact this
end
section
variable{P:Program}{h0:Hp}{nx0:Nat}{Q:List V→List (Option Blk)→List (Option Con)→Prop}{sl:List V}{adds:List (Option Blk)}{cons:List (Option Con)}{r:List (aA×List Nat)}{dst:Option Nat}{deps:List Nat}
theorem rS{t:Nat}{want b:Bool}{op:LOp}(hb:sl.getD t V.undef= .bool b)(h1:b=want→cE P h0 nx0 ((⟨dst,none,op⟩,deps)::r) (sl.set t (.bool want)) adds cons Q)
 (h2:b= !want→cE P h0 nx0 r (bC (sl.set t (.bool !want)) dst V.undef) (adds++[none]) (cons++[none]) Q):cE P h0 nx0 ((⟨dst,some (t,want),op⟩,deps)::r) sl adds cons Q:=by
 refine aAj hb (fun e=>?_) (fun e=>?_)
 ·have:=h1 e
  rw[←e,nE hb] at this
  exact this
 have e':b= !want:=by cases b<;>cases want<;>simp at e⊢
 have:=h2 e'
 rw[←e',nE hb] at this
 exact this
end
section
variable{P:Program}{h0:Hp}{nx0:Nat}{Q:List V→List (Option Blk)→List (Option Con)→Prop}{sl:List V}{adds:List (Option Blk)}{cons:List (Option Con)}{r:List (aA×List Nat)}{dst:Option Nat}{deps:List Nat}{t:Nat}{op:LOp}
end
theorem aAi{P:Program}{h0:Hp}{nx0:Nat}{Q:List V→List (Option Blk)→List (Option Con)→Prop}{sl:List V}{adds:List (Option Blk)}{cons:List (Option Con)}{r:List (aA×List Nat)}{dst:Option Nat}{deps:List Nat}{t:Sh}{x v:aG}{j i o:Nat}{k:Sh}{es:List V}
 (hx:x.ev sl= .ptr (nx0+j) k i o) (ha:adds.getD j none=some (.arr k es)) (hd:j∈deps) (hu:cX (nx0+j) cons) (hi:i<es.length) (hp:bV k t o) (hf:(v.ev sl).fits t=true)
 (h:cE P h0 nx0 r (bC sl dst V.undef) (adds++[none]) (cons++[some ⟨nx0+j, .arr k es,some (.arr k (es.set i (bF t o (es.getD i V.undef) (v.ev sl))))⟩]) Q):cE P h0 nx0 ((⟨dst,none, .store t x v⟩,deps)::r) sl adds cons Q:=
 aAh hx (by rw[pC];exact⟨hu,hd,ha⟩) hi hp hf h
def mH(b:Bool)(A B:Prop):Prop:=(b=true→A)∧(b=false→B)
theorem wK{A B:Prop}(h:A):mH true A B:=⟨(fun _=>h),(fun h=>by cases h)⟩
theorem aAJ{A B:Prop}(h:B):mH false A B:=⟨(fun h=>by cases h),(fun _=>h)⟩
theorem aDr{b:Bool}{A B:Prop}(h1:b=true→A)(h2:b=false→B):mH b A B:=⟨h1,h2⟩
theorem qA{P:Program}{c:aG}{a b:aJ}{Q:bB→St→Prop}{s:St}(h:lwp P (.cond c a b) Q s):lwp P (.cond c a b) Q s:=h
theorem wE{P:Program}{n:Nat}{hd:List (aA×List Nat)}{tl:List aA}{Q:bB→St→Prop}{s:St}(h:lwp P (.draw n hd tl) Q s):lwp P (.draw n hd tl) Q s:=h
theorem pX{P:Program}{o:aA}{r:List aA}{Q:St→Prop}{s:St}(h:aW P (o::r) Q s):aW P (o::r) Q s:=h
theorem pZ{P:Program}{h0:Hp}{nx0:Nat}{Q:List V→List (Option Blk)→List (Option Con)→Prop}{sl:List V}{adds:List (Option Blk)}{cons:List (Option Con)}{l:List (aA×List Nat)}(h:cE P h0 nx0 l sl adds cons Q):cE P h0 nx0 l sl adds cons Q:=h
theorem lH{P:Program}{c:aG}{a b:aJ}{Q:bB→St→Prop}{s:St}{t:Bool}(hc:c.ev s.sl= .bool t)(h:mH t (lwp P a Q s) (lwp P b Q s)):lwp P (.cond c a b) Q s:=cA t hc h.1 h.2
theorem gZ{P:Program}{r:List aA}{Qs:St→Prop}{s:St}{dst:Option Nat}{t:Nat}{b:Bool}{op:LOp}(hb:s.sl.getD t V.undef= .bool b)
 (h:mH b (aW P (⟨dst,none,op⟩::r) Qs ⟨s.sl.set t (.bool true),s.h,s.nx⟩) (aW P r Qs ⟨bC (s.sl.set t (.bool false)) dst V.undef,s.h,s.nx⟩)):aW P (⟨dst,some (t,true),op⟩::r) Qs s:=
 rC hb h.1 h.2
theorem hN{P:Program}{r:List aA}{Qs:St→Prop}{s:St}{dst:Option Nat}{t:Nat}{b:Bool}{op:LOp}(hb:s.sl.getD t V.undef= .bool b)
 (h:mH b (aW P r Qs ⟨bC (s.sl.set t (.bool true)) dst V.undef,s.h,s.nx⟩) (aW P (⟨dst,none,op⟩::r) Qs ⟨s.sl.set t (.bool false),s.h,s.nx⟩)):aW P (⟨dst,some (t,false),op⟩::r) Qs s:=
 rC hb h.2 h.1
section
variable{P:Program}{h0:Hp}{nx0:Nat}{Q:List V→List (Option Blk)→List (Option Con)→Prop}{sl:List V}{adds:List (Option Blk)}{cons:List (Option Con)}{r:List (aA×List Nat)}{dst:Option Nat}{deps:List Nat}{t:Nat}{op:LOp}
theorem hT{b:Bool}(hb:sl.getD t V.undef= .bool b)(h:mH b (cE P h0 nx0 ((⟨dst,none,op⟩,deps)::r) (sl.set t (.bool true)) adds cons Q) (cE P h0 nx0 r (bC (sl.set t (.bool false)) dst V.undef) (adds++[none]) (cons++[none]) Q)):
 cE P h0 nx0 ((⟨dst,some (t,true),op⟩,deps)::r) sl adds cons Q:=rS hb h.1 h.2
theorem hZ{b:Bool}(hb:sl.getD t V.undef= .bool b)(h:mH b (cE P h0 nx0 r (bC (sl.set t (.bool true)) dst V.undef) (adds++[none]) (cons++[none]) Q) (cE P h0 nx0 ((⟨dst,none,op⟩,deps)::r) (sl.set t (.bool false)) adds cons Q)):
 cE P h0 nx0 ((⟨dst,some (t,false),op⟩,deps)::r) sl adds cons Q:=rS hb h.2 h.1
end
theorem aQ{t u:Nat}{k:Sh}{R:V→Hp→Nat→Prop}{s:St}(ho:(aS.load k (.slot t)).ok s.sl s.h)(h':Hp)(hle:h'.le s.h)(hR:R (.tup [(aS.load k (.slot t)).out s.sl s.h,s.sl.getD u V.undef]) h' s.nx):qM [.cell t k, .slot u] R .ret s:=by
 have:=aS.sem_of_ok (R:=fun v=>∃h',h'.le s.h∧R (kD [v,s.sl.getD u V.undef]) h' s.nx) ho ⟨h',hle,by generalize (aS.load k (.slot t)).out s.sl s.h=x at hR;exact hR⟩
 exact this
def Acc(h:Hp)(n0:Nat)(o:Own)(es:List V):Prop:=(es=[]∧o= .nil)∨(es≠ []∧∃id,n0≤id∧o= .tok id∧h id=some .tip)
def aDa(h:Hp)(n0:Nat)(o:Own):Prop:=∃id,n0≤id∧o= .tok id∧h id=some .tip
def Hp.delO(h:Hp):Own→Hp
 | .tok n=>h.del n
 |_=>h
theorem aCO(h:Hp):h.delO .nil=h:=rfl
theorem aCN(h:Hp)(n:Nat):h.delO (.tok n)=h.del n:=rfl
def Hp.same(n0:Nat)(h h':Hp):Prop:=∀m,m<n0→h' m=h m
theorem Hp.same.rfl'{n0:Nat}{h:Hp}:Hp.same n0 h h:=fun _ _=>rfl
theorem dG{n0 n:Nat}{h h':Hp}(s:Hp.same n0 h h')(hn:n0≤n)(b:Blk):Hp.same n0 h (h'.set n b):=fun m hm=>by
 unfold Hp.set
 rw[if_neg (by omega)]
 exact s m hm
theorem nH{n0 n:Nat}{h h':Hp}(s:Hp.same n0 h h')(hn:n0≤n):Hp.same n0 h (h'.del n):=fun m hm=>by
 unfold Hp.del
 rw[if_neg (by omega)]
 exact s m hm
theorem aBa{n0:Nat}{h h':Hp}{o:Own}(s:Hp.same n0 h h')(ho:∀id,o= .tok id→n0≤id):Hp.same n0 h (h'.delO o):=by
 cases o with
 |tok id=>exact nH s (ho id rfl)
 |_=>exact s
theorem Acc.ge{h:Hp}{n0:Nat}{o:Own}{es:List V}(a:Acc h n0 o es)(id:Nat)(e:o= .tok id):n0≤id:=by
 rcases a with⟨_,rfl⟩|⟨_,id',hge,rfl,_⟩
 ·cases e
 injection e with e;omega
theorem Hp.same.le{n0:Nat}{h h':Hp}(s:Hp.same n0 h h'){h0:Hp}(hd:aX h0 n0)(hle:h0.le h):h0.le h':=fun m b e=>by rw[s m (hd m b e)];exact hle m b e
theorem aX.delO{h:Hp}{nx:Nat}(hd:aX h nx)(o:Own):aX (h.delO o) nx:=by
 cases o<;>first|exact hd|exact hd.del
theorem Acc.set{h:Hp}{n0 n:Nat}{o:Own}{es:List V}(a:Acc h n0 o es)(hn:h n≠some .tip)(b:Blk):Acc (h.set n b) n0 o es:=by
 rcases a with⟨e,eo⟩|⟨e,id,hge,eo,ht⟩
 ·exact .inl ⟨e,eo⟩
 refine .inr ⟨e,id,hge,eo,?_⟩
 unfold Hp.set
 rw[if_neg (fun e2=>hn (by rw[←e2];exact ht))]
 exact ht
theorem Acc.del{h:Hp}{n0 n:Nat}{o:Own}{es:List V}(a:Acc h n0 o es)(hn:o≠ .tok n):Acc (h.del n) n0 o es:=by
 rcases a with⟨e,eo⟩|⟨e,id,hge,eo,ht⟩
 ·exact .inl ⟨e,eo⟩
 refine .inr ⟨e,id,hge,eo,?_⟩
 unfold Hp.del
 rw[if_neg (fun e=>hn (by rw[eo,e]))]
 exact ht
theorem Acc.delO{h:Hp}{n0:Nat}{o o':Own}{es:List V}(a:Acc h n0 o es)(hn:∀id,o'= .tok id→o≠ .tok id):Acc (h.delO o') n0 o es:=by
 cases o' with
 |tok id=>exact a.del (hn id rfl)
 |_=>exact a
theorem aDa.set{h:Hp}{n0 n:Nat}{o:Own}(a:aDa h n0 o)(hn:h n≠some .tip)(b:Blk):aDa (h.set n b) n0 o:=by
 obtain⟨id,hge,eo,ht⟩:=a
 refine⟨id,hge,eo,?_⟩
 unfold Hp.set
 rw[if_neg (fun e2=>hn (by rw[←e2];exact ht))]
 exact ht
theorem Acc.up{h:Hp}{n0 n1:Nat}{o:Own}{es:List V}(a:Acc h n1 o es)(hn:n0≤n1):Acc h n0 o es:=by
 rcases a with⟨e,eo⟩|⟨e,id,hge,eo,ht⟩
 ·exact .inl ⟨e,eo⟩
 exact .inr ⟨e,id,by omega,eo,ht⟩
theorem aX.ntip{h:Hp}{nx n:Nat}(hd:aX h nx)(hn:nx≤n):h n≠some .tip:=fun e=>absurd (hd n _ e) (by omega)
theorem xI{h:Hp}{n:Nat}{k:Sh}{es:List V}:h.set n (.arr k es) n≠some .tip:=by unfold Hp.set;rw[if_pos rfl];exact(fun e=>by cases e)
theorem aDh{h:Hp}{n:Nat}{k:Sh}{es:List V}(e:h n=some (.arr k es)):h n≠some .tip:=by rw[e];exact(fun e=>by cases e)
theorem qN{h:Hp}{n m:Nat}{b:Blk}(hn:m≠n)(hm:h m≠some .tip):h.set n b m≠some .tip:=by unfold Hp.set;rw[if_neg hn];exact hm
theorem aCl{h:Hp}{n m:Nat}(hm:h m≠some .tip):h.del n m≠some .tip:=by unfold Hp.del;split<;>first|exact hm|exact(fun e=>by cases e)
theorem Acc.new{h:Hp}{n0 n:Nat}(es:List V)(hne:es≠ [])(hn:n0≤n):Acc (h.set n .tip) n0 (.tok n) es:= .inr ⟨hne,n,hn,rfl,by unfold Hp.set;rw[if_pos rfl]⟩
theorem Acc.nil{h:Hp}{n0:Nat}:Acc h n0 .nil []:= .inl ⟨rfl,rfl⟩
theorem Acc.loose{h:Hp}{n0:Nat}{o:Own}{k:Sh}{es:List V}(a:Acc h n0 o es):(V.sl k o es).loose=(if es.isEmpty=true then .sl k .nil [] else .sl k .free es):=by
 rcases a with⟨rfl,rfl⟩|⟨hne,id,_,rfl,_⟩
 ·rfl
 cases es with
 |nil=>exact absurd rfl hne
 |cons=>rfl
theorem Acc.ok{h:Hp}{n0:Nat}{o:Own}{es:List V}(a:Acc h n0 o es):pS h o:=by
 rcases a with⟨_,rfl⟩|⟨_,id,_,rfl,ht⟩
 ·trivial
 exact ht
theorem aDa.ok{h:Hp}{n0:Nat}{o:Own}(a:aDa h n0 o):pS h o:=by
 obtain⟨id,_,rfl,ht⟩:=a
 exact ht
section
variable{P:Program}{r:List aA}{Qs:St→Prop}{s:St}{dst:Option Nat}
theorem aBp{k:Sh}{bs:Nat}{x y:aG}{o:Own}{es ys:List V}(hx:x.ev s.sl= .sl k o es)(ha:pS s.h o)(hy:dW s.h (y.ev s.sl)=some (k,ys))(hne:ys≠ [])(hb:(es.length+ys.length)*bs≤140737488355328)
 (hq:aW P r Qs ⟨bC s.sl dst (.sl k (.tok s.nx) (es++ys)),(s.h.delO o).set s.nx .tip,s.nx+1⟩):aW P (⟨dst,none, .append k bs x y⟩::r) Qs s:=by
 have hys:ys.isEmpty=false:=by cases ys with|nil=>exact absurd rfl hne|cons=>rfl
 unfold aW
 simp only[LOp.run,LOp.sem,hy,hx,true_and]
 refine⟨hb, .inl ⟨ha,?_⟩⟩
 cases o with
 |free=>exact ha.elim
 |nil=>simpa only[dP,eN,hys,Hp.delO,Bool.false_eq_true,if_false] using hq
 |full=>simpa only[dP,eN,hys,Hp.delO,Bool.false_eq_true,if_false] using hq
 |tok id=>exact hq
theorem aCv{k:Sh}{bs:Nat}{x y:aG}{o:Own}{es ys:List V}{n0:Nat}(hx:x.ev s.sl= .sl k o es)(ha:Acc s.h n0 o es)(hy:dW s.h (y.ev s.sl)=some (k,ys))(hne:ys≠ [])(hb:(es.length+ys.length)*bs≤140737488355328)
 (hq:aW P r Qs ⟨bC s.sl dst (.sl k (.tok s.nx) (es++ys)),(s.h.delO o).set s.nx .tip,s.nx+1⟩):aW P (⟨dst,none, .append k bs x y⟩::r) Qs s:=
 aBp hx ha.ok hy hne hb hq
end
def LOp.isApp:LOp→Bool
 | .append .. =>true
 |_=>false
def aA.plain2(o:aA):Bool:=o.plain&& !o.op.isApp
def kR:List aA→List aA
 | []=>[]
 |o::r=>match o.plain2 with
  |true=>o::kR r
  |false=>[]
def lM:List aA→List aA
 | []=>[]
 |o::r=>match o.plain2 with
  |true=>lM r
  |false=>o::r
theorem aAD{P:Program}{Q:St→Prop}:∀(l:List aA) (s:St),mA (kR l) s→aW P (lM l) Q (fM (kR l) s)→aW P l Q s
 | [],s,_,h=>h
 |o::r,s,ho,h=>by
  cases hc:o.plain2 with
  |false=>simp only[kR,lM,hc] at ho h;exact h
  |true=>
   simp only[kR,lM,hc] at ho h
   have hcall:o.op.isCall=false:=by
    simp only[aA.plain2,Bool.and_eq_true] at hc
    have hc:=hc.1
    unfold aA.plain at hc
    split at hc
    ·simpa using hc
    cases hc
   exact lJ hcall ho.1 (aAD r _ ho.2 h)
theorem nQ{P:Program}{Q:St→Prop}{o:aA}{r:List aA}{s:St}(_:o.plain2=true)(ho:mA (kR (o::r)) s)(h:aW P (lM (o::r)) Q (fM (kR (o::r)) s)):aW P (o::r) Q s:=aAD _ s ho h
theorem aCu{P:Program}{Q:St→Prop}{o:aA}{r:List aA}{s:St}(hp:o.op.isApp=true)(hg:o.g=none)(ho:o.ok s)(h:aW P r Q (o.next s)):aW P (o::r) Q s:=by
 refine lJ ?_ ho h
 cases e:o.op<;>rw[e] at hp<;>first|rfl|cases hp
theorem aEr{a b:Nat}(h:a<b):(a=b)=False:=tO (by omega)
theorem aEd{a b k:Nat}(h:a<b):(a=b+k)=False:=tO (by omega)
theorem aEe{a b:Nat}(h:a<b):(b=a)=False:=tO (by omega)
theorem aDN{a b k:Nat}(h:a<b):(b+k=a)=False:=tO (by omega)
class Stp(A:Prop)(B:outParam Prop):Prop where
 go:B→A
theorem stp{A B:Prop} [i:Stp A B](h:B):A:=i.go h
variable{P:Program}{Q:bB→St→Prop}{s:St}
instance aEO{a b:aJ}:Stp (lwp P (.seq a b) Q s) (lwp P a (mN (lwp P b) Q) s):=⟨dR⟩
instance aEN{l:List aA}:Stp (lwp P (.ops l) Q s) (aW P l (Q .normal) s):=⟨dS⟩
instance aEM{b:(bB→St→Prop)→St→Prop}:Stp (mN b Q .normal s) (b Q s):=⟨bM⟩
instance aEL{R:St→Prop}:Stp (aW P [] R s) (R s):=⟨dN⟩
instance aEK{id:Nat}:Stp (cK id Q .normal s) (Q .normal s):=⟨bI⟩
instance aEJ{id:Nat}{c:aJ}:Stp (lwp P (.block id c) Q s) (lwp P c (cK id Q) s):=⟨cU⟩
instance aEI:Stp (lwp P .skip Q s) (Q .normal s):=⟨fC⟩
instance aEH:Stp (lwp P .ret Q s) (Q .ret s):=⟨bN⟩
instance aEG{b:(bB→St→Prop)→St→Prop}:Stp (mN b Q .ret s) (Q .ret s):=⟨eY⟩
instance aEF{id:Nat}:Stp (cK id Q .ret s) (Q .ret s):=⟨eC⟩
instance aEE{ι:Type}{sl:ι→List V}{C:ι→Hp→Nat→Prop}{m:ι→Nat}{n:Nat}:Stp (bU sl C m n Q .ret s) (Q .ret s):=⟨dY⟩
instance aED{id:Nat}:Stp (lwp P (.exit id) Q s) (Q (.exit id) s):=⟨kN⟩
instance aEC{b:(bB→St→Prop)→St→Prop}{id:Nat}:Stp (mN b Q (.exit id) s) (Q (.exit id) s):=⟨iL⟩
instance aEB{ι:Type}{sl:ι→List V}{C:ι→Hp→Nat→Prop}{m:ι→Nat}{n id:Nat}:Stp (bU sl C m n Q (.exit id) s) (Q (.exit id) s):=⟨dZ⟩
instance aEA{id:Nat}:Stp (cK id Q (.exit id) s) (Q .normal s):=⟨eD⟩
instance aEz{A B:Prop}:Stp (mH true A B) A:=⟨wK⟩
instance aEy{A B:Prop}:Stp (mH false A B) B:=⟨aAJ⟩
theorem ee2{p0 p1:Prop}(x0:p0)(x1:p1):p0∧p1:=⟨x0,x1⟩
theorem ee4{p0 p1 p2 p3:Prop}(x0:p0)(x1:p1)(x2:p2)(x3:p3):p0∧p1∧p2∧p3:=⟨x0,x1,x2,x3⟩
theorem ee5{p0 p1 p2 p3 p4:Prop}(x0:p0)(x1:p1)(x2:p2)(x3:p3)(x4:p4):p0∧p1∧p2∧p3∧p4:=⟨x0,x1,x2,x3,x4⟩
theorem wl{G B:Prop}(k:B)(h:PLift B→G:=by
 intro k
 (repeat (first|with_reducible refine dR ?_|with_reducible refine cU ?_|with_reducible refine fC ?_|with_reducible refine bM ?_|with_reducible refine bI ?_|with_reducible refine dS ?_|(refine fE rfl (by simp only[go_sem,reduceIte,Nat.reduceAdd,Nat.reduceSub,Nat.reduceLT,Nat.reduceLeDiff,reduceCtorEq,Nat.reduceEqDiff,Int.reduceToNat];try omega) ?_;simp only[go_sem,reduceIte,Nat.reduceAdd,Nat.reduceSub,Nat.reduceLT,Nat.reduceLeDiff,reduceCtorEq,Nat.reduceEqDiff,Int.reduceToNat])|(with_reducible refine dN ?_)))
 exact k.down):G:=h ⟨k⟩
theorem wle{G B p:Prop}(E:p)(k:B)(h:p→PLift B→G:=by
 intro E k
 (repeat (first|with_reducible refine dR ?_|with_reducible refine cU ?_|with_reducible refine fC ?_|with_reducible refine bM ?_|with_reducible refine bI ?_|with_reducible refine dS ?_|(refine fE rfl (by simp only[E,List.length_map,go_sem,reduceIte,Nat.reduceAdd,Nat.reduceSub,Nat.reduceLT,Nat.reduceLeDiff,reduceCtorEq,Nat.reduceEqDiff,Int.reduceToNat];try omega) ?_;simp only[E,List.length_map,go_sem,reduceIte,Nat.reduceAdd,Nat.reduceSub,Nat.reduceLT,Nat.reduceLeDiff,reduceCtorEq,Nat.reduceEqDiff,Int.reduceToNat])|(with_reducible refine dN ?_)))
 exact k.down):G:=h E ⟨k⟩
attribute [go_sem] Option.some.injEq Prod.mk.injEq false_and and_false Bool.true_eq_false aEk aDD aEj aCP aDA if_true Bool.true_and aDp oA xZ mA fM aA.ok aA.next LOp.ok LOp.next aS.ok aS.out aG.ev bC aAN lF iS tM V.undef Sh.size kX rU fG aA.dok aA.dres LOp.dok LOp.dout aAg aAK eQ fF List.take_succ_cons List.take_zero List.take_nil List.drop_succ_cons List.drop_zero List.drop_nil List.set_cons_succ List.set_cons_zero List.getD_cons_succ List.getD_cons_zero List.length_cons List.length_nil List.map_cons List.map_nil List.all_cons List.all_nil List.mem_cons List.not_mem_nil List.replicate_succ List.replicate_zero List.cons_append List.nil_append List.append_nil List.isEmpty_cons List.isEmpty_nil dP eN pS Option.getD_some Option.isSome_some Option.isSome_none Nat.add_eq Nat.zero_add Nat.add_zero true_and and_true and_self true_implies implies_true false_implies forall_const forall_eq forall_eq_or_imp ne_eq not_false_eq_true not_true_eq_false Bool.not_true Bool.not_false decide_true decide_false Bool.and_true Bool.true_and Bool.and_false Bool.false_and true_or or_true false_or or_false eq_self Bool.false_eq_true aEa aDz kD aC cG cT eV rX pA rW iG kV dW Int.toNat_natCast Int.toNat_zero List.take_length Hp.set_app Hp.del_app pO oY aA.plain LOp.isCall aA.dplain LOp.isStop aCt aEh aDC aEs aCG V.gd_true V.gd_false aDf aCi aCj aDe xH aL aN iZ lP beq_true beq_false aBf aBg aBh zT zU vI vJ gA aCH zX aBy aBv vV aBw aBz aCx aCy vW aBx sQ zW aCz xR aBu xS rG aBZ aDH aDI aDG aBO aAs aCR eW aBV aBU aBT aBS aBR yU yT aAS aAR aAQ yX yW yV aBY aBX aBW aAV aAU aAT pC aAo cX sJ Hp.turn gO Option.isNone_some Option.isNone_none aEq kR lM aA.plain2 LOp.isApp aEr aEd aEe aDN aCO aCN
theorem dmo{h H:Hp}{nx n:Nat}(q:aX h nx)(k:aX h nx→aX H n:=by
 intro q;(try dsimp only);repeat (first|exact aX.up q (by omega)|refine aX.set2 ?_ (by omega) _|refine aX.del ?_|refine aX.delO ?_ _)):aX H n:=k q
theorem kep{h h1 H:Hp}{m n:Nat}(q:Hp.same m h h1)(k:Hp.same m h h1→Hp.same n h H:=by
 intro q;(try dsimp only);repeat (first|exact q|refine dG ?_ (by omega) _|refine nH ?_ (by omega))):Hp.same n h H:=k q
theorem aDm{h h1 H:Hp}{m n n0:Nat}{o:Own}{es:List V}(q:Hp.same m h h1)(a:Acc h1 n0 o es)(k:Hp.same m h h1→Acc h1 n0 o es→Hp.same n h H:=by
 intro q a;(try dsimp only);repeat (first|exact q|refine dG ?_ (by omega) _|refine nH ?_ (by omega)|refine aBa ?_ (fun id e=>by have:=a.ge id e;omega))):Hp.same n h H:=k q a
theorem acc{h H:Hp}{nx n0:Nat}{o:Own}{es:List V}(a:Acc h n0 o es)(d:aX h nx)(k:Acc h n0 o es→aX h nx→Acc H n0 o es:=by
 intro a d;(try dsimp only);repeat' (first|exact a|exact aX.ntip d (by omega)|exact xI|exact aDh (by assumption)|refine qN (by omega) ?_|refine aCl ?_|refine Acc.set ?_ ?_ _)):Acc H n0 o es:=k a d
theorem lef{h h1 H:Hp}{nx:Nat}(d:aX h nx)(q:h.le h1)(k:aX h nx→h.le h1→h.le H:=by
 intro d q;(try dsimp only);repeat (first|exact q|refine hP d ?_ (by omega) _|refine nS d ?_ (by omega))):h.le H:=k d q
theorem leo{h H:Hp}{nx:Nat}(d:aX h nx)(k:aX h nx→h.le H:=by
 intro d;(try dsimp only);repeat (first|exact Hp.le_refl _|refine hP d ?_ (by omega) _|refine nS d ?_ (by omega))):h.le H:=k d
theorem dct{p:Prop} [Decidable p](h:p:=by omega):decide p=true:=decide_eq_true h
theorem dcf{p:Prop} [Decidable p](h:¬p:=by omega):decide p=false:=decide_eq_false h
theorem bqf{a b:Int}(h:a≠b:=by omega):(a==b)=false:=by simpa using h
theorem bqt{a b:Int}(h:a=b:=by omega):(a==b)=true:=by simpa using h
theorem bnt{a b:Int}(h:a≠b:=by omega):(a != b)=true:=by simpa using h
theorem bnf{a b:Int}(h:a=b:=by omega):(a != b)=false:=by simpa using h
theorem wrp{a b:Int}(h:a=b:=by omega)(h1:-9223372036854775808≤b:=by omega)(h2:b<9223372036854775808:=by omega):IntKind.i64.wrap a=b:=by rw[h];exact mY (by omega) (by omega)
theorem e2{A B:Prop}(a:A)(b:B):A∧B:=⟨a,b⟩
theorem e3{A B C:Prop}(a:A)(b:B)(c:C):A∧B∧C:=⟨a,b,c⟩
theorem e4{A B C D:Prop}(a:A)(b:B)(c:C)(d:D):A∧B∧C∧D:=⟨a,b,c,d⟩
theorem e5{A B C D E:Prop}(a:A)(b:B)(c:C)(d:D)(e:E):A∧B∧C∧D∧E:=⟨a,b,c,d,e⟩
theorem e6{A B C D E F:Prop}(a:A)(b:B)(c:C)(d:D)(e:E)(f:F):A∧B∧C∧D∧E∧F:=⟨a,b,c,d,e,f⟩
theorem e7{A B C D E F G:Prop}(a:A)(b:B)(c:C)(d:D)(e:E)(f:F)(g:G):A∧B∧C∧D∧E∧F∧G:=⟨a,b,c,d,e,f,g⟩
theorem e8{A B C D E F G H:Prop}(a:A)(b:B)(c:C)(d:D)(e:E)(f:F)(g:G)(h:H):A∧B∧C∧D∧E∧F∧G∧H:=⟨a,b,c,d,e,f,g,h⟩
theorem e9{A B C D E F G H I:Prop}(a:A)(b:B)(c:C)(d:D)(e:E)(f:F)(g:G)(h:H)(i:I):A∧B∧C∧D∧E∧F∧G∧H∧I:=⟨a,b,c,d,e,f,g,h,i⟩
theorem e10{A B C D E F G H I J:Prop}(a:A)(b:B)(c:C)(d:D)(e:E)(f:F)(g:G)(h:H)(i:I)(j:J):A∧B∧C∧D∧E∧F∧G∧H∧I∧J:=⟨a,b,c,d,e,f,g,h,i,j⟩
theorem e11{A B C D E F G H I J K:Prop}(a:A)(b:B)(c:C)(d:D)(e:E)(f:F)(g:G)(h:H)(i:I)(j:J)(k:K):A∧B∧C∧D∧E∧F∧G∧H∧I∧J∧K:=⟨a,b,c,d,e,f,g,h,i,j,k⟩
theorem e12{A B C D E F G H I J K L:Prop}(a:A)(b:B)(c:C)(d:D)(e:E)(f:F)(g:G)(h:H)(i:I)(j:J)(k:K)(l:L):A∧B∧C∧D∧E∧F∧G∧H∧I∧J∧K∧L:=⟨a,b,c,d,e,f,g,h,i,j,k,l⟩
theorem e14{A B C D E F G H I J K L M N:Prop}(a:A)(b:B)(c:C)(d:D)(e:E)(f:F)(g:G)(h:H)(i:I)(j:J)(k:K)(l:L)(m:M)(n:N):A∧B∧C∧D∧E∧F∧G∧H∧I∧J∧K∧L∧M∧N:=⟨a,b,c,d,e,f,g,h,i,j,k,l,m,n⟩
theorem au{G B:Prop}(k:B)(h:PLift B→G:=by
 intro k
 (repeat' (first|(with_reducible first|refine stp ?_|refine cM (by decide) ?_)|((first|(with_reducible refine pX ?_;first|refine nQ rfl ?_ ?_|refine bA (C1 _) rfl (aV _) ?_|refine bA (C2 _) rfl (aV _) ?_|refine bA (C3 _) rfl (aV _) ?_|refine bA (C4 _) rfl (aV _) ?_|refine bA C5 rfl (aV _) ?_|refine bA C6 rfl (aV _) ?_|(first|refine gZ rfl ?_|refine hN rfl ?_)|refine fN rfl ?_)|(with_reducible refine pZ ?_;first|refine nZ rfl ?_ ?_|refine bP (D1 _) rfl (bW _) ?_|refine bP (D2 _) rfl (bW _) ?_|refine bP (D3 _) rfl (bW _) ?_|refine bP (D4 _) rfl (bW _) ?_|refine bP (D5 _) rfl (bW _) ?_|refine bP (D6 _) rfl (bW _) ?_|(first|refine hT rfl ?_|refine hZ rfl ?_)|refine fO rfl ?_|refine gN (lN ?_)|refine gN (nY ?_))|(with_reducible refine qA ?_;refine lH rfl ?_))<;>try simp only[go_sem,reduceIte,Nat.reduceAdd,Nat.reduceSub,Nat.reduceLT,Nat.reduceLeDiff,reduceCtorEq,Nat.reduceEqDiff,Int.reduceToNat])|(with_reducible refine wE ?_;refine qU rfl ?_)|omega))
 exact k.down):G:=h ⟨k⟩
theorem aus{G B:Prop}(k:B)(h:PLift B→G:=by
 intro k
 (repeat' (first|(with_reducible first|refine stp ?_|refine cM (by decide) ?_)|((first|(with_reducible refine pX ?_;first|refine nQ rfl ?_ ?_|refine bA (C1 _) rfl (aV _) ?_|refine bA (C2 _) rfl (aV _) ?_|refine bA (C3 _) rfl (aV _) ?_|refine bA (C4 _) rfl (aV _) ?_|refine bA C5 rfl (aV _) ?_|refine bA C6 rfl (aV _) ?_|(first|refine gZ rfl ?_|refine hN rfl ?_)|refine fN rfl ?_)|(with_reducible refine pZ ?_;first|refine nZ rfl ?_ ?_|refine bP (D1 _) rfl (bW _) ?_|refine bP (D2 _) rfl (bW _) ?_|refine bP (D3 _) rfl (bW _) ?_|refine bP (D4 _) rfl (bW _) ?_|refine bP (D5 _) rfl (bW _) ?_|refine bP (D6 _) rfl (bW _) ?_|(first|refine hT rfl ?_|refine hZ rfl ?_)|refine fO rfl ?_|refine gN (lN ?_)|refine gN (nY ?_))|(with_reducible refine qA ?_;refine lH rfl ?_))<;>try simp only[go_sem,reduceIte,Nat.reduceAdd,Nat.reduceSub,Nat.reduceLT,Nat.reduceLeDiff,reduceCtorEq,Nat.reduceEqDiff,Int.reduceToNat])|omega))
 exact k.down):G:=h ⟨k⟩
theorem aue{G B p:Prop}(E:p)(k:B)(h:p→PLift B→G:=by
 intro E k
 (repeat' (first|(with_reducible first|refine stp ?_|refine cM (by decide) ?_)|((first|(with_reducible refine pX ?_;first|refine nQ rfl ?_ ?_|refine bA (C1 _) rfl (aV _) ?_|refine bA (C2 _) rfl (aV _) ?_|refine bA (C3 _) rfl (aV _) ?_|refine bA (C4 _) rfl (aV _) ?_|refine bA C5 rfl (aV _) ?_|refine bA C6 rfl (aV _) ?_|refine aCv rfl (acc hacc hdm) rfl (by simp) (by simp only[E,List.length_map,go_sem,reduceIte,Nat.reduceAdd,Nat.reduceSub,Nat.reduceLT,Nat.reduceLeDiff,reduceCtorEq,Nat.reduceEqDiff,Int.reduceToNat];try omega) ?_|refine aCu rfl rfl (by simp only[E,List.length_map,go_sem,reduceIte,Nat.reduceAdd,Nat.reduceSub,Nat.reduceLT,Nat.reduceLeDiff,reduceCtorEq,Nat.reduceEqDiff,Int.reduceToNat];try omega) ?_|(first|refine gZ rfl ?_|refine hN rfl ?_)|refine fN rfl ?_)|(with_reducible refine pZ ?_;first|refine nZ rfl ?_ ?_|refine bP (D1 _) rfl (bW _) ?_|refine bP (D2 _) rfl (bW _) ?_|refine bP (D3 _) rfl (bW _) ?_|refine bP (D4 _) rfl (bW _) ?_|refine bP (D5 _) rfl (bW _) ?_|refine bP (D6 _) rfl (bW _) ?_|refine aAi rfl rfl (by decide) (by(simp only[cX,go_sem,reduceIte,Nat.reduceAdd,Nat.reduceSub,Nat.reduceLT,Nat.reduceLeDiff,reduceCtorEq,Nat.reduceEqDiff,Int.reduceToNat])<;>try omega) (by simp only[go_sem,reduceIte,Nat.reduceAdd,Nat.reduceSub,Nat.reduceLT,Nat.reduceLeDiff,reduceCtorEq,Nat.reduceEqDiff,Int.reduceToNat]) (by simp only[go_sem,reduceIte,Nat.reduceAdd,Nat.reduceSub,Nat.reduceLT,Nat.reduceLeDiff,reduceCtorEq,Nat.reduceEqDiff,Int.reduceToNat]) (by simp only[E,go_sem,reduceIte,Nat.reduceAdd,Nat.reduceSub,Nat.reduceLT,Nat.reduceLeDiff,reduceCtorEq,Nat.reduceEqDiff,Int.reduceToNat]) ?_|(first|refine hT rfl ?_|refine hZ rfl ?_)|refine fO rfl ?_|refine gN (lN ?_)|refine gN (nY ?_))|(with_reducible refine qA ?_;refine lH rfl ?_))<;>try simp only[E,List.length_map,go_sem,reduceIte,Nat.reduceAdd,Nat.reduceSub,Nat.reduceLT,Nat.reduceLeDiff,reduceCtorEq,Nat.reduceEqDiff,Int.reduceToNat])|(with_reducible refine wE ?_;refine qU rfl ?_)|omega))
 exact k.down):G:=h E ⟨k⟩
end Go.Proofs.YtemjhgboialjpaaGreat
