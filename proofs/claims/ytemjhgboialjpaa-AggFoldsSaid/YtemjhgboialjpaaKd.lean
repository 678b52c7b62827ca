/-
Texts of this proof,one behind the other. No conditions.
-/
import Derived.Test.YtemjhgboialjpaaKcb
set_option linter.unusedSimpArgs false
set_option linter.unusedVariables false
set_option linter.unusedSectionVars false
namespace Go.Proofs.Ytemjhgboialjpaa
open Go.RowKit
theorem Hp.set_app(h:Hp)(n:Nat)(b:Blk)(m:Nat):(h.set n b) m=if m=n then some b else h m:=rfl
theorem Hp.del_app(h:Hp)(n m:Nat):(h.del n) m=if m=n then Option.none else h m:=rfl
def aX(h:Hp)(nx:Nat):Prop:=∀m b,h m=some b→m<nx
theorem aL.dom{P:Program}{f:FuncId}{args:List V}{h:Hp}{nx:Nat}{R:V→Hp→Nat→Prop}(c:aL P f args h nx R):aL P f args h nx fun v h' nx'=>R v h' nx'∧aX h' nx'∧nx≤nx':=
 ⟨c.1,fun K cargs hl hrel hv=>(c.2 K cargs hl hrel hv).mono fun _ _ ⟨K',v,cv,h',nx',a,b,c,d,e,g,i,j⟩=>⟨K',v,cv,h',nx',a,b,c,d,e,g,i,j,fun m b hm=>(g m (e.lt m b hm)).1,i⟩⟩
theorem dA.dom{P:Program}{n:Nat}{args:List V}{h:Hp}{nx:Nat}{R:V→Hp→Nat→Prop}(c:dA P n args h nx R):dA P n args h nx fun v h' nx'=>R v h' nx'∧aX h' nx'∧nx≤nx':=
 fun m K cargs hl hn hrel hv=>(c m K cargs hl hn hrel hv).mono fun _ _ ⟨K',v,cv,h',nx',a,b,c,d,e,g,i,j⟩=>⟨K',v,cv,h',nx',a,b,c,d,e,g,i,j,fun m b hm=>(g m (e.lt m b hm)).1,i⟩
theorem aX.set{h:Hp}{nx nx' n:Nat}(hd:aX h nx)(hn:n<nx')(hle:nx≤nx')(b:Blk):aX (h.set n b) nx':=fun m c e=>by
 unfold Hp.set at e
 split at e
 ·omega
 have:=hd m c e;omega
theorem aX.del{h:Hp}{nx n:Nat}(hd:aX h nx):aX (h.del n) nx:=fun m c e=>by
 unfold Hp.del at e
 split at e
 ·cases e
 exact hd m c e
theorem aX.up{h:Hp}{nx nx':Nat}(hd:aX h nx)(hle:nx≤nx'):aX h nx':=fun m c e=>by have:=hd m c e;omega
theorem aX.le{h h':Hp}{nx:Nat}(hd:aX h' nx)(hle:h.le h'):aX h nx:=fun m c e=>hd m c (hle m c e)
theorem sE{h h':Hp}{n:Nat}{b:Blk}(hle:h.le h')(hn:h' n=some b):(h.set n b).le h':=fun m c e=>by
 unfold Hp.set at e
 split at e
 ·rename_i em;subst em;injection e with e;subst e;exact hn
 exact hle m c e
theorem fM{h h':Hp}{n:Nat}(hle:h.le h')(hn:h n=none)(b:Blk):h.le (h'.set n b):=fun m c e=>by
 unfold Hp.set
 split
 ·rename_i em;subst em;rw[hn] at e;cases e
 exact hle m c e
theorem jZ{h h':Hp}{n:Nat}(hle:h.le h')(hn:h n=none):h.le (h'.del n):=fun m c e=>by
 unfold Hp.del
 split
 ·rename_i em;subst em;rw[hn] at e;cases e
 exact hle m c e
theorem aX.none{h:Hp}{nx n:Nat}(hd:aX h nx)(hn:nx≤n):h n= .none:=by
 cases e:h n with
 |none=>rfl
 |some b=>exact absurd (hd n b e) (by omega)
theorem aBz{h h':Hp}(hle:h.le h'):Hp.has h h':=fun n b e _=>hle n _ e
theorem Hp.le_trans{a b c:Hp}(h:a.le b)(h':b.le c):a.le c:=fun n x e=>h' n x (h n x e)
def uT(P:Program)(gf:Nat)(caps:List V)(hb:Hp)(xs:List (List V)):Prop:=
 ∀(yn:Nat) (J:Nat→Hp→Nat→Prop) (D:Hp→Nat→Prop),
  (∀i h nx,J i h nx→hb.has h)→(∀i h nx nx',J i h nx→nx≤nx'→J i h nx')→(∀h nx nx',D h nx→nx≤nx'→D h nx')→
  (∀i (hi:i<xs.length) h nx,J i h nx→aX h nx→dA P yn xs[i] h nx fun v h' nx'=>(v= .bool true∧J (i+1) h' nx')∨(v= .bool false∧D h' nx'))→
  ∀h nx,J 0 h nx→aX h nx→aL P gf (.yld yn::caps) h nx fun _ h' nx'=>J xs.length h' nx'∨D h' nx'
def aDf(r:Nat)(X:Blk)(J:St→Prop):bA→St→Prop
 | .normal,s=>s.h r=some X∧J s
 |_,_=>False
def nU(r:Nat)(X:Blk)(I:Hp→Nat→Prop)(E:bA→Hp→Nat→Prop):bA→St→Prop
 | .normal,s=>s.h r=some X∧I s.h s.nx
 |e,s=>s.h r=some X∧E e s.h s.nx
theorem oU{r:Nat}{X:Blk}{J:St→Prop}{s:St}(h:s.h r=some X)(hj:J s):aDf r X J .normal s:=⟨h,hj⟩
theorem lF{r:Nat}{X:Blk}{I:Hp→Nat→Prop}{E:bA→Hp→Nat→Prop}{s:St}(h:s.h r=some X)(hi:I s.h s.nx):nU r X I E .normal s:=⟨h,hi⟩
theorem jS{P:Program}{g:aF}{ps:List Nat}{as b:aK}{Q:bA→St→Prop}{s:St}{gf:Nat}{caps:List V}{hb:Hp}{xs:List (List V)}(hit:uT P gf caps hb xs)(hg:g.ev s.sl= .fn (.func gf) [] caps)
 (hlen:∀x∈xs,x.length=ps.length) (hd:aX s.h s.nx) (I:Nat→Hp→Nat→Prop) (E:bA→Hp→Nat→Prop)
 (hbI:∀i h nx,I i h nx→hb.has h) (hnI:∀i h nx nx',I i h nx→nx≤nx'→I i h nx') (hsI:∀i h nx b,I i h nx→I i (h.set s.nx b) nx)
 (hnE:∀e h nx nx',E e h nx→nx≤nx'→E e h nx') (hsE:∀e h nx b,E e h nx→E e (h.set s.nx b) nx)
 (h0:I 0 s.h (s.nx+1))
 (hround:∀i (hi:i<xs.length) h nx X,I i h nx→s.nx<nx→h s.nx=some X→aX h nx→
   lwp P as (aDf s.nx X fun s1=>∀X',lwp P b (nU s.nx X' (I (i+1)) E) ⟨s1.sl,s1.h.set s.nx X',s1.nx⟩) ⟨putAll s.sl ps xs[i],h,nx⟩)
 (hend:∀h nx,I xs.length h nx→s.nx<nx→aX h nx→Q .normal ⟨s.sl,h.del s.nx,nx⟩)
 (hex:∀e h nx,E e h nx→s.nx<nx→aX h nx→(e= .ret∨∃id,e= .exit id)→Q e ⟨s.sl,h.del s.nx,nx⟩):lwp P (.range g ps as b) Q s:=by
 simp only[lwp,hg]
 intro rcd U hpl hY
 have hset:∀(h:Hp) (b:Blk),(h.set s.nx b) s.nx=some b:=fun h b=>by simp[Hp.set]
 refine((hit s.nx (fun i h nx=>I i h nx∧h s.nx=some (.obj (rcd .ready none) U))
  (fun h nx=>(h s.nx=some (.obj (rcd .done (some .ret)) U)∧E .ret h nx)∨∃id,h s.nx=some (.obj (rcd .done (some (.exit id))) U)∧E (.exit id) h nx)
  (fun i h nx hj=>hbI i h nx hj.1) (fun i h nx nx' hj hle=>⟨hnI i h nx nx' hj.1 hle,hj.2⟩)
  (fun h nx nx' hD hle=>hD.imp (fun hD=>⟨hD.1,hnE _ _ _ _ hD.2 hle⟩) (fun⟨id,hD⟩=>⟨id,hD.1,hnE _ _ _ _ hD.2 hle⟩)) ?_ _ (s.nx+1) ⟨hsI _ _ _ _ h0,hset _ _⟩ ?_).dom).mono ?_
 ·rintro i hi h nx ⟨hI,hr⟩ hdom
  refine hY xs[i] h nx _ (hlen _ (List.getElem_mem _)) hr ?_
  refine jT ?_ (hround i hi h nx _ hI (hdom _ _ hr) hr hdom)
  intro e s1 hq
  cases e with
  |exit id=>exact hq.elim
  |ret=>exact hq.elim
  |normal=>
   refine⟨hq.1,jT ?_ (hq.2 (.obj (rcd .busy none) U))⟩
   intro e s2 hq2
   cases e with
   |normal=>exact⟨hq2.1, .inl ⟨rfl,hsI _ _ _ _ hq2.2,hset _ _⟩⟩
   |ret=>exact⟨hq2.1, .inr ⟨rfl, .inl ⟨hset _ _,hsE _ _ _ _ hq2.2⟩⟩⟩
   |exit id=>exact⟨hq2.1, .inr ⟨rfl, .inr ⟨id,hset _ _,hsE _ _ _ _ hq2.2⟩⟩⟩
 ·intro m b hm
  unfold Hp.set at hm
  split at hm
  ·omega
  have:=hd m b hm;omega
 rintro v h' nx' _ ⟨(⟨hI,hr⟩|(⟨hr,hE⟩|⟨id,hr,hE⟩)),hdom,hle⟩
 ·exact .inl ⟨hr,hend _ _ hI (by omega) hdom⟩
 ·exact .inr (.inl ⟨hr,hex _ _ _ hE (by omega) hdom (.inl rfl)⟩)
 exact .inr (.inr ⟨id,hr,hex _ _ _ hE (by omega) hdom (.inr ⟨id,rfl⟩)⟩)
def cA{ι:Type}(sl:ι→List V)(C:ι→Hp→Nat→Prop)(m:ι→Nat)(n:Nat)(Q:bA→St→Prop):bA→St→Prop
 | .normal,s=>∃s',oI s s'∧∃i,m i<n∧WkL s'.sl (sl i)∧C i s'.h s'.nx
 |e,s=>Q e s
section
variable{P:Program}{Q:bA→St→Prop}{s:St}{ι:Type}{sl:ι→List V}{C:ι→Hp→Nat→Prop}{m:ι→Nat}{n:Nat}
theorem aS{sl0:List V}{h:Hp}{nx:Nat}(i:ι)(hm:m i<n)(hC:C i h nx)(hw:WkL sl0 (sl i)):cA sl C m n Q .normal ⟨sl0,h,nx⟩:=⟨_,(Wk.refl _).tell,i,hm,hw,hC⟩
theorem fH{id:Nat}(h:Q (.exit id) s):cA sl C m n Q (.exit id) s:=h
theorem dQ(h:Q .ret s):cA sl C m n Q .ret s:=h
theorem bP{c:aK}(sl:ι→List V)(C:ι→Hp→Nat→Prop)(m:ι→Nat)(i0:ι)(h0:C i0 s.h s.nx)(hw:WkL s.sl (sl i0))(hr:∀i h nx,C i h nx→lwp P c (cA sl C m (m i) Q) ⟨sl i,h,nx⟩):lwp P (.loop c) Q s:=by
 refine jU (fun p:ι×Hp×Nat=>C p.1 p.2.1 p.2.2) (fun p=>⟨sl p.1,p.2.1,p.2.2⟩) (fun p=>m p.1) (i0,s.h,s.nx) h0 ⟨hw,Hp.le_refl _,Nat.le_refl _⟩ ?_
 rintro⟨i,h,nx⟩ hC
 refine jT ?_ (hr i h nx hC)
 intro e s' hq
 cases e with
 |normal=>
  obtain⟨s2,h0,j,h1,h2,h3⟩:=hq
  exact⟨(j,s2.h,s2.nx),h3,h1,h0.trans (Wk.tell ⟨h2,Hp.le_refl _,Nat.le_refl _⟩)⟩
 |exit id=>exact hq
 |ret=>exact hq
end
theorem aX.set2{h:Hp}{nx n:Nat}(hd:aX h nx)(hn:n<nx)(b:Blk):aX (h.set n b) nx:=hd.set hn (Nat.le_refl _) b
def aA.plain(o:aA):Bool:=match o.g with
 |none=> !o.op.isCall
 |some _=>false
def oR:List aA→List aA
 | []=>[]
 |o::r=>match o.plain with
  |true=>o::oR r
  |false=>[]
def nZ:List aA→List aA
 | []=>[]
 |o::r=>match o.plain with
  |true=>nZ r
  |false=>o::r
theorem zD{P:Program}{Q:St→Prop}:∀(l:List aA) (s:St),lH (oR l) s→aT P (nZ l) Q (fE (oR l) s)→aT P l Q s
 | [],s,_,h=>h
 |o::r,s,ho,h=>by
  cases hc:o.plain with
  |false=>simp only[oR,nZ,hc] at ho h;exact h
  |true=>
   simp only[oR,nZ,hc] at ho h
   have hcall:o.op.isCall=false:=by
    unfold aA.plain at hc
    split at hc
    ·simpa using hc
    cases hc
   exact kO hcall ho.1 (zD r _ ho.2 h)
theorem aBs{P:Program}{Q:St→Prop}{s:St}:aT P [] Q s=Q s:=rfl
theorem dG{P:Program}{Q:St→Prop}{s:St}(h:Q s):aT P [] Q s:=h
theorem eU{P:Program}{Q:St→Prop}{o:aA}{r:List aA}{s:St}(_:o.plain=true)(ho:lH (oR (o::r)) s)(h:aT P (nZ (o::r)) Q (fE (oR (o::r)) s)):aT P (o::r) Q s:=zD _ s ho h
theorem iN{P:Program}{Q:St→Prop}{s:St}{dst:Option Nat}{k:Sh}{bs:Nat}{x y:aF}{r:List aA}{ys:List V}(hx:x.ev s.sl= .sl k .nil [])(hy:dO s.h (y.ev s.sl)=some (k,ys))(hne:ys≠ [])(hb:ys.length*bs≤140737488355328)
 (h:aT P r Q ⟨aZ s.sl dst (.rs s.nx k 0 ys.length),s.h.set s.nx (.arr k ys),s.nx+1⟩):aT P (⟨dst,none, .append k bs x y⟩::r) Q s:=by
 unfold aT
 simp only[LOp.run,LOp.sem,hy,hx]
 exact⟨trivial,trivial,by simpa using hb, .inr ⟨trivial,trivial,hne,h⟩⟩
theorem oX{P:Program}{Q:St→Prop}{s:St}{dst:Option Nat}{k:Sh}{bs n len:Nat}{x y:aF}{r:List aA}{es ys:List V}(hx:x.ev s.sl= .rs n k 0 len)(hn:s.h n=some (.arr k es))(hl:len≤es.length)(hy:dO s.h (y.ev s.sl)=some (k,ys))(hne:ys≠ [])(hb:(len+ys.length)*bs≤140737488355328)
 (h:aT P r Q ⟨aZ s.sl dst (.rs s.nx k 0 (len+ys.length)),(s.h.del n).set s.nx (.arr k (es.take len++ys)),s.nx+1⟩):aT P (⟨dst,none, .append k bs x y⟩::r) Q s:=by
 unfold aT
 simp only[LOp.run,LOp.sem,hy,hx,hn]
 exact⟨trivial,trivial, .inr ⟨trivial,trivial,hl,hne,hb,h⟩⟩
theorem iM{P:Program}{Q:St→Prop}{s:St}{dst:Option Nat}{k:Sh}{xs:List aF}{r:List aA}(hf:∀e∈xs,(e.ev s.sl).fits k=true)
 (h:aT P r Q ⟨aZ s.sl dst (.rs s.nx k 0 xs.length),s.h.set s.nx (.arr k (xs.map (aF.ev s.sl))),s.nx+1⟩):aT P (⟨dst,none, .bslice k xs⟩::r) Q s:=by
 unfold aT
 exact⟨hf, .inr h⟩
theorem kV{a b:Nat}(h:a≤1000000000)(h':b≤140737):a*b≤140737488355328:=Nat.le_trans (Nat.mul_le_mul h h') (by decide)
def LOp.isStop:LOp→Bool
 | .call _ _=>true
 | .callv _ _=>true
 | .callw _ _ _=>true
 | .store _ _ _=>true
 |_=>false
def aA.dplain(o:aA):Bool:=match o.g with
 |none=> !o.op.isStop
 |some _=>false
def iK:List (aA×List Nat)→List (aA×List Nat)
 | []=>[]
 |o::r=>match o.1.dplain with
  |true=>o::iK r
  |false=>[]
def kU:List (aA×List Nat)→List (aA×List Nat)
 | []=>[]
 |o::r=>match o.1.dplain with
  |true=>kU r
  |false=>o::r
def aCm:List (aA×List Nat)→List (aA×List Nat)
 | []=>[]
 |o::r=>match o.1.op.isStop with
  |true=>[]
  |false=>o::aCm r
def nB:List (aA×List Nat)→List (aA×List Nat)
 | []=>[]
 |o::r=>match o.1.op.isStop with
  |true=>o::r
  |false=>nB r
theorem wK:∀l:List (aA×List Nat),aCm l++nB l=l
 | []=>rfl
 |o::r=>by
  unfold aCm nB
  split
  ·rfl
  rw[List.cons_append,wK r]
theorem qW:∀l:List (aA×List Nat),iK l++kU l=l
 | []=>rfl
 |o::r=>by
  unfold iK kU
  split
  ·rw[List.cons_append,qW r]
  rfl
theorem qU{P:Program}{h0:Hp}{nx0:Nat}{Q:List V→List (Option Blk)→List (Option Con)→Prop}{o:aA×List Nat}{r:List (aA×List Nat)}{sl:List V}{adds:List (Option Blk)}{cons:List (Option Con)}(_:o.1.dplain=true)(ho:qV h0 nx0 (iK (o::r)) ⟨sl,adds,cons⟩)
 (h:bY P h0 nx0 (kU (o::r)) (eW h0 nx0 (iK (o::r)) ⟨sl,adds,cons⟩).sl (eW h0 nx0 (iK (o::r)) ⟨sl,adds,cons⟩).adds (eW h0 nx0 (iK (o::r)) ⟨sl,adds,cons⟩).cons Q):bY P h0 nx0 (o::r) sl adds cons Q:=by
 have:=wH (P:=P) (Q:=Q) (r:=kU (o::r)) (iK (o::r)) ⟨sl,adds,cons⟩ ho h
 rwa [qW] at this
theorem vJ(k:Sh):bL k k 0:=by cases k<;>simp[bL]
theorem aJ{k:Sh}{v:V}(h:v.fits k=true):bF k 0 v=v:=by
 cases k with
 |leaf=>cases v<;>first|rfl|(simp[V.fits,V.leafy] at h)
 |agg m=>
  cases v with
  |agg cs=>
   simp only[V.fits,Bool.and_eq_true,decide_eq_true_eq] at h
   simp[bF,V.cells,h.1]
  |_=>simp[V.fits] at h
theorem aAi(o:Nat):bL .leaf .leaf o=(o=0):=rfl
theorem aAj(n o:Nat):bL (.agg n) .leaf o=(o<n):=rfl
theorem aAk(n m o:Nat):bL (.agg n) (.agg m) o=(o+m≤n):=rfl
theorem xY(o:Nat)(v:V):bF .leaf o v=v.cell o:=rfl
theorem xZ(m o:Nat)(cs:List V):bF (.agg m) o (.agg cs)=if o=0∧cs.length=m then .agg cs else .agg ((cs.drop o).take m):=rfl
theorem tO(o:Nat)(cs:List V)(v:V):bB .leaf o (.agg cs) v= .agg (cs.set o v):=rfl
theorem tP(m o:Nat)(cs:List V)(v:V):bB (.agg m) o (.agg cs) v=if o=0∧cs.length=m then v else .agg (cs.take o++v.cells++cs.drop (o+m)):=rfl
theorem aAY(n:Nat)(ks:List LK)(xs ys:List V):veq (.plain (.agg n) ks) (.agg xs) (.agg ys)=if ((V.agg xs).fits (.agg n)&&(V.agg ys).fits (.agg n))=true then eK ks xs ys else none:=rfl
theorem aCD(ks:List LK)(k k':IntKind)(a b:Int):veq (.plain .leaf ks) (.int k a) (.int k' b)=eK ks [.int k a] [.int k' b]:=rfl
theorem aCE(ks:List LK)(a b:Bool):veq (.plain .leaf ks) (.bool a) (.bool b)=eK ks [.bool a] [.bool b]:=rfl
theorem aCC(ks:List LK)(a b:ByteArray):veq (.plain .leaf ks) (.str a) (.str b)=eK ks [.str a] [.str b]:=rfl
theorem aAN(cs:List V):(V.agg cs).cells=cs:=rfl
theorem yU{v:V}(h:v.leafy=true):v.cells=[v]:=by cases v<;>first|rfl|(simp[V.leafy] at h)
theorem aBQ(cs:List V)(j:Nat):(V.agg cs).cell j=cs.getD j V.undef:=rfl
theorem hZ{v:V}(h:v.leafy=true):v.cell 0=v:=by cases v<;>first|rfl|(simp[V.leafy] at h)
theorem aAU:veq .ptr .nilPtr .nilPtr=some true:=rfl
theorem aAT(n:Nat)(k:Sh)(i o:Nat):veq .ptr .nilPtr (.ptr n k i o)=some false:=rfl
theorem aAS(n:Nat)(k:Sh)(i o:Nat):veq .ptr (.ptr n k i o) .nilPtr=some false:=rfl
theorem aAR(k:Sh)(es:List V)(i o:Nat):veq .ptr .nilPtr (.ept k es i o)=some false:=rfl
theorem aAQ(k:Sh)(es:List V)(i o:Nat):veq .ptr (.ept k es i o) .nilPtr=some false:=rfl
theorem wZ(k k':Sh)(o:Own)(es es':List V):veq .slice (.sl k o es) (.sl k' .nil es')=some (o== .nil):=rfl
theorem wY(n:Nat)(k k':Sh)(o l:Nat)(es':List V):veq .slice (.rs n k o l) (.sl k' .nil es')=some false:=rfl
theorem zV:veq .func .nilFn .nilFn=some true:=rfl
theorem zU(f:Fn)(a b:List V):veq .func .nilFn (.fn f a b)=some false:=rfl
theorem zT(f:Fn)(a b:List V):veq .func (.fn f a b) .nilFn=some false:=rfl
theorem xC:veq (.iface true) .nilIface .nilIface=some true:=rfl
theorem xB(c:Bool)(t:Nat)(v:V):veq (.iface c) .nilIface (.iface t v)=some false:=by cases c<;>rfl
theorem xA(c:Bool)(t:Nat)(v:V):veq (.iface c) (.iface t v) .nilIface=some false:=by cases c<;>rfl
theorem aAX:veq .map .nilMap .nilMap=some true:=rfl
theorem aAW(n:Nat):veq .map .nilMap (.map n)=some false:=rfl
theorem aAV(n:Nat):veq .map (.map n) .nilMap=some false:=rfl
theorem zY:veq .chan .nilChan .nilChan=some true:=rfl
theorem zX(n:Nat):veq .chan .nilChan (.chan n)=some false:=rfl
theorem zW(n:Nat):veq .chan (.chan n) .nilChan=some false:=rfl
theorem aBG(n:Nat)(cs:List V):V.fits (.agg n) (.agg cs)=(decide (cs.length=n)&&cs.all V.leafy):=by simp only[V.fits]
theorem yB(b:Bool):V.leafy (.bool b)=true:=by simp only[V.leafy]
theorem aAy(k:IntKind)(n:Int):V.leafy (.int k n)=true:=by simp only[V.leafy]
theorem aAv(s:ByteArray):V.leafy (.str s)=true:=by simp only[V.leafy]
theorem uC:V.leafy (.nilPtr)=true:=by simp only[V.leafy]
theorem aAw(n:Nat)(k:Sh)(i o:Nat):V.leafy (.ptr n k i o)=true:=by simp only[V.leafy]
theorem aAz(k:Sh)(es:List V)(i o:Nat):V.leafy (.ept k es i o)=true:=by simp only[V.leafy]
theorem aBw(k:Sh)(own:Own)(es:List V):V.leafy (.sl k own es)=true:=by simp only[V.leafy]
theorem aBx(n:Nat)(k:Sh)(off len:Nat):V.leafy (.rs n k off len)=true:=by simp only[V.leafy]
theorem uD:V.leafy (.nilMap)=true:=by simp only[V.leafy]
theorem aAx(n:Nat):V.leafy (.map n)=true:=by simp only[V.leafy]
theorem rT:V.leafy (.nilChan)=true:=by simp only[V.leafy]
theorem yA(n:Nat):V.leafy (.chan n)=true:=by simp only[V.leafy]
theorem aBy(f:Fn)(a b:List V):V.leafy (.fn f a b)=true:=by simp only[V.leafy]
theorem vW:V.leafy (.nilFn)=true:=by simp only[V.leafy]
theorem aAu(n:Nat):V.leafy (.yld n)=true:=by simp only[V.leafy]
theorem vX(t:Nat)(v:V):V.leafy (.iface t v)=true:=by simp only[V.leafy]
theorem qF:V.leafy (.nilIface)=true:=by simp only[V.leafy]
theorem oA(v:V):v.fits .leaf=v.leafy:=by cases v<;>rfl
theorem aN{k:Sh}{e v:V}(he:e.fits k=true)(hv:v.fits k=true):bB k 0 e v=v:=by
 cases k with
 |leaf=>cases e<;>first|rfl|(simp[V.fits,V.leafy] at he)
 |agg m=>
  cases e with
  |agg cs=>
   simp only[V.fits,Bool.and_eq_true,decide_eq_true_eq] at he
   simp[bB,he.1]
  |_=>simp[V.fits] at he
def V.gd(c:Bool)(v:V):V:=if c=true then v else V.undef
theorem V.gd_true(v:V):V.gd true v=v:=rfl
theorem V.gd_false(v:V):V.gd false v=V.undef:=rfl
theorem aCe(c:Bool)(x y:V):V.pick c (V.gd c x) y=V.pick c x y:=by cases c<;>simp[V.gd,kM,iD]
theorem aBh(c:Bool)(x y:V):V.pick c x (V.gd (!c) y)=V.pick c x y:=by cases c<;>simp[V.gd,kM,iD]
theorem aBi(t x:Bool):V.pick t (.bool x) (.bool false)= .bool (t&&x):=by cases t<;>rfl
theorem aCd(t y:Bool):V.pick t (.bool true) (.bool y)= .bool (t||y):=by cases t<;>rfl
def aDa(g:Option (Nat×Bool)):List aA→List aA
 | []=>[]
 |o::r=>if o.g=g then o::aDa g r else []
def aCy(g:Option (Nat×Bool)):List aA→List aA
 | []=>[]
 |o::r=>if o.g=g then aCy g r else o::r
def aDl(l:List aA):List aA:=l.map fun o=>⟨o.dst,none,o.op⟩
def aBF(c:Bool)(sl':List V):List aA→List V→List V
 | [],sl=>sl
 |o::r,sl=>aBF c sl' r (match o.dst with|some d=>sl.set d (V.gd c (sl'.getD d V.undef))|none=>sl)
theorem aAE{K:Ker}{h:Hp}(hr:Rel K h){n a:Nat}{k:Sh}{es:List V}{i o:Nat}{cv:Value}(hn:h n=some (.arr k es))(ha:¬K.live a)(hv:VR K (.ptr n k i o) cv):
 ∃K',K'.w=K.w∧K.le K'∧(∀m,K'.live m→K.live m∨m=a)∧VR K' (.ept k es i o) cv∧Rel K' (h.del n):=by
 have hb:=hr.blk n _ hn
 cases hb with
 |arr _ _ c T hh hcs himm hfit hcv=>
  cases hv with
  |ptr _ _ _ _ hl=>
   have hblk:K.mu n<K.w.heap.size:=by
    rcases Nat.lt_or_ge (K.mu n) K.w.heap.size with hlt|hge
    ·exact hlt
    rw[Array.getElem?_eq_none hge] at hh;exact absurd hh (by simp)
   have hle:K.le (K.claim a (K.mu n) (es.length*k.size)):=K.le_claim ha (by rw[himm];exact Nat.zero_le _)
   have hmu:(K.claim a (K.mu n) (es.length*k.size)).mu a=K.mu n:=by simp[Ker.claim]
   have hrel:=hr.claim hn (a:=a) (m:=es.length*k.size) ha (by rw[himm];exact Nat.zero_le _) (b1:= .tip) (.tip c T (by rw[hmu];exact hh) (by simp[Ker.claim]) (by simp only[Ker.claim,if_true];exact hcs))
   refine⟨K.claim a (K.mu n) (es.length*k.size),rfl,hle,fun m hm=>hm.symm,?_,hrel.weaken ?_⟩
   ·have:=VR.ept (K:=K.claim a (K.mu n) (es.length*k.size)) k es i o (K.mu n) 0 (fun j=>c.getD j Go.undef) hblk hfit
     (fun j hj=>by
       show K.w.cell? _=_
       simp only[World.cell?,hh,Nat.zero_add]
       rw[Array.getD_eq_getD_getElem?,Array.getElem?_eq_getElem (by omega)]
       rfl)
     (fun j hj=> .inr (by simp only[Ker.claim,if_true];omega))
     (fun i hi j hj=>(hcv i hi j hj).mono hle)
    simpa using this
   intro m b e
   unfold Hp.del at e
   split at e
   ·cases e
   rename_i hm
   have hma:m≠a:=fun e2=>ha (e2▸hr.lt m b e)
   unfold Hp.set Hp.del
   rw[if_neg hma,if_neg hm];exact e
def V.loose:V→V
 | .sl k .nil es=> .sl k .nil es
 | .sl k _ es=> .sl k .free es
 | .agg cs=> .agg (cs.map fun c=>match c with
  | .sl k .nil es=> .sl k .nil es
  | .sl k _ es=> .sl k .free es
  |v=>v)
 |v=>v
theorem VR.loose{K:Ker}{v:V}{cv:Value}(r:VR K v cv):VR K v.loose cv:=by
 have one:∀{k:Sh} {own:Own} {es:List V} {cv:Value},VR K (.sl k own es) cv→VR K (match V.sl k own es with| .sl k .nil es=> .sl k .nil es| .sl k _ es=> .sl k .free es|v=>v) cv:=by
  intro k own es cv r
  cases own with
  |nil=>exact r
  |full=>exact r.free (by simp)
  |tok n=>exact r.free (by simp)
  |free=>exact r.free (by simp)
 cases v with
 |sl k own es=>cases own<;>first|exact r|exact r.free (by simp)
 |agg cs=>
  cases r with
  |agg _ ccs hl hv=>
   refine .agg _ ccs (by simpa using hl) fun i hi=>?_
   have hi':i<cs.length:=by simpa using hi
   have:=hv i hi'
   simp only[List.getD_eq_getElem?_getD,List.getElem?_map,List.getElem?_eq_getElem hi',Option.map_some,Option.getD_some] at this⊢
   generalize cs[i]=c at this⊢
   cases c<;>first|exact this|exact one this
 |_=>exact r
theorem rI{P:Program}{f:FuncId}{args:List V}{h:Hp}{nx:Nat}{g:Fn}{v0:V}
 (c:aL P f args h nx fun v h' _=>∃n,nx≤n∧v= .fn g [] [.ptr n .leaf 0 0]∧h'=h.set n (.arr .leaf [v0])):
 aL P f args h nx fun v h' _=>v= .fn g [] [.ept .leaf [v0.loose] 0 0]∧h'=h:=by
 refine⟨c.1,fun K cargs hl hr hv=>(c.2 K cargs hl hr hv).mono ?_⟩
 rintro e w' ⟨K',v,cv,h',nx',rfl,he,hle,hvr,hrel,hlv,hnx,n,hn,rfl,rfl⟩
 have hfr:¬K'.live nx':=fun hh=>Nat.lt_irrefl _ (hlv nx' hh).1
 have hset:(h.set n (.arr .leaf [v0])) n=some (.arr .leaf [v0]):=by simp[Hp.set]
 cases hvr with
 |fn _ _ _ cf cc h1 h2 v1 v2=>
 have vp:=v2 0 (by simp)
 simp only[List.getD_cons_zero] at vp
 obtain⟨K'',q1,q2,q3,q4,q5⟩:=aAE hrel hset hfr vp
 have hdom:h n=none:=by
  cases hd:h n with
  |none=>rfl
  |some b=>exact absurd (hl n (hr.lt n b hd)) (by omega)
 have hh:(h.set n (.arr .leaf [v0])).del n=h:=by
  funext x
  unfold Hp.set Hp.del
  by_cases e2:x=n
  ·subst e2;simp[hdom]
  simp[e2]
 rw[hh] at q5
 have q4':VR K'' (.ept .leaf [v0.loose] 0 0) (cc.getD 0 Go.undef):=by
  generalize cc.getD 0 Go.undef=x at q4⊢
  cases q4 with
  |ept _ _ _ _ b off f hb hfit hcell hst hvv=>
   have hleaf:v0.leafy=true:=by simpa [V.fits] using hfit v0 (by simp)
   have hll:v0.loose.leafy=true:=by
    cases v0<;>first|rfl|(simp[V.leafy] at hleaf)|skip
    rename_i own es
    cases own<;>rfl
   have hc1:∀v:V,v.leafy=true→v.cell 0=v:=fun v hv=>by cases v<;>first|rfl|(simp[V.leafy] at hv)
   refine .ept _ _ _ _ b off f hb (by simpa [V.fits] using hll) hcell hst ?_
   intro i hi j hj
   have hi0:i=0:=by simpa using hi
   have hj0:j=0:=by simpa [Sh.size] using hj
   subst hi0 hj0
   have:=hvv 0 (by simp) 0 (by simp[Sh.size])
   simp only[List.getD_cons_zero,hc1 _ hleaf,hc1 _ hll] at this⊢
   exact this.loose
 refine⟨K'',_,_,h,nx'+1,q1,he,hle.trans q2, .fn g [] [.ept .leaf [v0.loose] 0 0] cf cc h1 h2 (fun i hi=>absurd hi (by simp)) (fun i hi=>?_),q5,fun m hm=>?_,by omega,rfl,rfl⟩
 ·have hi0:i=0:=by simpa using hi
  subst hi0
  exact q4'
 rcases q3 m hm with hm|rfl
 ·exact⟨by have:=(hlv m hm).1;omega,(hlv m hm).2⟩
 exact⟨by omega, .inr hnx⟩
section
variable{P:Program}{h0:Hp}{nx0:Nat}
theorem qQ{tl:List aA}{n:Nat}{Q:bA→St→Prop}{s:St}{sl:List V}{adds:List (Option Blk)}{cons:List (Option Con)}(h:aT P tl (Q .normal) ⟨sl,rM (kH s.h s.nx adds) cons,s.nx+n⟩):aBJ P tl n Q s sl adds cons:=h
abbrev DL:=List (aA×List Nat)
def aDd(g:Option (Nat×Bool)):DL→DL
 | []=>[]
 |o::r=>if o.1.g=g then o::aDd g r else []
def aCz(g:Option (Nat×Bool)):DL→DL
 | []=>[]
 |o::r=>if o.1.g=g then aCz g r else o::r
def aDc(l:DL):DL:=l.map fun o=>(⟨o.1.dst,none,o.1.op⟩,o.2)
def aBO(c:Bool)(sl':List V):DL→List V→List V
 | [],sl=>sl
 |o::r,sl=>aBO c sl' r (match o.1.dst with|some d=>sl.set d (V.gd c (sl'.getD d V.undef))|none=>sl)
def aCw{α:Type}:DL→List (Option α)
 | []=>[]
 |_::r=>none::aCw r
end
theorem aDj{a j k:Nat}:a+(j+1)+(k+1)=a+(j+k+2):=by omega
theorem mJ{sl:List V}{t:Nat}{v:V}(h:sl.getD t V.undef=v):sl.set t v=sl:=by
 rcases Nat.lt_or_ge t sl.length with ht|ht
 ·rw[List.getD_eq_getElem?_getD,List.getElem?_eq_getElem ht] at h
  simp only[Option.getD_some] at h
  rw[←h]
  exact List.set_getElem_self ht
 exact List.set_eq_of_length_le ht
section
variable{P:Program}{r:List aA}{Qs:St→Prop}{s:St}{dst:Option Nat}
theorem qC{t:Nat}{want b:Bool}{op:LOp}(hb:s.sl.getD t V.undef= .bool b)
 (h1:b=want→aT P (⟨dst,none,op⟩::r) Qs ⟨s.sl.set t (.bool want),s.h,s.nx⟩) (h2:b= !want→aT P r Qs ⟨aZ (s.sl.set t (.bool !want)) dst V.undef,s.h,s.nx⟩):
 aT P (⟨dst,some (t,want),op⟩::r) Qs s:=by
 refine xV hb (fun e=>?_) (fun e=>?_)
 ·have:=h1 e
  rw[←e,mJ hb] at this
  exact this
 have e':b= !want:=by cases b<;>cases want<;>simp at e⊢
 have:=h2 e'
 rw[←e',mJ hb] at this
 exact this
end
section
variable{P:Program}{h0:Hp}{nx0:Nat}{Q:List V→List (Option Blk)→List (Option Con)→Prop}{sl:List V}{adds:List (Option Blk)}{cons:List (Option Con)}{r:List (aA×List Nat)}{dst:Option Nat}{deps:List Nat}
theorem qS{t:Nat}{want b:Bool}{op:LOp}(hb:sl.getD t V.undef= .bool b)(h1:b=want→bY P h0 nx0 ((⟨dst,none,op⟩,deps)::r) (sl.set t (.bool want)) adds cons Q)
 (h2:b= !want→bY P h0 nx0 r (aZ (sl.set t (.bool !want)) dst V.undef) (adds++[none]) (cons++[none]) Q):bY P h0 nx0 ((⟨dst,some (t,want),op⟩,deps)::r) sl adds cons Q:=by
 refine yM hb (fun e=>?_) (fun e=>?_)
 ·have:=h1 e
  rw[←e,mJ hb] at this
  exact this
 have e':b= !want:=by cases b<;>cases want<;>simp at e⊢
 have:=h2 e'
 rw[←e',mJ hb] at this
 exact this
end
section
variable{P:Program}{h0:Hp}{nx0:Nat}{Q:List V→List (Option Blk)→List (Option Con)→Prop}{sl:List V}{adds:List (Option Blk)}{cons:List (Option Con)}{r:List (aA×List Nat)}{dst:Option Nat}{deps:List Nat}{t:Nat}{op:LOp}
end
theorem yL{P:Program}{h0:Hp}{nx0:Nat}{Q:List V→List (Option Blk)→List (Option Con)→Prop}{sl:List V}{adds:List (Option Blk)}{cons:List (Option Con)}{r:List (aA×List Nat)}{dst:Option Nat}{deps:List Nat}{t:Sh}{x v:aF}{j i o:Nat}{k:Sh}{es:List V}
 (hx:x.ev sl= .ptr (nx0+j) k i o) (ha:adds.getD j none=some (.arr k es)) (hd:j∈deps) (hu:dJ (nx0+j) cons) (hi:i<es.length) (hp:bL k t o) (hf:(v.ev sl).fits t=true)
 (h:bY P h0 nx0 r (aZ sl dst V.undef) (adds++[none]) (cons++[some ⟨nx0+j, .arr k es,some (.arr k (es.set i (bB t o (es.getD i V.undef) (v.ev sl))))⟩]) Q):bY P h0 nx0 ((⟨dst,none, .store t x v⟩,deps)::r) sl adds cons Q:=
 yK hx (by rw[oF];exact⟨hu,hd,ha⟩) hi hp hf h
def nL(b:Bool)(A B:Prop):Prop:=(b=true→A)∧(b=false→B)
theorem uO{A B:Prop}(h:A):nL true A B:=⟨(fun _=>h),(fun h=>by cases h)⟩
theorem zM{A B:Prop}(h:B):nL false A B:=⟨(fun h=>by cases h),(fun _=>h)⟩
theorem uN{P:Program}{c:aF}{a b:aK}{Q:bA→St→Prop}{s:St}(h:lwp P (.cond c a b) Q s):lwp P (.cond c a b) Q s:=h
theorem zJ{P:Program}{n:Nat}{hd:List (aA×List Nat)}{tl:List aA}{Q:bA→St→Prop}{s:St}(h:lwp P (.draw n hd tl) Q s):lwp P (.draw n hd tl) Q s:=h
theorem uB{P:Program}{o:aA}{r:List aA}{Q:St→Prop}{s:St}(h:aT P (o::r) Q s):aT P (o::r) Q s:=h
theorem uJ{P:Program}{h0:Hp}{nx0:Nat}{Q:List V→List (Option Blk)→List (Option Con)→Prop}{sl:List V}{adds:List (Option Blk)}{cons:List (Option Con)}{l:List (aA×List Nat)}(h:bY P h0 nx0 l sl adds cons Q):bY P h0 nx0 l sl adds cons Q:=h
theorem nW{P:Program}{c:aF}{a b:aK}{Q:bA→St→Prop}{s:St}{t:Bool}(hc:c.ev s.sl= .bool t)(h:nL t (lwp P a Q s) (lwp P b Q s)):lwp P (.cond c a b) Q s:=bT t hc h.1 h.2
theorem jX{P:Program}{r:List aA}{Qs:St→Prop}{s:St}{dst:Option Nat}{t:Nat}{b:Bool}{op:LOp}(hb:s.sl.getD t V.undef= .bool b)
 (h:nL b (aT P (⟨dst,none,op⟩::r) Qs ⟨s.sl.set t (.bool true),s.h,s.nx⟩) (aT P r Qs ⟨aZ (s.sl.set t (.bool false)) dst V.undef,s.h,s.nx⟩)):aT P (⟨dst,some (t,true),op⟩::r) Qs s:=
 qC hb h.1 h.2
theorem jY{P:Program}{r:List aA}{Qs:St→Prop}{s:St}{dst:Option Nat}{t:Nat}{b:Bool}{op:LOp}(hb:s.sl.getD t V.undef= .bool b)
 (h:nL b (aT P r Qs ⟨aZ (s.sl.set t (.bool true)) dst V.undef,s.h,s.nx⟩) (aT P (⟨dst,none,op⟩::r) Qs ⟨s.sl.set t (.bool false),s.h,s.nx⟩)):aT P (⟨dst,some (t,false),op⟩::r) Qs s:=
 qC hb h.2 h.1
section
variable{P:Program}{h0:Hp}{nx0:Nat}{Q:List V→List (Option Blk)→List (Option Con)→Prop}{sl:List V}{adds:List (Option Blk)}{cons:List (Option Con)}{r:List (aA×List Nat)}{dst:Option Nat}{deps:List Nat}{t:Nat}{op:LOp}
theorem kE{b:Bool}(hb:sl.getD t V.undef= .bool b)(h:nL b (bY P h0 nx0 ((⟨dst,none,op⟩,deps)::r) (sl.set t (.bool true)) adds cons Q) (bY P h0 nx0 r (aZ (sl.set t (.bool false)) dst V.undef) (adds++[none]) (cons++[none]) Q)):
 bY P h0 nx0 ((⟨dst,some (t,true),op⟩,deps)::r) sl adds cons Q:=qS hb h.1 h.2
theorem kF{b:Bool}(hb:sl.getD t V.undef= .bool b)(h:nL b (bY P h0 nx0 r (aZ (sl.set t (.bool true)) dst V.undef) (adds++[none]) (cons++[none]) Q) (bY P h0 nx0 ((⟨dst,none,op⟩,deps)::r) (sl.set t (.bool false)) adds cons Q)):
 bY P h0 nx0 ((⟨dst,some (t,false),op⟩,deps)::r) sl adds cons Q:=qS hb h.2 h.1
end
theorem aM{t u:Nat}{k:Sh}{R:V→Hp→Nat→Prop}{s:St}(ho:(aR.load k (.slot t)).ok s.sl s.h)(h':Hp)(hle:h'.le s.h)(hR:R (.tup [(aR.load k (.slot t)).out s.sl s.h,s.sl.getD u V.undef]) h' s.nx):vI [.cell t k, .slot u] R .ret s:=by
 have:=aR.sem_of_ok (R:=fun v=>∃h',h'.le s.h∧R (lA [v,s.sl.getD u V.undef]) h' s.nx) ho ⟨h',hle,by generalize (aR.load k (.slot t)).out s.sl s.h=x at hR;exact hR⟩
 exact this
def Acc(h:Hp)(n0:Nat)(o:Own)(es:List V):Prop:=(es=[]∧o= .nil)∨(es≠ []∧∃id,n0≤id∧o= .tok id∧h id=some .tip)
def aBZ(h:Hp)(n0:Nat)(o:Own):Prop:=∃id,n0≤id∧o= .tok id∧h id=some .tip
def Hp.delO(h:Hp):Own→Hp
 | .tok n=>h.del n
 |_=>h
theorem aBN(h:Hp):h.delO .nil=h:=rfl
theorem aBM(h:Hp)(n:Nat):h.delO (.tok n)=h.del n:=rfl
def Hp.same(n0:Nat)(h h':Hp):Prop:=∀m,m<n0→h' m=h m
theorem Hp.same.rfl'{n0:Nat}{h:Hp}:Hp.same n0 h h:=fun _ _=>rfl
theorem eD{n0 n:Nat}{h h':Hp}(s:Hp.same n0 h h')(hn:n0≤n)(b:Blk):Hp.same n0 h (h'.set n b):=fun m hm=>by
 unfold Hp.set
 rw[if_neg (by omega)]
 exact s m hm
theorem mM{n0 n:Nat}{h h':Hp}(s:Hp.same n0 h h')(hn:n0≤n):Hp.same n0 h (h'.del n):=fun m hm=>by
 unfold Hp.del
 rw[if_neg (by omega)]
 exact s m hm
theorem aAc{n0:Nat}{h h':Hp}{o:Own}(s:Hp.same n0 h h')(ho:∀id,o= .tok id→n0≤id):Hp.same n0 h (h'.delO o):=by
 cases o with
 |tok id=>exact mM s (ho id rfl)
 |_=>exact s
theorem Acc.ge{h:Hp}{n0:Nat}{o:Own}{es:List V}(a:Acc h n0 o es)(id:Nat)(e:o= .tok id):n0≤id:=by
 rcases a with⟨_,rfl⟩|⟨_,id',hge,rfl,_⟩
 ·cases e
 injection e with e;omega
theorem Hp.same.le{n0:Nat}{h h':Hp}(s:Hp.same n0 h h'){h0:Hp}(hd:aX h0 n0)(hle:h0.le h):h0.le h':=fun m b e=>by rw[s m (hd m b e)];exact hle m b e
theorem aX.delO{h:Hp}{nx:Nat}(hd:aX h nx)(o:Own):aX (h.delO o) nx:=by
 cases o<;>first|exact hd|exact hd.del
theorem Acc.set{h:Hp}{n0 n:Nat}{o:Own}{es:List V}(a:Acc h n0 o es)(hn:h n≠some .tip)(b:Blk):Acc (h.set n b) n0 o es:=by
 rcases a with⟨e,eo⟩|⟨e,id,hge,eo,ht⟩
 ·exact .inl ⟨e,eo⟩
 refine .inr ⟨e,id,hge,eo,?_⟩
 unfold Hp.set
 rw[if_neg (fun e2=>hn (by rw[←e2];exact ht))]
 exact ht
theorem Acc.del{h:Hp}{n0 n:Nat}{o:Own}{es:List V}(a:Acc h n0 o es)(hn:o≠ .tok n):Acc (h.del n) n0 o es:=by
 rcases a with⟨e,eo⟩|⟨e,id,hge,eo,ht⟩
 ·exact .inl ⟨e,eo⟩
 refine .inr ⟨e,id,hge,eo,?_⟩
 unfold Hp.del
 rw[if_neg (fun e=>hn (by rw[eo,e]))]
 exact ht
theorem Acc.delO{h:Hp}{n0:Nat}{o o':Own}{es:List V}(a:Acc h n0 o es)(hn:∀id,o'= .tok id→o≠ .tok id):Acc (h.delO o') n0 o es:=by
 cases o' with
 |tok id=>exact a.del (hn id rfl)
 |_=>exact a
theorem aBZ.set{h:Hp}{n0 n:Nat}{o:Own}(a:aBZ h n0 o)(hn:h n≠some .tip)(b:Blk):aBZ (h.set n b) n0 o:=by
 obtain⟨id,hge,eo,ht⟩:=a
 refine⟨id,hge,eo,?_⟩
 unfold Hp.set
 rw[if_neg (fun e2=>hn (by rw[←e2];exact ht))]
 exact ht
theorem Acc.up{h:Hp}{n0 n1:Nat}{o:Own}{es:List V}(a:Acc h n1 o es)(hn:n0≤n1):Acc h n0 o es:=by
 rcases a with⟨e,eo⟩|⟨e,id,hge,eo,ht⟩
 ·exact .inl ⟨e,eo⟩
 exact .inr ⟨e,id,by omega,eo,ht⟩
theorem aX.ntip{h:Hp}{nx n:Nat}(hd:aX h nx)(hn:nx≤n):h n≠some .tip:=fun e=>absurd (hd n _ e) (by omega)
theorem vK{h:Hp}{n:Nat}{k:Sh}{es:List V}:h.set n (.arr k es) n≠some .tip:=by unfold Hp.set;rw[if_pos rfl];exact(fun e=>by cases e)
theorem aCg{h:Hp}{n:Nat}{k:Sh}{es:List V}(e:h n=some (.arr k es)):h n≠some .tip:=by rw[e];exact(fun e=>by cases e)
theorem pO{h:Hp}{n m:Nat}{b:Blk}(hn:m≠n)(hm:h m≠some .tip):h.set n b m≠some .tip:=by unfold Hp.set;rw[if_neg hn];exact hm
theorem aBk{h:Hp}{n m:Nat}(hm:h m≠some .tip):h.del n m≠some .tip:=by unfold Hp.del;split<;>first|exact hm|exact(fun e=>by cases e)
theorem Acc.new{h:Hp}{n0 n:Nat}(es:List V)(hne:es≠ [])(hn:n0≤n):Acc (h.set n .tip) n0 (.tok n) es:= .inr ⟨hne,n,hn,rfl,by unfold Hp.set;rw[if_pos rfl]⟩
theorem Acc.nil{h:Hp}{n0:Nat}:Acc h n0 .nil []:= .inl ⟨rfl,rfl⟩
theorem Acc.loose{h:Hp}{n0:Nat}{o:Own}{k:Sh}{es:List V}(a:Acc h n0 o es):(V.sl k o es).loose=(if es.isEmpty=true then .sl k .nil [] else .sl k .free es):=by
 rcases a with⟨rfl,rfl⟩|⟨hne,id,_,rfl,_⟩
 ·rfl
 cases es with
 |nil=>exact absurd rfl hne
 |cons=>rfl
theorem Acc.ok{h:Hp}{n0:Nat}{o:Own}{es:List V}(a:Acc h n0 o es):oV h o:=by
 rcases a with⟨_,rfl⟩|⟨_,id,_,rfl,ht⟩
 ·trivial
 exact ht
theorem aBZ.ok{h:Hp}{n0:Nat}{o:Own}(a:aBZ h n0 o):oV h o:=by
 obtain⟨id,_,rfl,ht⟩:=a
 exact ht
section
variable{P:Program}{r:List aA}{Qs:St→Prop}{s:St}{dst:Option Nat}
theorem aAr{k:Sh}{bs:Nat}{x y:aF}{o:Own}{es ys:List V}(hx:x.ev s.sl= .sl k o es)(ha:oV s.h o)(hy:dO s.h (y.ev s.sl)=some (k,ys))(hne:ys≠ [])(hb:(es.length+ys.length)*bs≤140737488355328)
 (hq:aT P r Qs ⟨aZ s.sl dst (.sl k (.tok s.nx) (es++ys)),(s.h.delO o).set s.nx .tip,s.nx+1⟩):aT P (⟨dst,none, .append k bs x y⟩::r) Qs s:=by
 have hys:ys.isEmpty=false:=by cases ys with|nil=>exact absurd rfl hne|cons=>rfl
 unfold aT
 simp only[LOp.run,LOp.sem,hy,hx,true_and]
 refine⟨hb, .inl ⟨ha,?_⟩⟩
 cases o with
 |free=>exact ha.elim
 |nil=>simpa only[dI,eG,hys,Hp.delO,Bool.false_eq_true,if_false] using hq
 |full=>simpa only[dI,eG,hys,Hp.delO,Bool.false_eq_true,if_false] using hq
 |tok id=>exact hq
theorem aBu{k:Sh}{bs:Nat}{x y:aF}{o:Own}{es ys:List V}{n0:Nat}(hx:x.ev s.sl= .sl k o es)(ha:Acc s.h n0 o es)(hy:dO s.h (y.ev s.sl)=some (k,ys))(hne:ys≠ [])(hb:(es.length+ys.length)*bs≤140737488355328)
 (hq:aT P r Qs ⟨aZ s.sl dst (.sl k (.tok s.nx) (es++ys)),(s.h.delO o).set s.nx .tip,s.nx+1⟩):aT P (⟨dst,none, .append k bs x y⟩::r) Qs s:=
 aAr hx ha.ok hy hne hb hq
end
def LOp.isApp:LOp→Bool
 | .append .. =>true
 |_=>false
def aA.plain2(o:aA):Bool:=o.plain&& !o.op.isApp
def kB:List aA→List aA
 | []=>[]
 |o::r=>match o.plain2 with
  |true=>o::kB r
  |false=>[]
def kR:List aA→List aA
 | []=>[]
 |o::r=>match o.plain2 with
  |true=>kR r
  |false=>o::r
theorem zF{P:Program}{Q:St→Prop}:∀(l:List aA) (s:St),lH (kB l) s→aT P (kR l) Q (fE (kB l) s)→aT P l Q s
 | [],s,_,h=>h
 |o::r,s,ho,h=>by
  cases hc:o.plain2 with
  |false=>simp only[kB,kR,hc] at ho h;exact h
  |true=>
   simp only[kB,kR,hc] at ho h
   have hcall:o.op.isCall=false:=by
    simp only[aA.plain2,Bool.and_eq_true] at hc
    have hc:=hc.1
    unfold aA.plain at hc
    split at hc
    ·simpa using hc
    cases hc
   exact kO hcall ho.1 (zF r _ ho.2 h)
theorem qE{P:Program}{Q:St→Prop}{o:aA}{r:List aA}{s:St}(_:o.plain2=true)(ho:lH (kB (o::r)) s)(h:aT P (kR (o::r)) Q (fE (kB (o::r)) s)):aT P (o::r) Q s:=zF _ s ho h
theorem aBt{P:Program}{Q:St→Prop}{o:aA}{r:List aA}{s:St}(hp:o.op.isApp=true)(hg:o.g=none)(ho:o.ok s)(h:aT P r Q (o.next s)):aT P (o::r) Q s:=by
 refine kO ?_ ho h
 cases e:o.op<;>rw[e] at hp<;>first|rfl|cases hp
theorem aDk{a b:Nat}(h:a<b):(a=b)=False:=sN (by omega)
theorem aCW{a b k:Nat}(h:a<b):(a=b+k)=False:=sN (by omega)
theorem aCX{a b:Nat}(h:a<b):(b=a)=False:=sN (by omega)
theorem aCI{a b k:Nat}(h:a<b):(b+k=a)=False:=sN (by omega)
class Stp(A:Prop)(B:outParam Prop):Prop where
 go:B→A
theorem stp{A B:Prop} [i:Stp A B](h:B):A:=i.go h
variable{P:Program}{Q:bA→St→Prop}{s:St}
instance aDG{a b:aK}:Stp (lwp P (.seq a b) Q s) (lwp P a (nT (lwp P b) Q) s):=⟨fF⟩
instance aDF{l:List aA}:Stp (lwp P (.ops l) Q s) (aT P l (Q .normal) s):=⟨eJ⟩
instance aDE{b:(bA→St→Prop)→St→Prop}:Stp (nT b Q .normal s) (b Q s):=⟨bN⟩
instance aDD{R:St→Prop}:Stp (aT P [] R s) (R s):=⟨dG⟩
instance aDC{id:Nat}:Stp (cP id Q .normal s) (Q .normal s):=⟨bE⟩
instance aDB{id:Nat}{c:aK}:Stp (lwp P (.block id c) Q s) (lwp P c (cP id Q) s):=⟨cN⟩
instance aDA:Stp (lwp P .skip Q s) (Q .normal s):=⟨eS⟩
instance aDz:Stp (lwp P .ret Q s) (Q .ret s):=⟨bH⟩
instance aDy{b:(bA→St→Prop)→St→Prop}:Stp (nT b Q .ret s) (Q .ret s):=⟨fG⟩
instance aDx{id:Nat}:Stp (cP id Q .ret s) (Q .ret s):=⟨dV⟩
instance aDw{ι:Type}{sl:ι→List V}{C:ι→Hp→Nat→Prop}{m:ι→Nat}{n:Nat}:Stp (cA sl C m n Q .ret s) (Q .ret s):=⟨dQ⟩
instance aDv{id:Nat}:Stp (lwp P (.exit id) Q s) (Q (.exit id) s):=⟨jV⟩
instance aDu{b:(bA→St→Prop)→St→Prop}{id:Nat}:Stp (nT b Q (.exit id) s) (Q (.exit id) s):=⟨hN⟩
instance aDt{ι:Type}{sl:ι→List V}{C:ι→Hp→Nat→Prop}{m:ι→Nat}{n id:Nat}:Stp (cA sl C m n Q (.exit id) s) (Q (.exit id) s):=⟨fH⟩
instance aDs{id:Nat}:Stp (cP id Q (.exit id) s) (Q .normal s):=⟨fJ⟩
instance aDr{A B:Prop}:Stp (nL true A B) A:=⟨uO⟩
instance aDq{A B:Prop}:Stp (nL false A B) B:=⟨zM⟩
theorem ee2{p0 p1:Prop}(x0:p0)(x1:p1):p0∧p1:=⟨x0,x1⟩
theorem ee4{p0 p1 p2 p3:Prop}(x0:p0)(x1:p1)(x2:p2)(x3:p3):p0∧p1∧p2∧p3:=⟨x0,x1,x2,x3⟩
theorem ee5{p0 p1 p2 p3 p4:Prop}(x0:p0)(x1:p1)(x2:p2)(x3:p3)(x4:p4):p0∧p1∧p2∧p3∧p4:=⟨x0,x1,x2,x3,x4⟩
theorem wl{G B:Prop}(k:B)(h:PLift B→G:=by
 intro k
 (repeat (first|with_reducible refine fF ?_|with_reducible refine cN ?_|with_reducible refine eS ?_|with_reducible refine bN ?_|with_reducible refine bE ?_|with_reducible refine eJ ?_|(refine eU rfl (by simp only[go_sem,reduceIte,Nat.reduceAdd,Nat.reduceSub,Nat.reduceLT,Nat.reduceLeDiff,reduceCtorEq,Nat.reduceEqDiff,Int.reduceToNat];try omega) ?_;simp only[go_sem,reduceIte,Nat.reduceAdd,Nat.reduceSub,Nat.reduceLT,Nat.reduceLeDiff,reduceCtorEq,Nat.reduceEqDiff,Int.reduceToNat])|(with_reducible refine dG ?_)))
 exact k.down):G:=h ⟨k⟩
theorem wle{G B p:Prop}(E:p)(k:B)(h:p→PLift B→G:=by
 intro E k
 (repeat (first|with_reducible refine fF ?_|with_reducible refine cN ?_|with_reducible refine eS ?_|with_reducible refine bN ?_|with_reducible refine bE ?_|with_reducible refine eJ ?_|(refine eU rfl (by simp only[E,List.length_map,go_sem,reduceIte,Nat.reduceAdd,Nat.reduceSub,Nat.reduceLT,Nat.reduceLeDiff,reduceCtorEq,Nat.reduceEqDiff,Int.reduceToNat];try omega) ?_;simp only[E,List.length_map,go_sem,reduceIte,Nat.reduceAdd,Nat.reduceSub,Nat.reduceLT,Nat.reduceLeDiff,reduceCtorEq,Nat.reduceEqDiff,Int.reduceToNat])|(with_reducible refine dG ?_)))
 exact k.down):G:=h E ⟨k⟩
attribute [go_sem] Option.some.injEq Prod.mk.injEq false_and and_false Bool.true_eq_false aDd aCz aDc aBO aCw if_true Bool.true_and aCm nB wD lH fE aA.ok aA.next LOp.ok LOp.next aR.ok aR.out aF.ev aZ zQ kM iD sL V.undef Sh.size kH qV eW aA.dok aA.dres LOp.dok LOp.dout yJ zN eK eV List.take_succ_cons List.take_zero List.take_nil List.drop_succ_cons List.drop_zero List.drop_nil List.set_cons_succ List.set_cons_zero List.getD_cons_succ List.getD_cons_zero List.length_cons List.length_nil List.map_cons List.map_nil List.all_cons List.all_nil List.mem_cons List.not_mem_nil List.replicate_succ List.replicate_zero List.cons_append List.nil_append List.append_nil List.isEmpty_cons List.isEmpty_nil dI eG oV Option.getD_some Option.isSome_some Option.isSome_none Nat.add_eq Nat.zero_add Nat.add_zero true_and and_true and_self true_implies implies_true false_implies forall_const forall_eq forall_eq_or_imp ne_eq not_false_eq_true not_true_eq_false Bool.not_true Bool.not_false decide_true decide_false Bool.and_true Bool.true_and Bool.and_false Bool.false_and true_or or_true false_or or_false eq_self Bool.false_eq_true aCT aCv lA aI cB cM eP qY oD qX gV kG dO Int.toNat_natCast Int.toNat_zero List.take_length Hp.set_app Hp.del_app oR nZ aA.plain LOp.isCall aA.dplain LOp.isStop aBs aDa aCy aDl aBF V.gd_true V.gd_false aCe aBh aBi aCd vJ aJ aN iK kU beq_true beq_false aAi aAj aAk xY xZ tO tP oA aBG yB aAy aAv uC aAw aAz aBw aBx uD aAx rT yA aBy vW aAu vX qF aAY aCD aCE aCC aAN yU aBQ hZ aAU aAT aAS aAR aAQ wZ wY zV zU zT xC xB xA aAX aAW aAV zY zX zW oF yQ dJ rM Hp.turn gE Option.isNone_some Option.isNone_none aDj kB kR aA.plain2 LOp.isApp aDk aCW aCX aCI aBN aBM
theorem dmo{h H:Hp}{nx n:Nat}(q:aX h nx)(k:aX h nx→aX H n:=by
 intro q;(try dsimp only);repeat (first|exact aX.up q (by omega)|refine aX.set2 ?_ (by omega) _|refine aX.del ?_|refine aX.delO ?_ _)):aX H n:=k q
theorem kep{h h1 H:Hp}{m n:Nat}(q:Hp.same m h h1)(k:Hp.same m h h1→Hp.same n h H:=by
 intro q;(try dsimp only);repeat (first|exact q|refine eD ?_ (by omega) _|refine mM ?_ (by omega))):Hp.same n h H:=k q
theorem aCJ{h h1 H:Hp}{m n n0:Nat}{o:Own}{es:List V}(q:Hp.same m h h1)(a:Acc h1 n0 o es)(k:Hp.same m h h1→Acc h1 n0 o es→Hp.same n h H:=by
 intro q a;(try dsimp only);repeat (first|exact q|refine eD ?_ (by omega) _|refine mM ?_ (by omega)|refine aAc ?_ (fun id e=>by have:=a.ge id e;omega))):Hp.same n h H:=k q a
theorem acc{h H:Hp}{nx n0:Nat}{o:Own}{es:List V}(a:Acc h n0 o es)(d:aX h nx)(k:Acc h n0 o es→aX h nx→Acc H n0 o es:=by
 intro a d;(try dsimp only);repeat' (first|exact a|exact aX.ntip d (by omega)|exact vK|exact aCg (by assumption)|refine pO (by omega) ?_|refine aBk ?_|refine Acc.set ?_ ?_ _)):Acc H n0 o es:=k a d
theorem lef{h h1 H:Hp}{nx:Nat}(d:aX h nx)(q:h.le h1)(k:aX h nx→h.le h1→h.le H:=by
 intro d q;(try dsimp only);repeat (first|exact q|refine gN d ?_ (by omega) _|refine mV d ?_ (by omega))):h.le H:=k d q
theorem leo{h H:Hp}{nx:Nat}(d:aX h nx)(k:aX h nx→h.le H:=by
 intro d;(try dsimp only);repeat (first|exact Hp.le_refl _|refine gN d ?_ (by omega) _|refine mV d ?_ (by omega))):h.le H:=k d
theorem dct{p:Prop} [Decidable p](h:p:=by omega):decide p=true:=decide_eq_true h
theorem dcf{p:Prop} [Decidable p](h:¬p:=by omega):decide p=false:=decide_eq_false h
theorem bqf{a b:Int}(h:a≠b:=by omega):(a==b)=false:=by simpa using h
theorem bqt{a b:Int}(h:a=b:=by omega):(a==b)=true:=by simpa using h
theorem bnt{a b:Int}(h:a≠b:=by omega):(a != b)=true:=by simpa using h
theorem bnf{a b:Int}(h:a=b:=by omega):(a != b)=false:=by simpa using h
theorem wrp{a b:Int}(h:a=b:=by omega)(h1:-9223372036854775808≤b:=by omega)(h2:b<9223372036854775808:=by omega):IntKind.i64.wrap a=b:=by rw[h];exact mD (by omega) (by omega)
theorem e2{A B:Prop}(a:A)(b:B):A∧B:=⟨a,b⟩
theorem e3{A B C:Prop}(a:A)(b:B)(c:C):A∧B∧C:=⟨a,b,c⟩
theorem e4{A B C D:Prop}(a:A)(b:B)(c:C)(d:D):A∧B∧C∧D:=⟨a,b,c,d⟩
theorem e5{A B C D E:Prop}(a:A)(b:B)(c:C)(d:D)(e:E):A∧B∧C∧D∧E:=⟨a,b,c,d,e⟩
theorem e6{A B C D E F:Prop}(a:A)(b:B)(c:C)(d:D)(e:E)(f:F):A∧B∧C∧D∧E∧F:=⟨a,b,c,d,e,f⟩
theorem e7{A B C D E F G:Prop}(a:A)(b:B)(c:C)(d:D)(e:E)(f:F)(g:G):A∧B∧C∧D∧E∧F∧G:=⟨a,b,c,d,e,f,g⟩
theorem e8{A B C D E F G H:Prop}(a:A)(b:B)(c:C)(d:D)(e:E)(f:F)(g:G)(h:H):A∧B∧C∧D∧E∧F∧G∧H:=⟨a,b,c,d,e,f,g,h⟩
theorem e9{A B C D E F G H I:Prop}(a:A)(b:B)(c:C)(d:D)(e:E)(f:F)(g:G)(h:H)(i:I):A∧B∧C∧D∧E∧F∧G∧H∧I:=⟨a,b,c,d,e,f,g,h,i⟩
theorem e10{A B C D E F G H I J:Prop}(a:A)(b:B)(c:C)(d:D)(e:E)(f:F)(g:G)(h:H)(i:I)(j:J):A∧B∧C∧D∧E∧F∧G∧H∧I∧J:=⟨a,b,c,d,e,f,g,h,i,j⟩
theorem e11{A B C D E F G H I J K:Prop}(a:A)(b:B)(c:C)(d:D)(e:E)(f:F)(g:G)(h:H)(i:I)(j:J)(k:K):A∧B∧C∧D∧E∧F∧G∧H∧I∧J∧K:=⟨a,b,c,d,e,f,g,h,i,j,k⟩
theorem e12{A B C D E F G H I J K L:Prop}(a:A)(b:B)(c:C)(d:D)(e:E)(f:F)(g:G)(h:H)(i:I)(j:J)(k:K)(l:L):A∧B∧C∧D∧E∧F∧G∧H∧I∧J∧K∧L:=⟨a,b,c,d,e,f,g,h,i,j,k,l⟩
theorem e14{A B C D E F G H I J K L M N:Prop}(a:A)(b:B)(c:C)(d:D)(e:E)(f:F)(g:G)(h:H)(i:I)(j:J)(k:K)(l:L)(m:M)(n:N):A∧B∧C∧D∧E∧F∧G∧H∧I∧J∧K∧L∧M∧N:=⟨a,b,c,d,e,f,g,h,i,j,k,l,m,n⟩
theorem au{G B:Prop}(k:B)(h:PLift B→G:=by
 intro k
 (repeat' (first|(with_reducible first|refine stp ?_|refine cZ (by decide) ?_)|((first|(with_reducible refine uB ?_;first|refine qE rfl ?_ ?_|refine aY (C1 _) rfl (aQ _) ?_|refine aY (C2 _) rfl (aQ _) ?_|refine aY (C3 _) rfl (aQ _) ?_|refine aY (C4 _) rfl (aQ _) ?_|refine aY C5 rfl (aQ _) ?_|refine aY C6 rfl (aQ _) ?_|(first|refine jX rfl ?_|refine jY rfl ?_)|refine gT rfl ?_)|(with_reducible refine uJ ?_;first|refine qU rfl ?_ ?_|refine bI (D1 _) rfl (bO _) ?_|refine bI (D2 _) rfl (bO _) ?_|refine bI (D3 _) rfl (bO _) ?_|refine bI (D4 _) rfl (bO _) ?_|refine bI (D5 _) rfl (bO _) ?_|refine bI (D6 _) rfl (bO _) ?_|(first|refine kE rfl ?_|refine kF rfl ?_)|refine gU rfl ?_|refine hP (oB ?_)|refine hP (qQ ?_))|(with_reducible refine uN ?_;refine nW rfl ?_))<;>try simp only[go_sem,reduceIte,Nat.reduceAdd,Nat.reduceSub,Nat.reduceLT,Nat.reduceLeDiff,reduceCtorEq,Nat.reduceEqDiff,Int.reduceToNat])|(with_reducible refine zJ ?_;refine vM rfl ?_)|omega))
 exact k.down):G:=h ⟨k⟩
theorem aus{G B:Prop}(k:B)(h:PLift B→G:=by
 intro k
 (repeat' (first|(with_reducible first|refine stp ?_|refine cZ (by decide) ?_)|((first|(with_reducible refine uB ?_;first|refine qE rfl ?_ ?_|refine aY (C1 _) rfl (aQ _) ?_|refine aY (C2 _) rfl (aQ _) ?_|refine aY (C3 _) rfl (aQ _) ?_|refine aY (C4 _) rfl (aQ _) ?_|refine aY C5 rfl (aQ _) ?_|refine aY C6 rfl (aQ _) ?_|(first|refine jX rfl ?_|refine jY rfl ?_)|refine gT rfl ?_)|(with_reducible refine uJ ?_;first|refine qU rfl ?_ ?_|refine bI (D1 _) rfl (bO _) ?_|refine bI (D2 _) rfl (bO _) ?_|refine bI (D3 _) rfl (bO _) ?_|refine bI (D4 _) rfl (bO _) ?_|refine bI (D5 _) rfl (bO _) ?_|refine bI (D6 _) rfl (bO _) ?_|(first|refine kE rfl ?_|refine kF rfl ?_)|refine gU rfl ?_|refine hP (oB ?_)|refine hP (qQ ?_))|(with_reducible refine uN ?_;refine nW rfl ?_))<;>try simp only[go_sem,reduceIte,Nat.reduceAdd,Nat.reduceSub,Nat.reduceLT,Nat.reduceLeDiff,reduceCtorEq,Nat.reduceEqDiff,Int.reduceToNat])|omega))
 exact k.down):G:=h ⟨k⟩
theorem aue{G B p:Prop}(E:p)(k:B)(h:p→PLift B→G:=by
 intro E k
 (repeat' (first|(with_reducible first|refine stp ?_|refine cZ (by decide) ?_)|((first|(with_reducible refine uB ?_;first|refine qE rfl ?_ ?_|refine aY (C1 _) rfl (aQ _) ?_|refine aY (C2 _) rfl (aQ _) ?_|refine aY (C3 _) rfl (aQ _) ?_|refine aY (C4 _) rfl (aQ _) ?_|refine aY C5 rfl (aQ _) ?_|refine aY C6 rfl (aQ _) ?_|refine aBu rfl (acc hacc hdm) rfl (by simp) (by simp only[E,List.length_map,go_sem,reduceIte,Nat.reduceAdd,Nat.reduceSub,Nat.reduceLT,Nat.reduceLeDiff,reduceCtorEq,Nat.reduceEqDiff,Int.reduceToNat];try omega) ?_|refine aBt rfl rfl (by simp only[E,List.length_map,go_sem,reduceIte,Nat.reduceAdd,Nat.reduceSub,Nat.reduceLT,Nat.reduceLeDiff,reduceCtorEq,Nat.reduceEqDiff,Int.reduceToNat];try omega) ?_|(first|refine jX rfl ?_|refine jY rfl ?_)|refine gT rfl ?_)|(with_reducible refine uJ ?_;first|refine qU rfl ?_ ?_|refine bI (D1 _) rfl (bO _) ?_|refine bI (D2 _) rfl (bO _) ?_|refine bI (D3 _) rfl (bO _) ?_|refine bI (D4 _) rfl (bO _) ?_|refine bI (D5 _) rfl (bO _) ?_|refine bI (D6 _) rfl (bO _) ?_|refine yL rfl rfl (by decide) (by(simp only[dJ,go_sem,reduceIte,Nat.reduceAdd,Nat.reduceSub,Nat.reduceLT,Nat.reduceLeDiff,reduceCtorEq,Nat.reduceEqDiff,Int.reduceToNat])<;>try omega) (by simp only[go_sem,reduceIte,Nat.reduceAdd,Nat.reduceSub,Nat.reduceLT,Nat.reduceLeDiff,reduceCtorEq,Nat.reduceEqDiff,Int.reduceToNat]) (by simp only[go_sem,reduceIte,Nat.reduceAdd,Nat.reduceSub,Nat.reduceLT,Nat.reduceLeDiff,reduceCtorEq,Nat.reduceEqDiff,Int.reduceToNat]) (by simp only[E,go_sem,reduceIte,Nat.reduceAdd,Nat.reduceSub,Nat.reduceLT,Nat.reduceLeDiff,reduceCtorEq,Nat.reduceEqDiff,Int.reduceToNat]) ?_|(first|refine kE rfl ?_|refine kF rfl ?_)|refine gU rfl ?_|refine hP (oB ?_)|refine hP (qQ ?_))|(with_reducible refine uN ?_;refine nW rfl ?_))<;>try simp only[E,List.length_map,go_sem,reduceIte,Nat.reduceAdd,Nat.reduceSub,Nat.reduceLT,Nat.reduceLeDiff,reduceCtorEq,Nat.reduceEqDiff,Int.reduceToNat])|(with_reducible refine zJ ?_;refine vM rfl ?_)|omega))
 exact k.down):G:=h E ⟨k⟩
end Go.Proofs.Ytemjhgboialjpaa
