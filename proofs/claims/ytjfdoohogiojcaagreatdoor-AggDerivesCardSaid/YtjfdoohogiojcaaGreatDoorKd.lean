/-
Texts of this proof,one behind the other. No conditions.
-/
import Derived.Test.YtjfdoohogiojcaaGreatDoorKcb
open Go.Proofs.YtjfdoohogiojcaaGreatDoor.V renaming aAE→Ka,undef→Kb,fits→Kc,pick→Kd
open List renaming getD_cons_zero→Ke,getD_eq_getElem?_getD→Kg,getElem?_eq_getElem→Kh,cons_append→Ki
open Bool renaming false_eq_true→Kf,and_eq_true→Kj,true_and→Ko
open Option renaming getD_some→Kk
open Nat renaming le_refl→Km,lt_or_ge→Kp,zero_add→Kq,zero_le→Kt
open Go renaming undef→Ks
set_option linter.unusedSimpArgs false
set_option linter.unusedVariables false
set_option linter.unusedSectionVars false
set_option maxHeartbeats 8000000
namespace Go.Proofs.YtjfdoohogiojcaaGreatDoor
open Go.RowKit
theorem Hp.aAL(h:Hp)(n:Nat)(b:Blk)(m:Nat):(h.set n b) m=if m=n then some b else h m:=rfl
theorem Hp.aAn(h:Hp)(n m:Nat):(h.del n) m=if m=n then Option.none else h m:=rfl
def aW(h:Hp)(nx:Nat):Prop:=∀m b,h m=some b→m<nx
theorem aX.dom{P:Program}{f:FuncId}{args:List V}{h:Hp}{nx:Nat}{R:V→Hp→Nat→Prop}(c:aX P f args h nx R):aX P f args h nx fun v h' nx'=>R v h' nx'∧aW h' nx'∧nx≤nx':=
 ⟨c.1,fun K cargs hl hrel hv=>(c.2 K cargs hl hrel hv).mono fun _ _ ⟨K',v,cv,h',nx',a,b,c,d,e,g,i,j⟩=>⟨K',v,cv,h',nx',a,b,c,d,e,g,i,j,fun m b hm=>(g m (e.lt m b hm)).1,i⟩⟩
theorem dK.dom{P:Program}{n:Nat}{args:List V}{h:Hp}{nx:Nat}{R:V→Hp→Nat→Prop}(c:dK P n args h nx R):dK P n args h nx fun v h' nx'=>R v h' nx'∧aW h' nx'∧nx≤nx':=
 fun m K cargs hl hn hrel hv=>(c m K cargs hl hn hrel hv).mono fun _ _ ⟨K',v,cv,h',nx',a,b,c,d,e,g,i,j⟩=>⟨K',v,cv,h',nx',a,b,c,d,e,g,i,j,fun m b hm=>(g m (e.lt m b hm)).1,i⟩
theorem aW.set{h:Hp}{nx nx' n:Nat}(hd:aW h nx)(hn:n<nx')(hle:nx≤nx')(b:Blk):aW (h.set n b) nx':=fun m c e=>by
 unfold Hp.set at e;split at e
 ·omega
 have:=hd m c e;omega
theorem aW.del{h:Hp}{nx n:Nat}(hd:aW h nx):aW (h.del n) nx:=fun m c e=>by
 unfold Hp.del at e;split at e
 ·cases e
 exact hd m c e
theorem aW.up{h:Hp}{nx nx':Nat}(hd:aW h nx)(hle:nx≤nx'):aW h nx':=fun m c e=>by have:=hd m c e;omega
theorem aW.le{h h':Hp}{nx:Nat}(hd:aW h' nx)(hle:h.le h'):aW h nx:=fun m c e=>hd m c (hle m c e)
theorem be{h h':Hp}{n:Nat}{b:Blk}(hle:h.le h')(hn:h' n=some b):(h.set n b).le h':=fun m c e=>by
 unfold Hp.set at e;split at e
 ·rename_i em;subst em;injection e with e;subst e;exact hn
 exact hle m c e
theorem gM{h h':Hp}{n:Nat}(hle:h.le h')(hn:h n=none)(b:Blk):h.le (h'.set n b):=fun m c e=>by
 unfold Hp.set;split
 ·rename_i em;subst em;rw[hn] at e;cases e
 exact hle m c e
theorem kX{h h':Hp}{n:Nat}(hle:h.le h')(hn:h n=none):h.le (h'.del n):=fun m c e=>by
 unfold Hp.del;split
 ·rename_i em;subst em;rw[hn] at e;cases e
 exact hle m c e
theorem aW.none{h:Hp}{nx n:Nat}(hd:aW h nx)(hn:nx≤n):h n= .none:=by
 cases e:h n with
 |none=>rfl
 |some b=>exact absurd (hd n b e) or
theorem yj{h h':Hp}(hle:h.le h'):Hp.has h h':=fun n b e _=>hle n _ e
theorem Hp.le_trans{a b c:Hp}(h:a.le b)(h':b.le c):a.le c:=fun n x e=>h' n x (h n x e)
def ap(P:Program)(gf:Nat)(caps:List V)(hb:Hp)(xs:List (List V)):Prop:=
 ∀(yn:Nat) (J:Nat→Hp→Nat→Prop) (D:Hp→Nat→Prop),
  (∀i h nx,J i h nx→hb.has h)→(∀i h nx nx',J i h nx→nx≤nx'→J i h nx')→(∀h nx nx',D h nx→nx≤nx'→D h nx')→
  (∀i (hi:i<xs.length) h nx,J i h nx→aW h nx→dK P yn xs[i] h nx fun v h' nx'=>(v= .bool true∧J (i+1) h' nx')∨(v= .bool false∧D h' nx'))→
  ∀h nx,J 0 h nx→aW h nx→aX P gf (.yld yn::caps) h nx fun _ h' nx'=>J xs.length h' nx'∨D h' nx'
def As(r:Nat)(X:Blk)(J:St→Prop):bE→St→Prop
 | .normal,s=>s.h r=some X∧J s
 |_,_=>False
def lX(r:Nat)(X:Blk)(I:Hp→Nat→Prop)(E:bE→Hp→Nat→Prop):bE→St→Prop
 | .normal,s=>s.h r=some X∧I s.h s.nx
 |e,s=>s.h r=some X∧E e s.h s.nx
theorem lS{r:Nat}{X:Blk}{J:St→Prop}{s:St}(h:s.h r=some X)(hj:J s):As r X J .normal s:=⟨h,hj⟩
theorem lW{r:Nat}{X:Blk}{I:Hp→Nat→Prop}{E:bE→Hp→Nat→Prop}{s:St}(h:s.h r=some X)(hi:I s.h s.nx):lX r X I E .normal s:=⟨h,hi⟩
theorem oc{r:Nat}{X:Blk}{I:Hp→Nat→Prop}{E:bE→Hp→Nat→Prop}{s:St}(h:s.h r=some X)(hi:E .ret s.h s.nx):lX r X I E .ret s:=⟨h,hi⟩
theorem kT{P:Program}{g:aK}{ps:List Nat}{as b:aJ}{Q:bE→St→Prop}{s:St}{gf:Nat}{caps:List V}{hb:Hp}{xs:List (List V)}(hit:ap P gf caps hb xs)(hg:g.ev s.sl= .fn (.func gf) [] caps)
 (hlen:∀x∈xs,x.length=ps.length) (hd:aW s.h s.nx) (I:Nat→Hp→Nat→Prop) (E:bE→Hp→Nat→Prop)
 (hbI:∀i h nx,I i h nx→hb.has h) (hnI:∀i h nx nx',I i h nx→nx≤nx'→I i h nx') (hsI:∀i h nx b,I i h nx→I i (h.set s.nx b) nx)
 (hnE:∀e h nx nx',E e h nx→nx≤nx'→E e h nx') (hsE:∀e h nx b,E e h nx→E e (h.set s.nx b) nx)
 (h0:I 0 s.h (s.nx+1))
 (aDX:∀i (hi:i<xs.length) h nx X,I i h nx→s.nx<nx→h s.nx=some X→aW h nx→
   lwp P as (As s.nx X fun s1=>∀X',lwp P b (lX s.nx X' (I (i+1)) E) ⟨s1.sl,s1.h.set s.nx X',s1.nx⟩) ⟨aAS s.sl ps xs[i],h,nx⟩)
 (aBl:∀h nx,I xs.length h nx→s.nx<nx→aW h nx→Q .normal ⟨s.sl,h.del s.nx,nx⟩)
 (hex:∀e h nx,E e h nx→s.nx<nx→aW h nx→(e= .ret∨∃id,e= .exit id)→Q e ⟨s.sl,h.del s.nx,nx⟩):lwp P (.range g ps as b) Q s:=by
 simp only[lwp,hg];intro rcd U hpl hY;have aAO:∀(h:Hp) (b:Blk),(h.set s.nx b) s.nx=some b:=fun h b=>by simp[Hp.set]
 refine((hit s.nx (fun i h nx=>I i h nx∧h s.nx=some (.obj (rcd .ready none) U))
  (fun h nx=>(h s.nx=some (.obj (rcd .done (some .ret)) U)∧E .ret h nx)∨∃id,h s.nx=some (.obj (rcd .done (some (.exit id))) U)∧E (.exit id) h nx)
  (fun i h nx hj=>hbI i h nx hj.1) (fun i h nx nx' hj hle=>⟨hnI i h nx nx' hj.1 hle,hj.2⟩)
  (fun h nx nx' hD hle=>hD.imp (fun hD=>⟨hD.1,hnE _ _ _ _ hD.2 hle⟩) (fun⟨id,hD⟩=>⟨id,hD.1,hnE _ _ _ _ hD.2 hle⟩)) ?_ _ (s.nx+1) ⟨hsI _ _ _ _ h0,aAO _ _⟩ ?_).dom).mono ?_
 ·rintro i hi h nx ⟨hI,hr⟩ aDN;refine hY xs[i] h nx _ (hlen _ (List.getElem_mem _)) hr ?_;refine oH ?_ (aDX i hi h nx _ hI (aDN _ _ hr) hr aDN);intro e s1 hq;cases e with
  |exit id=>exact hq.elim
  |ret=>exact hq.elim
  |normal=>
   refine⟨hq.1,oH ?_ (hq.2 (.obj (rcd .busy none) U))⟩;intro e s2 hq2;cases e with
   |normal=>exact⟨hq2.1, .inl ⟨rfl,hsI _ _ _ _ hq2.2,aAO _ _⟩⟩
   |ret=>exact⟨hq2.1, .inr ⟨rfl, .inl ⟨aAO _ _,hsE _ _ _ _ hq2.2⟩⟩⟩
   |exit id=>exact⟨hq2.1, .inr ⟨rfl, .inr ⟨id,aAO _ _,hsE _ _ _ _ hq2.2⟩⟩⟩
 ·intro m b hm;unfold Hp.set at hm;split at hm
  ·omega
  have:=hd m b hm;omega
 rintro v h' nx' _ ⟨(⟨hI,hr⟩|(⟨hr,hE⟩|⟨id,hr,hE⟩)),aDN,hle⟩
 ·exact .inl ⟨hr,aBl _ _ hI or aDN⟩
 ·exact .inr (.inl ⟨hr,hex _ _ _ hE or aDN (.inl rfl)⟩)
 exact .inr (.inr ⟨id,hr,hex _ _ _ hE or aDN (.inr ⟨id,rfl⟩)⟩)
def bB{ι:Type}(sl:ι→List V)(C:ι→Hp→Nat→Prop)(m:ι→Nat)(n:Nat)(Q:bE→St→Prop):bE→St→Prop
 | .normal,s=>∃s',rL s s'∧∃i,m i<n∧WkL s'.sl (sl i)∧C i s'.h s'.nx
 |e,s=>Q e s
section
variable{P:Program}{Q:bE→St→Prop}{s:St}{ι:Type}{sl:ι→List V}{C:ι→Hp→Nat→Prop}{m:ι→Nat}{n:Nat}
theorem aH{sl0:List V}{h:Hp}{nx:Nat}(i:ι)(hm:m i<n)(hC:C i h nx)(hw:WkL sl0 (sl i)):bB sl C m n Q .normal ⟨sl0,h,nx⟩:=⟨_,(Wk.refl _).tell,i,hm,hw,hC⟩
theorem fN{id:Nat}(h:Q (.exit id) s):bB sl C m n Q (.exit id) s:=h
theorem fM(h:Q .ret s):bB sl C m n Q .ret s:=h
theorem aT{c:aJ}(sl:ι→List V)(C:ι→Hp→Nat→Prop)(m:ι→Nat)(i0:ι)(h0:C i0 s.h s.nx)(hw:WkL s.sl (sl i0))(hr:∀i h nx,C i h nx→lwp P c (bB sl C m (m i) Q) ⟨sl i,h,nx⟩):lwp P (.loop c) Q s:=by
 refine oI (fun p:ι×Hp×Nat=>C p.1 p.2.1 p.2.2) (fun p=>⟨sl p.1,p.2.1,p.2.2⟩) (fun p=>m p.1) (i0,s.h,s.nx) h0 ⟨hw,Hp.le_refl _,Km _⟩ ?_;rintro⟨i,h,nx⟩ hC;refine oH ?_ (hr i h nx hC);intro e s' hq;cases e with
 |normal=>
  obtain⟨s2,h0,j,h1,h2,h3⟩:=hq;exact⟨(j,s2.h,s2.nx),h3,h1,h0.trans (Wk.tell ⟨h2,Hp.le_refl _,Km _⟩)⟩
 |exit id=>exact hq
 |ret=>exact hq
end
theorem aW.aQ1{h:Hp}{nx n:Nat}(hd:aW h nx)(hn:n<nx)(b:Blk):aW (h.set n b) nx:=hd.set hn (Km _) b
def aA.plain(o:aA):Bool:=match o.g with
 |none=> !o.op.aAX
 |some _=>false
def vQ:List aA→List aA
 | []=>[]
 |o::r=>match o.plain with
  |true=>o::vQ r
  |false=>[]
def tX:List aA→List aA
 | []=>[]
 |o::r=>match o.plain with
  |true=>tX r
  |false=>o::r
theorem rg{P:Program}{Q:St→Prop}:∀(l:List aA) (s:St),qJ (vQ l) s→aZ P (tX l) Q (iY (vQ l) s)→aZ P l Q s
 | [],s,_,h=>h
 |o::r,s,ho,h=>by
  cases hc:o.plain with
  |false=>simp only[vQ,tX,hc] at ho h;exact h
  |true=>
   simp only[vQ,tX,hc] at ho h;have aDg:o.op.aAX=false:=by
    unfold aA.plain at hc;split at hc
    ·simpa using hc
    cases hc
   exact pR aDg ho.1 (rg r _ ho.2 h)
theorem x8{P:Program}{Q:St→Prop}{s:St}:aZ P [] Q s=Q s:=rfl
theorem fC{P:Program}{Q:St→Prop}{s:St}(h:Q s):aZ P [] Q s:=h
theorem iE{P:Program}{Q:St→Prop}{o:aA}{r:List aA}{s:St}(_:o.plain=true)(ho:qJ (vQ (o::r)) s)(h:aZ P (tX (o::r)) Q (iY (vQ (o::r)) s)):aZ P (o::r) Q s:=rg _ s ho h
theorem nJ{P:Program}{Q:St→Prop}{s:St}{dst:Option Nat}{k:Sh}{bs:Nat}{x y:aK}{r:List aA}{ys:List V}(hx:x.ev s.sl= .sl k .nil [])(hy:fK s.h (y.ev s.sl)=some (k,ys))(hne:ys≠ [])(hb:ys.length*bs≤140737488355328)
 (h:aZ P r Q ⟨bJ s.sl dst (.rs s.nx k 0 ys.length),s.h.set s.nx (.arr k ys),s.nx+1⟩):aZ P (⟨dst,none, .append k bs x y⟩::r) Q s:=by
 unfold aZ;simp only[LOp.run,LOp.sem,hy,hx];exact⟨trivial,trivial,by simpa using hb, .inr ⟨trivial,trivial,hne,h⟩⟩
theorem nK{P:Program}{Q:St→Prop}{s:St}{dst:Option Nat}{k:Sh}{bs n len:Nat}{x y:aK}{r:List aA}{es ys:List V}(hx:x.ev s.sl= .rs n k 0 len)(hn:s.h n=some (.arr k es))(hl:len≤es.length)(hy:fK s.h (y.ev s.sl)=some (k,ys))(hne:ys≠ [])(hb:(len+ys.length)*bs≤140737488355328)
 (h:aZ P r Q ⟨bJ s.sl dst (.rs s.nx k 0 (len+ys.length)),(s.h.del n).set s.nx (.arr k (es.take len++ys)),s.nx+1⟩):aZ P (⟨dst,none, .append k bs x y⟩::r) Q s:=by
 unfold aZ;simp only[LOp.run,LOp.sem,hy,hx,hn];exact⟨trivial,trivial, .inr ⟨trivial,trivial,hl,hne,hb,h⟩⟩
theorem jX{P:Program}{Q:St→Prop}{s:St}{dst:Option Nat}{k:Sh}{xs:List aK}{r:List aA}(hf:∀e∈xs,(e.ev s.sl).fits k=true)
 (h:aZ P r Q ⟨bJ s.sl dst (.rs s.nx k 0 xs.length),s.h.set s.nx (.arr k (xs.map (aK.ev s.sl))),s.nx+1⟩):aZ P (⟨dst,none, .bslice k xs⟩::r) Q s:=by
 unfold aZ;exact⟨hf, .inr h⟩
theorem qA{a b:Nat}(h:a≤1000000000)(h':b≤140737):a*b≤140737488355328:=Nat.le_trans (Nat.mul_le_mul h h') ZM
def LOp.aCu:LOp→Bool
 | .call _ _=>true
 | .callv _ _=>true
 | .callw _ _ _=>true
 | .store _ _ _=>true
 |_=>false
def aA.aC7(o:aA):Bool:=match o.g with
 |none=> !o.op.aCu
 |some _=>false
def nG:List (aA×List Nat)→List (aA×List Nat)
 | []=>[]
 |o::r=>match o.1.aC7 with
  |true=>o::nG r
  |false=>[]
def pX:List (aA×List Nat)→List (aA×List Nat)
 | []=>[]
 |o::r=>match o.1.aC7 with
  |true=>pX r
  |false=>o::r
def Ak:List (aA×List Nat)→List (aA×List Nat)
 | []=>[]
 |o::r=>match o.1.op.aCu with
  |true=>[]
  |false=>o::Ak r
def sQ:List (aA×List Nat)→List (aA×List Nat)
 | []=>[]
 |o::r=>match o.1.op.aCu with
  |true=>o::r
  |false=>sQ r
theorem kw:∀l:List (aA×List Nat),Ak l++sQ l=l
 | []=>rfl
 |o::r=>by
  unfold Ak sQ;split
  ·rfl
  rw[Ki,kw r]
theorem yX:∀l:List (aA×List Nat),nG l++pX l=l
 | []=>rfl
 |o::r=>by
  unfold nG pX;split
  ·rw[Ki,yX r]
  rfl
theorem jV{P:Program}{h0:Hp}{nx0:Nat}{Q:List V→List (Option Blk)→List (Option Con)→Prop}{o:aA×List Nat}{r:List (aA×List Nat)}{sl:List V}{aAK:List (Option Blk)}{cons:List (Option Con)}(_:o.1.aC7=true)(ho:yW h0 nx0 (nG (o::r)) ⟨sl,aAK,cons⟩)
 (h:cV P h0 nx0 (pX (o::r)) (iH h0 nx0 (nG (o::r)) ⟨sl,aAK,cons⟩).sl (iH h0 nx0 (nG (o::r)) ⟨sl,aAK,cons⟩).aAK (iH h0 nx0 (nG (o::r)) ⟨sl,aAK,cons⟩).cons Q):cV P h0 nx0 (o::r) sl aAK cons Q:=by
 have:=ku (P:=P) (Q:=Q) (r:=pX (o::r)) (nG (o::r)) ⟨sl,aAK,cons⟩ ho h;rwa [yX] at this
theorem jf(k:Sh):bV k k 0:=by cases k<;>simp[bV]
theorem aQ{k:Sh}{v:V}(h:v.fits k=true):bO k 0 v=v:=by
 cases k with
 |leaf=>cases v<;>first|rfl|(simp[Kc,Ka] at h)
 |agg m=>
  cases v with
  |agg cs=>
   simp only[Kc,Kj,decide_eq_true_eq] at h;simp[bO,V.cells,h.1]
  |_=>simp[Kc] at h
theorem ta(o:Nat):bV .leaf .leaf o=(o=0):=rfl
theorem tc(n o:Nat):bV (.agg n) .leaf o=(o<n):=rfl
theorem td(n m o:Nat):bV (.agg n) (.agg m) o=(o+m≤n):=rfl
theorem oy(o:Nat)(v:V):bO .leaf o v=v.cell o:=rfl
theorem oz(m o:Nat)(cs:List V):bO (.agg m) o (.agg cs)=if o=0∧cs.length=m then .agg cs else .agg ((cs.drop o).take m):=rfl
theorem du(o:Nat)(cs:List V)(v:V):bQ .leaf o (.agg cs) v= .agg (cs.set o v):=rfl
theorem dw(m o:Nat)(cs:List V)(v:V):bQ (.agg m) o (.agg cs) v=if o=0∧cs.length=m then v else .agg (cs.take o++v.cells++cs.drop (o+m)):=rfl
theorem we(n:Nat)(ks:List LK)(xs ys:List V):veq (.plain (.agg n) ks) (.agg xs) (.agg ys)=if ((V.agg xs).fits (.agg n)&&(V.agg ys).fits (.agg n))=true then gI ks xs ys else none:=rfl
theorem AH(ks:List LK)(k k':IntKind)(a b:Int):veq (.plain .leaf ks) (.int k a) (.int k' b)=gI ks [.int k a] [.int k' b]:=rfl
theorem AI(ks:List LK)(a b:Bool):veq (.plain .leaf ks) (.bool a) (.bool b)=gI ks [.bool a] [.bool b]:=rfl
theorem AG(ks:List LK)(a b:ByteArray):veq (.plain .leaf ks) (.str a) (.str b)=gI ks [.str a] [.str b]:=rfl
theorem vh(cs:List V):(V.agg cs).cells=cs:=rfl
theorem qf{v:V}(h:v.aAE=true):v.cells=[v]:=by cases v<;>first|rfl|(simp[Ka] at h)
theorem zh(cs:List V)(j:Nat):(V.agg cs).cell j=cs.getD j Kb:=rfl
theorem gV{v:V}(h:v.aAE=true):v.cell 0=v:=by cases v<;>first|rfl|(simp[Ka] at h)
theorem wa:veq .ptr .nilPtr .nilPtr=some true:=rfl
theorem v8(n:Nat)(k:Sh)(i o:Nat):veq .ptr .nilPtr (.ptr n k i o)=some false:=rfl
theorem v7(n:Nat)(k:Sh)(i o:Nat):veq .ptr (.ptr n k i o) .nilPtr=some false:=rfl
theorem v6(k:Sh)(es:List V)(i o:Nat):veq .ptr .nilPtr (.ept k es i o)=some false:=rfl
theorem vw(k:Sh)(es:List V)(i o:Nat):veq .ptr (.ept k es i o) .nilPtr=some false:=rfl
theorem mf(k k':Sh)(o:Own)(es es':List V):veq .slice (.sl k o es) (.sl k' .nil es')=some (o== .nil):=rfl
theorem mc(n:Nat)(k k':Sh)(o l:Nat)(es':List V):veq .slice (.rs n k o l) (.sl k' .nil es')=some false:=rfl
theorem sa:veq .func .aAa .aAa=some true:=rfl
theorem r9(f:Fn)(a b:List V):veq .func .aAa (.fn f a b)=some false:=rfl
theorem r8(f:Fn)(a b:List V):veq .func (.fn f a b) .aAa=some false:=rfl
theorem mi:veq (.iface true) .nilIface .nilIface=some true:=rfl
theorem mh(c:Bool)(t:Nat)(v:V):veq (.iface c) .nilIface (.iface t v)=some false:=by cases c<;>rfl
theorem mg(c:Bool)(t:Nat)(v:V):veq (.iface c) (.iface t v) .nilIface=some false:=by cases c<;>rfl
theorem wd:veq .map .aAM .aAM=some true:=rfl
theorem wc(n:Nat):veq .map .aAM (.map n)=some false:=rfl
theorem wb(n:Nat):veq .map (.map n) .aAM=some false:=rfl
theorem se:veq .chan .aAN .aAN=some true:=rfl
theorem sd(n:Nat):veq .chan .aAN (.chan n)=some false:=rfl
theorem sb(n:Nat):veq .chan (.chan n) .aAN=some false:=rfl
theorem y5(n:Nat)(cs:List V):Kc (.agg n) (.agg cs)=(decide (cs.length=n)&&cs.all Ka):=by simp only[Kc]
theorem pb(b:Bool):Ka (.bool b)=true:=by simp only[Ka]
theorem ud(k:IntKind)(n:Int):Ka (.int k n)=true:=by simp only[Ka]
theorem ua(s:ByteArray):Ka (.str s)=true:=by simp only[Ka]
theorem fj:Ka (.nilPtr)=true:=by simp only[Ka]
theorem ub(n:Nat)(k:Sh)(i o:Nat):Ka (.ptr n k i o)=true:=by simp only[Ka]
theorem ue(k:Sh)(es:List V)(i o:Nat):Ka (.ept k es i o)=true:=by simp only[Ka]
theorem yg(k:Sh)(own:Own)(es:List V):Ka (.sl k own es)=true:=by simp only[Ka]
theorem yh(n:Nat)(k:Sh)(off len:Nat):Ka (.rs n k off len)=true:=by simp only[Ka]
theorem fk:Ka (.aAM)=true:=by simp only[Ka]
theorem uc(n:Nat):Ka (.map n)=true:=by simp only[Ka]
theorem ae:Ka (.aAN)=true:=by simp only[Ka]
theorem pa(n:Nat):Ka (.chan n)=true:=by simp only[Ka]
theorem yi(f:Fn)(a b:List V):Ka (.fn f a b)=true:=by simp only[Ka]
theorem jw:Ka (.aAa)=true:=by simp only[Ka]
theorem t8(n:Nat):Ka (.yld n)=true:=by simp only[Ka]
theorem jx(t:Nat)(v:V):Ka (.iface t v)=true:=by simp only[Ka]
theorem yB:Ka (.nilIface)=true:=by simp only[Ka]
theorem kL(v:V):v.fits .leaf=v.aAE:=by cases v<;>rfl
theorem aV{k:Sh}{e v:V}(he:e.fits k=true)(hv:v.fits k=true):bQ k 0 e v=v:=by
 cases k with
 |leaf=>cases e<;>first|rfl|(simp[Kc,Ka] at he)
 |agg m=>
  cases e with
  |agg cs=>
   simp only[Kc,Kj,decide_eq_true_eq] at he;simp[bQ,he.1]
  |_=>simp[Kc] at he
def V.gd(c:Bool)(v:V):V:=if c=true then v else Kb
theorem V.aGE(v:V):V.gd true v=v:=rfl
theorem V.aE0(v:V):V.gd false v=Kb:=rfl
theorem Ac(c:Bool)(x y:V):Kd c (V.gd c x) y=Kd c x y:=by cases c<;>simp[V.gd,pN,mY]
theorem w7(c:Bool)(x y:V):Kd c x (V.gd (!c) y)=Kd c x y:=by cases c<;>simp[V.gd,pN,mY]
theorem w8(t x:Bool):Kd t (.bool x) (.bool false)= .bool (t&&x):=by cases t<;>rfl
theorem Ab(t y:Bool):Kd t (.bool true) (.bool y)= .bool (t||y):=by cases t<;>rfl
def Bi(g:Option (Nat×Bool)):List aA→List aA
 | []=>[]
 |o::r=>if o.g=g then o::Bi g r else []
def AD(g:Option (Nat×Bool)):List aA→List aA
 | []=>[]
 |o::r=>if o.g=g then AD g r else o::r
def Bt(l:List aA):List aA:=l.map fun o=>⟨o.dst,none,o.op⟩
def y4(c:Bool)(sl':List V):List aA→List V→List V
 | [],sl=>sl
 |o::r,sl=>y4 c sl' r (match o.dst with|some d=>sl.set d (V.gd c (sl'.getD d Kb))|none=>sl)
theorem ut{K:Ker}{h:Hp}(hr:Rel K h){n a:Nat}{k:Sh}{es:List V}{i o:Nat}{cv:Value}(hn:h n=some (.arr k es))(ha:¬K.live a)(hv:VR K (.ptr n k i o) cv):
 ∃K',K'.w=K.w∧K.le K'∧(∀m,K'.live m→K.live m∨m=a)∧VR K' (.ept k es i o) cv∧Rel K' (h.del n):=by
 have hb:=hr.blk n _ hn;cases hb with
 |arr _ _ c T hh hcs aAg aAG hcv=>
  cases hv with
  |ptr _ _ _ _ hl=>
   have hblk:K.mu n<K.w.heap.size:=by
    rcases Kp (K.mu n) K.w.heap.size with hlt|hge
    ·exact hlt
    rw[Array.getElem?_eq_none hge] at hh;exact absurd hh Zm
   have hle:K.le (K.aAF a (K.mu n) (es.length*k.size)):=K.aAU ha (by rw[aAg];exact Kt _);have hmu:(K.aAF a (K.mu n) (es.length*k.size)).mu a=K.mu n:=by simp[Ker.aAF]
   have hrel:=hr.aAF hn (a:=a) (m:=es.length*k.size) ha (by rw[aAg];exact Kt _) (b1:= .tip) (.tip c T (by rw[hmu];exact hh) (by simp[Ker.aAF]) (by simp only[Ker.aAF,if_true];exact hcs));refine⟨K.aAF a (K.mu n) (es.length*k.size),rfl,hle,fun m hm=>hm.symm,?_,hrel.weaken ?_⟩
   ·have:=VR.ept (K:=K.aAF a (K.mu n) (es.length*k.size)) k es i o (K.mu n) 0 (fun j=>c.getD j Ks) hblk aAG
     (fun j hj=>by
       show K.w.cell? _=_;simp only[World.cell?,hh,Kq];rw[Array.getD_eq_getD_getElem?,Array.getElem?_eq_getElem or];rfl)
     (fun j hj=> .inr (by simp only[Ker.aAF,if_true];omega))
     (fun i hi j hj=>(hcv i hi j hj).mono hle)
    simpa using this
   intro m b e;unfold Hp.del at e;split at e
   ·cases e
   rename_i hm;have hma:m≠a:=fun e2=>ha (e2▸hr.lt m b e);unfold Hp.set Hp.del;rw[if_neg hma,if_neg hm];exact e
def V.loose:V→V
 | .sl k .nil es=> .sl k .nil es
 | .sl k _ es=> .sl k .free es
 | .agg cs=> .agg (cs.map fun c=>match c with
  | .sl k .nil es=> .sl k .nil es
  | .sl k _ es=> .sl k .free es
  |v=>v)
 |v=>v
theorem VR.loose{K:Ker}{v:V}{cv:Value}(r:VR K v cv):VR K v.loose cv:=by
 have one:∀{k:Sh} {own:Own} {es:List V} {cv:Value},VR K (.sl k own es) cv→VR K (match V.sl k own es with| .sl k .nil es=> .sl k .nil es| .sl k _ es=> .sl k .free es|v=>v) cv:=by
  intro k own es cv r;cases own with
  |nil=>exact r
  |full=>exact r.free Zm
  |tok n=>exact r.free Zm
  |free=>exact r.free Zm
 cases v with
 |sl k own es=>cases own<;>first|exact r|exact r.free Zm
 |agg cs=>
  cases r with
  |agg _ ccs hl hv=>
   refine .agg _ ccs (by simpa using hl) fun i hi=>?_;have hi':i<cs.length:=by simpa using hi
   have:=hv i hi';simp only[Kg,List.getElem?_map,Kh hi',Option.map_some,Kk] at this⊢;generalize cs[i]=c at this⊢;cases c<;>first|exact this|exact one this
 |_=>exact r
theorem pC{P:Program}{f:FuncId}{args:List V}{h:Hp}{nx:Nat}{g:Fn}{v0:V}
 (c:aX P f args h nx fun v h' _=>∃n,nx≤n∧v= .fn g [] [.ptr n .leaf 0 0]∧h'=h.set n (.arr .leaf [v0])):
 aX P f args h nx fun v h' _=>v= .fn g [] [.ept .leaf [v0.loose] 0 0]∧h'=h:=by
 refine⟨c.1,fun K cargs hl hr hv=>(c.2 K cargs hl hr hv).mono ?_⟩;rintro e w' ⟨K',v,cv,h',nx',rfl,he,hle,hvr,hrel,hlv,hnx,n,hn,rfl,rfl⟩;have hfr:¬K'.live nx':=fun hh=>Nat.lt_irrefl _ (hlv nx' hh).1;have aAO:(h.set n (.arr .leaf [v0])) n=some (.arr .leaf [v0]):=by simp[Hp.set]
 cases hvr with
 |fn _ _ _ cf cc h1 h2 v1 v2=>
 have vp:=v2 0 Zm;simp only[Ke] at vp;obtain⟨K'',q1,q2,q3,q4,q5⟩:=ut hrel aAO hfr vp;have aDN:h n=none:=by
  cases hd:h n with
  |none=>rfl
  |some b=>exact absurd (hl n (hr.lt n b hd)) or
 have hh:(h.set n (.arr .leaf [v0])).del n=h:=by
  funext x;unfold Hp.set Hp.del;by_cases e2:x=n
  ·subst e2;simp[aDN]
  simp[e2]
 rw[hh] at q5;have q4':VR K'' (.ept .leaf [v0.loose] 0 0) (cc.getD 0 Ks):=by
  generalize cc.getD 0 Ks=x at q4⊢;cases q4 with
  |ept _ _ _ _ b off f hb aAG hcell hst hvv=>
   have aBu:v0.aAE=true:=by simpa [Kc] using aAG v0 Zm
   have hll:v0.loose.aAE=true:=by
    cases v0<;>first|rfl|(simp[Ka] at aBu)|skip
    rename_i own es;cases own<;>rfl
   have hc1:∀v:V,v.aAE=true→v.cell 0=v:=fun v hv=>by cases v<;>first|rfl|(simp[Ka] at hv)
   refine .ept _ _ _ _ b off f hb (by simpa [Kc] using hll) hcell hst ?_;intro i hi j hj;have hi0:i=0:=by simpa using hi
   have hj0:j=0:=by simpa [Sh.size] using hj
   subst hi0 hj0;have:=hvv 0 Zm 0 (by simp[Sh.size]);simp only[Ke,hc1 _ aBu,hc1 _ hll] at this⊢;exact this.loose
 refine⟨K'',_,_,h,nx'+1,q1,he,hle.trans q2, .fn g [] [.ept .leaf [v0.loose] 0 0] cf cc h1 h2 (fun i hi=>absurd hi Zm) (fun i hi=>?_),q5,fun m hm=>?_,or,rfl,rfl⟩
 ·have hi0:i=0:=by simpa using hi
  subst hi0;exact q4'
 rcases q3 m hm with hm|rfl
 ·exact⟨by have:=(hlv m hm).1;omega,(hlv m hm).2⟩
 exact⟨or, .inr hnx⟩
section
variable{P:Program}{h0:Hp}{nx0:Nat}
theorem jU{tl:List aA}{n:Nat}{Q:bE→St→Prop}{s:St}{sl:List V}{aAK:List (Option Blk)}{cons:List (Option Con)}(h:aZ P tl (Q .normal) ⟨sl,zT (pB s.h s.nx aAK) cons,s.nx+n⟩):y8 P tl n Q s sl aAK cons:=h
abbrev DL:=List (aA×List Nat)
def Bl(g:Option (Nat×Bool)):DL→DL
 | []=>[]
 |o::r=>if o.1.g=g then o::Bl g r else []
def AE(g:Option (Nat×Bool)):DL→DL
 | []=>[]
 |o::r=>if o.1.g=g then AE g r else o::r
def Bk(l:DL):DL:=l.map fun o=>(⟨o.1.dst,none,o.1.op⟩,o.2)
def zf(c:Bool)(sl':List V):DL→List V→List V
 | [],sl=>sl
 |o::r,sl=>zf c sl' r (match o.1.dst with|some d=>sl.set d (V.gd c (sl'.getD d Kb))|none=>sl)
def AB{α:Type}:DL→List (Option α)
 | []=>[]
 |_::r=>none::AB r
end
theorem Bq{a j k:Nat}:a+(j+1)+(k+1)=a+(j+k+2):=or
theorem rT{sl:List V}{t:Nat}{v:V}(h:sl.getD t Kb=v):sl.set t v=sl:=by
 rcases Kp t sl.length with ht|ht
 ·rw[Kg,Kh ht] at h;simp only[Kk] at h;rw[←h];exact List.set_getElem_self ht
 exact List.set_eq_of_length_le ht
section
variable{P:Program}{r:List aA}{Qs:St→Prop}{s:St}{dst:Option Nat}
theorem xV{t:Nat}{want b:Bool}{op:LOp}(hb:s.sl.getD t Kb= .bool b)
 (h1:b=want→aZ P (⟨dst,none,op⟩::r) Qs ⟨s.sl.set t (.bool want),s.h,s.nx⟩) (h2:b= !want→aZ P r Qs ⟨bJ (s.sl.set t (.bool !want)) dst Kb,s.h,s.nx⟩):
 aZ P (⟨dst,some (t,want),op⟩::r) Qs s:=by
 refine ou hb (fun e=>?_) (fun e=>?_)
 ·have:=h1 e;rw[←e,rT hb] at this;exact this
 have e':b= !want:=by cases b<;>cases want<;>simp at e⊢
 have:=h2 e';rw[←e',rT hb] at this;exact this
end
section
variable{P:Program}{h0:Hp}{nx0:Nat}{Q:List V→List (Option Blk)→List (Option Con)→Prop}{sl:List V}{aAK:List (Option Blk)}{cons:List (Option Con)}{r:List (aA×List Nat)}{dst:Option Nat}{aAJ:List Nat}
theorem yU{t:Nat}{want b:Bool}{op:LOp}(hb:sl.getD t Kb= .bool b)(h1:b=want→cV P h0 nx0 ((⟨dst,none,op⟩,aAJ)::r) (sl.set t (.bool want)) aAK cons Q)
 (h2:b= !want→cV P h0 nx0 r (bJ (sl.set t (.bool !want)) dst Kb) (aAK++[none]) (cons++[none]) Q):cV P h0 nx0 ((⟨dst,some (t,want),op⟩,aAJ)::r) sl aAK cons Q:=by
 refine py hb (fun e=>?_) (fun e=>?_)
 ·have:=h1 e;rw[←e,rT hb] at this;exact this
 have e':b= !want:=by cases b<;>cases want<;>simp at e⊢
 have:=h2 e';rw[←e',rT hb] at this;exact this
end
section
variable{P:Program}{h0:Hp}{nx0:Nat}{Q:List V→List (Option Blk)→List (Option Con)→Prop}{sl:List V}{aAK:List (Option Blk)}{cons:List (Option Con)}{r:List (aA×List Nat)}{dst:Option Nat}{aAJ:List Nat}{t:Nat}{op:LOp}
end
theorem px{P:Program}{h0:Hp}{nx0:Nat}{Q:List V→List (Option Blk)→List (Option Con)→Prop}{sl:List V}{aAK:List (Option Blk)}{cons:List (Option Con)}{r:List (aA×List Nat)}{dst:Option Nat}{aAJ:List Nat}{t:Sh}{x v:aK}{j i o:Nat}{k:Sh}{es:List V}
 (hx:x.ev sl= .ptr (nx0+j) k i o) (ha:aAK.getD j none=some (.arr k es)) (hd:j∈aAJ) (hu:dC (nx0+j) cons) (hi:i<es.length) (hp:bV k t o) (hf:(v.ev sl).fits t=true)
 (h:cV P h0 nx0 r (bJ sl dst Kb) (aAK++[none]) (cons++[some ⟨nx0+j, .arr k es,some (.arr k (es.set i (bQ t o (es.getD i Kb) (v.ev sl))))⟩]) Q):cV P h0 nx0 ((⟨dst,none, .store t x v⟩,aAJ)::r) sl aAK cons Q:=
 pw hx (by rw[uY];exact⟨hu,hd,ha⟩) hi hp hf h
def qQ(b:Bool)(A B:Prop):Prop:=(b=true→A)∧(b=false→B)
theorem gq{A B:Prop}(h:A):qQ true A B:=⟨(fun _=>h),(fun h=>by cases h)⟩
theorem rq{A B:Prop}(h:B):qQ false A B:=⟨(fun h=>by cases h),(fun _=>h)⟩
theorem sS{b:Bool}{A B:Prop}(h1:b=true→A)(h2:b=false→B):qQ b A B:=⟨h1,h2⟩
theorem lQ{P:Program}{c:aK}{a b:aJ}{Q:bE→St→Prop}{s:St}(h:lwp P (.cond c a b) Q s):lwp P (.cond c a b) Q s:=h
theorem nF{P:Program}{n:Nat}{hd:List (aA×List Nat)}{tl:List aA}{Q:bE→St→Prop}{s:St}(h:lwp P (.draw n hd tl) Q s):lwp P (.draw n hd tl) Q s:=h
theorem lM{P:Program}{o:aA}{r:List aA}{Q:St→Prop}{s:St}(h:aZ P (o::r) Q s):aZ P (o::r) Q s:=h
theorem lP{P:Program}{h0:Hp}{nx0:Nat}{Q:List V→List (Option Blk)→List (Option Con)→Prop}{sl:List V}{aAK:List (Option Blk)}{cons:List (Option Con)}{l:List (aA×List Nat)}(h:cV P h0 nx0 l sl aAK cons Q):cV P h0 nx0 l sl aAK cons Q:=h
theorem gR{P:Program}{c:aK}{a b:aJ}{Q:bE→St→Prop}{s:St}{t:Bool}(hc:c.ev s.sl= .bool t)(h:qQ t (lwp P a Q s) (lwp P b Q s)):lwp P (.cond c a b) Q s:=cL t hc h.1 h.2
theorem eF{P:Program}{r:List aA}{Qs:St→Prop}{s:St}{dst:Option Nat}{t:Nat}{b:Bool}{op:LOp}(hb:s.sl.getD t Kb= .bool b)
 (h:qQ b (aZ P (⟨dst,none,op⟩::r) Qs ⟨s.sl.set t (.bool true),s.h,s.nx⟩) (aZ P r Qs ⟨bJ (s.sl.set t (.bool false)) dst Kb,s.h,s.nx⟩)):aZ P (⟨dst,some (t,true),op⟩::r) Qs s:=
 xV hb h.1 h.2
theorem eG{P:Program}{r:List aA}{Qs:St→Prop}{s:St}{dst:Option Nat}{t:Nat}{b:Bool}{op:LOp}(hb:s.sl.getD t Kb= .bool b)
 (h:qQ b (aZ P r Qs ⟨bJ (s.sl.set t (.bool true)) dst Kb,s.h,s.nx⟩) (aZ P (⟨dst,none,op⟩::r) Qs ⟨s.sl.set t (.bool false),s.h,s.nx⟩)):aZ P (⟨dst,some (t,false),op⟩::r) Qs s:=
 xV hb h.2 h.1
section
variable{P:Program}{h0:Hp}{nx0:Nat}{Q:List V→List (Option Blk)→List (Option Con)→Prop}{sl:List V}{aAK:List (Option Blk)}{cons:List (Option Con)}{r:List (aA×List Nat)}{dst:Option Nat}{aAJ:List Nat}{t:Nat}{op:LOp}
theorem eH{b:Bool}(hb:sl.getD t Kb= .bool b)(h:qQ b (cV P h0 nx0 ((⟨dst,none,op⟩,aAJ)::r) (sl.set t (.bool true)) aAK cons Q) (cV P h0 nx0 r (bJ (sl.set t (.bool false)) dst Kb) (aAK++[none]) (cons++[none]) Q)):
 cV P h0 nx0 ((⟨dst,some (t,true),op⟩,aAJ)::r) sl aAK cons Q:=yU hb h.1 h.2
theorem eI{b:Bool}(hb:sl.getD t Kb= .bool b)(h:qQ b (cV P h0 nx0 r (bJ (sl.set t (.bool true)) dst Kb) (aAK++[none]) (cons++[none]) Q) (cV P h0 nx0 ((⟨dst,none,op⟩,aAJ)::r) (sl.set t (.bool false)) aAK cons Q)):
 cV P h0 nx0 ((⟨dst,some (t,false),op⟩,aAJ)::r) sl aAK cons Q:=yU hb h.2 h.1
end
theorem aL{t u:Nat}{k:Sh}{R:V→Hp→Nat→Prop}{s:St}(ho:(aY.load k (.slot t)).ok s.sl s.h)(h':Hp)(hle:h'.le s.h)(hR:R (.tup [(aY.load k (.slot t)).out s.sl s.h,s.sl.getD u Kb]) h' s.nx):oF [.cell t k, .slot u] R .ret s:=by
 have:=aY.aAW (R:=fun v=>∃h',h'.le s.h∧R (lH [v,s.sl.getD u Kb]) h' s.nx) ho ⟨h',hle,by generalize (aY.load k (.slot t)).out s.sl s.h=x at hR;exact hR⟩;exact this
def Acc(h:Hp)(n0:Nat)(o:Own)(es:List V):Prop:=(es=[]∧o= .nil)∨(es≠ []∧∃id,n0≤id∧o= .tok id∧h id=some .tip)
def aq(h:Hp)(n0:Nat)(o:Own):Prop:=∃id,n0≤id∧o= .tok id∧h id=some .tip
def Hp.aBW(h:Hp):Own→Hp
 | .tok n=>h.del n
 |_=>h
theorem ze(h:Hp):h.aBW .nil=h:=rfl
theorem zd(h:Hp)(n:Nat):h.aBW (.tok n)=h.del n:=rfl
def Hp.same(n0:Nat)(h h':Hp):Prop:=∀m,m<n0→h' m=h m
theorem Hp.same.aAt{n0:Nat}{h:Hp}:Hp.same n0 h h:=fun _ _=>rfl
theorem eT{n0 n:Nat}{h h':Hp}(s:Hp.same n0 h h')(hn:n0≤n)(b:Blk):Hp.same n0 h (h'.set n b):=fun m hm=>by
 unfold Hp.set;rw[if_neg or];exact s m hm
theorem rW{n0 n:Nat}{h h':Hp}(s:Hp.same n0 h h')(hn:n0≤n):Hp.same n0 h (h'.del n):=fun m hm=>by
 unfold Hp.del;rw[if_neg or];exact s m hm
theorem sk{n0:Nat}{h h':Hp}{o:Own}(s:Hp.same n0 h h')(ho:∀id,o= .tok id→n0≤id):Hp.same n0 h (h'.aBW o):=by
 cases o with
 |tok id=>exact rW s (ho id rfl)
 |_=>exact s
theorem Acc.ge{h:Hp}{n0:Nat}{o:Own}{es:List V}(a:Acc h n0 o es)(id:Nat)(e:o= .tok id):n0≤id:=by
 rcases a with⟨_,rfl⟩|⟨_,id',hge,rfl,_⟩
 ·cases e
 injection e with e;omega
theorem Hp.same.le{n0:Nat}{h h':Hp}(s:Hp.same n0 h h'){h0:Hp}(hd:aW h0 n0)(hle:h0.le h):h0.le h':=fun m b e=>by rw[s m (hd m b e)];exact hle m b e
theorem aW.aBW{h:Hp}{nx:Nat}(hd:aW h nx)(o:Own):aW (h.aBW o) nx:=by
 cases o<;>first|exact hd|exact hd.del
theorem pY{h:Hp}{o:Own}{m:Nat}(hn:∀id,o= .tok id→m≠id):h.aBW o m=h m:=by
 cases o with
 |tok id=>show(h.del id) m=h m;unfold Hp.del;rw[if_neg (hn id rfl)]
 |_=>rfl
theorem Acc.set{h:Hp}{n0 n:Nat}{o:Own}{es:List V}(a:Acc h n0 o es)(hn:h n≠some .tip)(b:Blk):Acc (h.set n b) n0 o es:=by
 rcases a with⟨e,eo⟩|⟨e,id,hge,eo,ht⟩
 ·exact .inl ⟨e,eo⟩
 refine .inr ⟨e,id,hge,eo,?_⟩;unfold Hp.set;rw[if_neg (fun e2=>hn (by rw[←e2];exact ht))];exact ht
theorem Acc.del{h:Hp}{n0 n:Nat}{o:Own}{es:List V}(a:Acc h n0 o es)(hn:o≠ .tok n):Acc (h.del n) n0 o es:=by
 rcases a with⟨e,eo⟩|⟨e,id,hge,eo,ht⟩
 ·exact .inl ⟨e,eo⟩
 refine .inr ⟨e,id,hge,eo,?_⟩;unfold Hp.del;rw[if_neg (fun e=>hn (by rw[eo,e]))];exact ht
theorem Acc.aBW{h:Hp}{n0:Nat}{o o':Own}{es:List V}(a:Acc h n0 o es)(hn:∀id,o'= .tok id→o≠ .tok id):Acc (h.aBW o') n0 o es:=by
 cases o' with
 |tok id=>exact a.del (hn id rfl)
 |_=>exact a
theorem aq.set{h:Hp}{n0 n:Nat}{o:Own}(a:aq h n0 o)(hn:h n≠some .tip)(b:Blk):aq (h.set n b) n0 o:=by
 obtain⟨id,hge,eo,ht⟩:=a;refine⟨id,hge,eo,?_⟩;unfold Hp.set;rw[if_neg (fun e2=>hn (by rw[←e2];exact ht))];exact ht
theorem Acc.up{h:Hp}{n0 n1:Nat}{o:Own}{es:List V}(a:Acc h n1 o es)(hn:n0≤n1):Acc h n0 o es:=by
 rcases a with⟨e,eo⟩|⟨e,id,hge,eo,ht⟩
 ·exact .inl ⟨e,eo⟩
 exact .inr ⟨e,id,or,eo,ht⟩
theorem aW.aFp{h:Hp}{nx n:Nat}(hd:aW h nx)(hn:nx≤n):h n≠some .tip:=fun e=>absurd (hd n _ e) or
theorem jg{h:Hp}{n:Nat}{k:Sh}{es:List V}:h.set n (.arr k es) n≠some .tip:=by unfold Hp.set;rw[if_pos rfl];exact(fun e=>by cases e)
theorem Ad{h:Hp}{n:Nat}{k:Sh}{es:List V}(e:h n=some (.arr k es)):h n≠some .tip:=by rw[e];exact(fun e=>by cases e)
theorem xG{h:Hp}{n m:Nat}{b:Blk}(hn:m≠n)(hm:h m≠some .tip):h.set n b m≠some .tip:=by unfold Hp.set;rw[if_neg hn];exact hm
theorem xa{h:Hp}{n m:Nat}(hm:h m≠some .tip):h.del n m≠some .tip:=by unfold Hp.del;split<;>first|exact hm|exact(fun e=>by cases e)
theorem Acc.new{h:Hp}{n0 n:Nat}(es:List V)(hne:es≠ [])(hn:n0≤n):Acc (h.set n .tip) n0 (.tok n) es:= .inr ⟨hne,n,hn,rfl,by unfold Hp.set;rw[if_pos rfl]⟩
theorem aq.new{h:Hp}{n0 n:Nat}(hn:n0≤n):aq (h.set n .tip) n0 (.tok n):=⟨n,hn,rfl,by unfold Hp.set;rw[if_pos rfl]⟩
theorem Acc.nil{h:Hp}{n0:Nat}:Acc h n0 .nil []:= .inl ⟨rfl,rfl⟩
theorem Acc.loose{h:Hp}{n0:Nat}{o:Own}{k:Sh}{es:List V}(a:Acc h n0 o es):(V.sl k o es).loose=(if es.isEmpty=true then .sl k .nil [] else .sl k .free es):=by
 rcases a with⟨rfl,rfl⟩|⟨hne,id,_,rfl,_⟩
 ·rfl
 cases es with
 |nil=>exact absurd rfl hne
 |cons=>rfl
theorem Acc.ok{h:Hp}{n0:Nat}{o:Own}{es:List V}(a:Acc h n0 o es):vV h o:=by
 rcases a with⟨_,rfl⟩|⟨_,id,_,rfl,ht⟩
 ·trivial
 exact ht
theorem aq.ok{h:Hp}{n0:Nat}{o:Own}(a:aq h n0 o):vV h o:=by
 obtain⟨id,_,rfl,ht⟩:=a;exact ht
section
variable{P:Program}{r:List aA}{Qs:St→Prop}{s:St}{dst:Option Nat}
theorem tx{k:Sh}{bs:Nat}{x y:aK}{o:Own}{es ys:List V}(hx:x.ev s.sl= .sl k o es)(ha:vV s.h o)(hy:fK s.h (y.ev s.sl)=some (k,ys))(hne:ys≠ [])(hb:(es.length+ys.length)*bs≤140737488355328)
 (hq:aZ P r Qs ⟨bJ s.sl dst (.sl k (.tok s.nx) (es++ys)),(s.h.aBW o).set s.nx .tip,s.nx+1⟩):aZ P (⟨dst,none, .append k bs x y⟩::r) Qs s:=by
 have hys:ys.isEmpty=false:=by cases ys with|nil=>exact absurd rfl hne|cons=>rfl
 unfold aZ;simp only[LOp.run,LOp.sem,hy,hx,true_and];refine⟨hb, .inl ⟨ha,?_⟩⟩;cases o with
 |free=>exact ha.elim
 |nil=>simpa only[fG,gF,hys,Hp.aBW,Kf,if_false] using hq
 |full=>simpa only[fG,gF,hys,Hp.aBW,Kf,if_false] using hq
 |tok id=>exact hq
theorem yb{k:Sh}{bs:Nat}{x y:aK}{o:Own}{es ys:List V}{n0:Nat}(hx:x.ev s.sl= .sl k o es)(ha:Acc s.h n0 o es)(hy:fK s.h (y.ev s.sl)=some (k,ys))(hne:ys≠ [])(hb:(es.length+ys.length)*bs≤140737488355328)
 (hq:aZ P r Qs ⟨bJ s.sl dst (.sl k (.tok s.nx) (es++ys)),(s.h.aBW o).set s.nx .tip,s.nx+1⟩):aZ P (⟨dst,none, .append k bs x y⟩::r) Qs s:=
 tx hx ha.ok hy hne hb hq
end
def LOp.isApp:LOp→Bool
 | .append .. =>true
 |_=>false
def aA.aBj(o:aA):Bool:=o.plain&& !o.op.isApp
def oV:List aA→List aA
 | []=>[]
 |o::r=>match o.aBj with
  |true=>o::oV r
  |false=>[]
def pV:List aA→List aA
 | []=>[]
 |o::r=>match o.aBj with
  |true=>pV r
  |false=>o::r
theorem rh{P:Program}{Q:St→Prop}:∀(l:List aA) (s:St),qJ (oV l) s→aZ P (pV l) Q (iY (oV l) s)→aZ P l Q s
 | [],s,_,h=>h
 |o::r,s,ho,h=>by
  cases hc:o.aBj with
  |false=>simp only[oV,pV,hc] at ho h;exact h
  |true=>
   simp only[oV,pV,hc] at ho h;have aDg:o.op.aAX=false:=by
    simp only[aA.aBj,Kj] at hc;have hc:=hc.1;unfold aA.plain at hc;split at hc
    ·simpa using hc
    cases hc
   exact pR aDg ho.1 (rh r _ ho.2 h)
theorem jS{P:Program}{Q:St→Prop}{o:aA}{r:List aA}{s:St}(_:o.aBj=true)(ho:qJ (oV (o::r)) s)(h:aZ P (pV (o::r)) Q (iY (oV (o::r)) s)):aZ P (o::r) Q s:=rh _ s ho h
theorem ya{P:Program}{Q:St→Prop}{o:aA}{r:List aA}{s:St}(hp:o.op.isApp=true)(hg:o.g=none)(ho:o.ok s)(h:aZ P r Q (o.next s)):aZ P (o::r) Q s:=by
 refine pR ?_ ho h;cases e:o.op<;>rw[e] at hp<;>first|rfl|cases hp
theorem Br{a b:Nat}(h:a<b):(a=b)=False:=bv or
theorem Bc{a b k:Nat}(h:a<b):(a=b+k)=False:=bv or
theorem Bd{a b:Nat}(h:a<b):(b=a)=False:=bv or
theorem AS{a b k:Nat}(h:a<b):(b+k=a)=False:=bv or
class Stp(A:Prop)(B:outParam Prop):Prop where
 go:B→A
theorem stp{A B:Prop} [i:Stp A B](h:B):A:=i.go h
variable{P:Program}{Q:bE→St→Prop}{s:St}
instance BO{a b:aJ}:Stp (lwp P (.seq a b) Q s) (lwp P a (mI (lwp P b) Q) s):=⟨eO⟩
instance BN{l:List aA}:Stp (lwp P (.ops l) Q s) (aZ P l (Q .normal) s):=⟨fI⟩
instance BM{b:(bE→St→Prop)→St→Prop}:Stp (mI b Q .normal s) (b Q s):=⟨bZ⟩
instance BL{R:St→Prop}:Stp (aZ P [] R s) (R s):=⟨fC⟩
instance BK{id:Nat}:Stp (cW id Q .normal s) (Q .normal s):=⟨bW⟩
instance BJ{id:Nat}{c:aJ}:Stp (lwp P (.block id c) Q s) (lwp P c (cW id Q) s):=⟨dY⟩
instance BI:Stp (lwp P .skip Q s) (Q .normal s):=⟨iC⟩
instance BH:Stp (lwp P .ret Q s) (Q .ret s):=⟨cA⟩
instance BG{b:(bE→St→Prop)→St→Prop}:Stp (mI b Q .ret s) (Q .ret s):=⟨gZ⟩
instance BF{id:Nat}:Stp (cW id Q .ret s) (Q .ret s):=⟨fS⟩
instance BE{ι:Type}{sl:ι→List V}{C:ι→Hp→Nat→Prop}{m:ι→Nat}{n:Nat}:Stp (bB sl C m n Q .ret s) (Q .ret s):=⟨fM⟩
instance BD{id:Nat}:Stp (lwp P (.exit id) Q s) (Q (.exit id) s):=⟨oJ⟩
instance BC{b:(bE→St→Prop)→St→Prop}{id:Nat}:Stp (mI b Q (.exit id) s) (Q (.exit id) s):=⟨mH⟩
instance BB{ι:Type}{sl:ι→List V}{C:ι→Hp→Nat→Prop}{m:ι→Nat}{n id:Nat}:Stp (bB sl C m n Q (.exit id) s) (Q (.exit id) s):=⟨fN⟩
instance BA{id:Nat}:Stp (cW id Q (.exit id) s) (Q .normal s):=⟨fT⟩
instance Bz{A B:Prop}:Stp (qQ true A B) A:=⟨gq⟩
instance By{A B:Prop}:Stp (qQ false A B) B:=⟨rq⟩
theorem ee2{p0 p1:Prop}(x0:p0)(x1:p1):p0∧p1:=⟨x0,x1⟩
theorem ee4{p0 p1 p2 p3:Prop}(x0:p0)(x1:p1)(x2:p2)(x3:p3):p0∧p1∧p2∧p3:=⟨x0,x1,x2,x3⟩
theorem ee5{p0 p1 p2 p3 p4:Prop}(x0:p0)(x1:p1)(x2:p2)(x3:p3)(x4:p4):p0∧p1∧p2∧p3∧p4:=⟨x0,x1,x2,x3,x4⟩
theorem wl{G B:Prop}(k:B)(h:PLift B→G:=by
 intro k
 (repeat (first|with_reducible refine eO ?_|with_reducible refine dY ?_|with_reducible refine iC ?_|with_reducible refine bZ ?_|with_reducible refine bW ?_|with_reducible refine fI ?_|(refine iE rfl (by simp only[go_sem,reduceIte,Nat.reduceAdd,Nat.reduceSub,Nat.reduceLT,Nat.reduceLeDiff,reduceCtorEq,Nat.reduceEqDiff,Int.reduceToNat];try omega) ?_;simp only[go_sem,reduceIte,Nat.reduceAdd,Nat.reduceSub,Nat.reduceLT,Nat.reduceLeDiff,reduceCtorEq,Nat.reduceEqDiff,Int.reduceToNat])|(with_reducible refine fC ?_)))
 exact k.down):G:=h ⟨k⟩
theorem wle{G B p:Prop}(E:p)(k:B)(h:p→PLift B→G:=by
 intro E k
 (repeat (first|with_reducible refine eO ?_|with_reducible refine dY ?_|with_reducible refine iC ?_|with_reducible refine bZ ?_|with_reducible refine bW ?_|with_reducible refine fI ?_|(refine iE rfl (by simp only[E,List.length_map,go_sem,reduceIte,Nat.reduceAdd,Nat.reduceSub,Nat.reduceLT,Nat.reduceLeDiff,reduceCtorEq,Nat.reduceEqDiff,Int.reduceToNat];try omega) ?_;simp only[E,List.length_map,go_sem,reduceIte,Nat.reduceAdd,Nat.reduceSub,Nat.reduceLT,Nat.reduceLeDiff,reduceCtorEq,Nat.reduceEqDiff,Int.reduceToNat])|(with_reducible refine fC ?_)))
 exact k.down):G:=h E ⟨k⟩
attribute [go_sem] Option.some.injEq Prod.mk.injEq false_and and_false Bool.true_eq_false Bl AE Bk zf AB if_true Ko Ak sQ j9 mkL mkN qJ iY aA.ok aA.next LOp.ok LOp.next aY.ok aY.out aK.ev bJ rx pN mY bq Kb Sh.size pB yW iH aA.dok aA.aEH LOp.dok LOp.aFn pu rr gI iG List.take_succ_cons List.take_zero List.take_nil List.drop_succ_cons List.drop_zero List.drop_nil List.set_cons_succ List.set_cons_zero List.getD_cons_succ Ke List.length_cons List.length_nil List.map_cons List.map_nil List.all_cons List.all_nil List.mem_cons List.not_mem_nil List.replicate_succ List.replicate_zero Ki List.nil_append List.append_nil List.isEmpty_cons List.isEmpty_nil fG gF vV Kk Option.isSome_some Option.isSome_none Nat.add_eq Kq Nat.add_zero true_and and_true and_self true_implies implies_true false_implies forall_const forall_eq forall_eq_or_imp ne_eq not_false_eq_true not_true_eq_false Bool.not_true Bool.not_false decide_true decide_false Bool.and_true Ko Bool.and_false Bool.false_and true_or or_true false_or or_false eq_self Kf Ba AA lH aD cT dW gO yZ uW yY mB oZ fK Int.toNat_natCast Int.toNat_zero List.take_length Hp.aAL Hp.aAn vQ tX aA.plain LOp.aAX aA.aC7 LOp.aCu x8 Bi AD Bt y4 V.aGE V.aE0 Ac w7 w8 Ab jf aQ aV nG pX beq_true beq_false ta tc td oy oz du dw kL y5 pb ud ua fj ub ue yg yh fk uc ae pa yi jw t8 jx yB we AH AI AG vh qf zh gV wa v8 v7 v6 vw mf mc sa r9 r8 mi mh mg wd wc wb se sd sb uY qb dC zT Hp.aBo kZ Option.isNone_some Option.isNone_none Bq oV pV aA.aBj LOp.isApp Br Bc Bd AS ze zd
theorem dmo{h H:Hp}{nx n:Nat}(q:aW h nx)(k:aW h nx→aW H n:=by
 intro q;(try dsimp only);repeat (first|exact aW.up q (by omega)|refine aW.aQ1 ?_ (by omega) _|refine aW.del ?_|refine aW.aBW ?_ _)):aW H n:=k q
theorem kep{h h1 H:Hp}{m n:Nat}(q:Hp.same m h h1)(k:Hp.same m h h1→Hp.same n h H:=by
 intro q;(try dsimp only);repeat (first|exact q|refine eT ?_ (by omega) _|refine rW ?_ (by omega))):Hp.same n h H:=k q
theorem vZ{h h1 H:Hp}{m n n0:Nat}{o:Own}{es:List V}(q:Hp.same m h h1)(a:Acc h1 n0 o es)(k:Hp.same m h h1→Acc h1 n0 o es→Hp.same n h H:=by
 intro q a;(try dsimp only);repeat (first|exact q|refine eT ?_ (by omega) _|refine rW ?_ (by omega)|refine sk ?_ (fun id e=>by have:=a.ge id e;omega))):Hp.same n h H:=k q a
theorem acc{h H:Hp}{nx n0:Nat}{o:Own}{es:List V}(a:Acc h n0 o es)(d:aW h nx)(k:Acc h n0 o es→aW h nx→Acc H n0 o es:=by
 intro a d;(try dsimp only);repeat' (first|exact a|exact aW.aFp d (by omega)|exact jg|exact Ad (by assumption)|refine xG (by omega) ?_|refine xa ?_|refine Acc.set ?_ ?_ _)):Acc H n0 o es:=k a d
theorem lef{h h1 H:Hp}{nx:Nat}(d:aW h nx)(q:h.le h1)(k:aW h nx→h.le h1→h.le H:=by
 intro d q;(try dsimp only);repeat (first|exact q|refine lN d ?_ (by omega) _|refine sI d ?_ (by omega))):h.le H:=k d q
theorem leo{h H:Hp}{nx:Nat}(d:aW h nx)(k:aW h nx→h.le H:=by
 intro d;(try dsimp only);repeat (first|exact Hp.le_refl _|refine lN d ?_ (by omega) _|refine sI d ?_ (by omega))):h.le H:=k d
theorem fls{p:Prop}(h:¬p:=by omega):p=False:=eq_false h
theorem dct{p:Prop} [Decidable p](h:p:=by omega):decide p=true:=decide_eq_true h
theorem dcf{p:Prop} [Decidable p](h:¬p:=by omega):decide p=false:=decide_eq_false h
theorem bqf{a b:Int}(h:a≠b:=by omega):(a==b)=false:=by simpa using h
theorem bqt{a b:Int}(h:a=b:=by omega):(a==b)=true:=by simpa using h
theorem bnt{a b:Int}(h:a≠b:=by omega):(a != b)=true:=by simpa using h
theorem bnf{a b:Int}(h:a=b:=by omega):(a != b)=false:=by simpa using h
theorem wrp{a b:Int}(h:a=b:=by omega)(h1:-9223372036854775808≤b:=by omega)(h2:b<9223372036854775808:=by omega):IntKind.i64.wrap a=b:=by rw[h];exact pF (by omega) (by omega)
theorem e2{A B:Prop}(a:A)(b:B):A∧B:=⟨a,b⟩
theorem e3{A B C:Prop}(a:A)(b:B)(c:C):A∧B∧C:=⟨a,b,c⟩
theorem e4{A B C D:Prop}(a:A)(b:B)(c:C)(d:D):A∧B∧C∧D:=⟨a,b,c,d⟩
theorem e5{A B C D E:Prop}(a:A)(b:B)(c:C)(d:D)(e:E):A∧B∧C∧D∧E:=⟨a,b,c,d,e⟩
theorem e6{A B C D E F:Prop}(a:A)(b:B)(c:C)(d:D)(e:E)(f:F):A∧B∧C∧D∧E∧F:=⟨a,b,c,d,e,f⟩
theorem e7{A B C D E F G:Prop}(a:A)(b:B)(c:C)(d:D)(e:E)(f:F)(g:G):A∧B∧C∧D∧E∧F∧G:=⟨a,b,c,d,e,f,g⟩
theorem e8{A B C D E F G H:Prop}(a:A)(b:B)(c:C)(d:D)(e:E)(f:F)(g:G)(h:H):A∧B∧C∧D∧E∧F∧G∧H:=⟨a,b,c,d,e,f,g,h⟩
theorem e9{A B C D E F G H I:Prop}(a:A)(b:B)(c:C)(d:D)(e:E)(f:F)(g:G)(h:H)(i:I):A∧B∧C∧D∧E∧F∧G∧H∧I:=⟨a,b,c,d,e,f,g,h,i⟩
theorem e10{A B C D E F G H I J:Prop}(a:A)(b:B)(c:C)(d:D)(e:E)(f:F)(g:G)(h:H)(i:I)(j:J):A∧B∧C∧D∧E∧F∧G∧H∧I∧J:=⟨a,b,c,d,e,f,g,h,i,j⟩
theorem e11{A B C D E F G H I J K:Prop}(a:A)(b:B)(c:C)(d:D)(e:E)(f:F)(g:G)(h:H)(i:I)(j:J)(k:K):A∧B∧C∧D∧E∧F∧G∧H∧I∧J∧K:=⟨a,b,c,d,e,f,g,h,i,j,k⟩
theorem e12{A B C D E F G H I J K L:Prop}(a:A)(b:B)(c:C)(d:D)(e:E)(f:F)(g:G)(h:H)(i:I)(j:J)(k:K)(l:L):A∧B∧C∧D∧E∧F∧G∧H∧I∧J∧K∧L:=⟨a,b,c,d,e,f,g,h,i,j,k,l⟩
theorem e13{A B C D E F G H I J K L M:Prop}(a:A)(b:B)(c:C)(d:D)(e:E)(f:F)(g:G)(h:H)(i:I)(j:J)(k:K)(l:L)(m:M):A∧B∧C∧D∧E∧F∧G∧H∧I∧J∧K∧L∧M:=⟨a,b,c,d,e,f,g,h,i,j,k,l,m⟩
theorem e14{A B C D E F G H I J K L M N:Prop}(a:A)(b:B)(c:C)(d:D)(e:E)(f:F)(g:G)(h:H)(i:I)(j:J)(k:K)(l:L)(m:M)(n:N):A∧B∧C∧D∧E∧F∧G∧H∧I∧J∧K∧L∧M∧N:=⟨a,b,c,d,e,f,g,h,i,j,k,l,m,n⟩
theorem au{G B:Prop}(k:B)(h:PLift B→G:=by
 intro k
 (repeat' (first|(with_reducible first|refine stp ?_|refine cD (by decide) ?_)|((first|(with_reducible refine lM ?_;first|refine jS rfl ?_ ?_|refine aP (C1 _) rfl (aM _) ?_|refine aP (C2 _) rfl (aM _) ?_|refine aP (C3 _) rfl (aM _) ?_|refine aP (C4 _) rfl (aM _) ?_|refine aP C5 rfl (aM _) ?_|refine aP C6 rfl (aM _) ?_|(first|refine eF rfl ?_|refine eG rfl ?_)|refine cX rfl ?_)|(with_reducible refine lP ?_;first|refine jV rfl ?_ ?_|refine bN (D1 _) rfl (bD _) ?_|refine bN (D2 _) rfl (bD _) ?_|refine bN (D3 _) rfl (bD _) ?_|refine bN (D4 _) rfl (bD _) ?_|refine bN (D5 _) rfl (bD _) ?_|refine bN (D6 _) rfl (bD _) ?_|(first|refine eH rfl ?_|refine eI rfl ?_)|refine cY rfl ?_|refine fR (gU ?_)|refine fR (jU ?_))|(with_reducible refine lQ ?_;refine gR rfl ?_))<;>try simp only[go_sem,reduceIte,Nat.reduceAdd,Nat.reduceSub,Nat.reduceLT,Nat.reduceLeDiff,reduceCtorEq,Nat.reduceEqDiff,Int.reduceToNat])|(with_reducible refine nF ?_;refine kU rfl ?_)|omega))
 exact k.down):G:=h ⟨k⟩
theorem aus{G B:Prop}(k:B)(h:PLift B→G:=by
 intro k
 (repeat' (first|(with_reducible first|refine stp ?_|refine cD (by decide) ?_)|((first|(with_reducible refine lM ?_;first|refine jS rfl ?_ ?_|refine aP (C1 _) rfl (aM _) ?_|refine aP (C2 _) rfl (aM _) ?_|refine aP (C3 _) rfl (aM _) ?_|refine aP (C4 _) rfl (aM _) ?_|refine aP C5 rfl (aM _) ?_|refine aP C6 rfl (aM _) ?_|(first|refine eF rfl ?_|refine eG rfl ?_)|refine cX rfl ?_)|(with_reducible refine lP ?_;first|refine jV rfl ?_ ?_|refine bN (D1 _) rfl (bD _) ?_|refine bN (D2 _) rfl (bD _) ?_|refine bN (D3 _) rfl (bD _) ?_|refine bN (D4 _) rfl (bD _) ?_|refine bN (D5 _) rfl (bD _) ?_|refine bN (D6 _) rfl (bD _) ?_|(first|refine eH rfl ?_|refine eI rfl ?_)|refine cY rfl ?_|refine fR (gU ?_)|refine fR (jU ?_))|(with_reducible refine lQ ?_;refine gR rfl ?_))<;>try simp only[go_sem,reduceIte,Nat.reduceAdd,Nat.reduceSub,Nat.reduceLT,Nat.reduceLeDiff,reduceCtorEq,Nat.reduceEqDiff,Int.reduceToNat])|omega))
 exact k.down):G:=h ⟨k⟩
theorem aue{G B p:Prop}(E:p)(k:B)(h:p→PLift B→G:=by
 intro E k
 (repeat' (first|(with_reducible first|refine stp ?_|refine cD (by decide) ?_)|((first|(with_reducible refine lM ?_;first|refine jS rfl ?_ ?_|refine aP (C1 _) rfl (aM _) ?_|refine aP (C2 _) rfl (aM _) ?_|refine aP (C3 _) rfl (aM _) ?_|refine aP (C4 _) rfl (aM _) ?_|refine aP C5 rfl (aM _) ?_|refine aP C6 rfl (aM _) ?_|refine yb rfl (acc aAP hdm) rfl (by simp) (by simp only[E,List.length_map,go_sem,reduceIte,Nat.reduceAdd,Nat.reduceSub,Nat.reduceLT,Nat.reduceLeDiff,reduceCtorEq,Nat.reduceEqDiff,Int.reduceToNat];try omega) ?_|refine ya rfl rfl (by simp only[E,List.length_map,go_sem,reduceIte,Nat.reduceAdd,Nat.reduceSub,Nat.reduceLT,Nat.reduceLeDiff,reduceCtorEq,Nat.reduceEqDiff,Int.reduceToNat];try omega) ?_|(first|refine eF rfl ?_|refine eG rfl ?_)|refine cX rfl ?_)|(with_reducible refine lP ?_;first|refine jV rfl ?_ ?_|refine bN (D1 _) rfl (bD _) ?_|refine bN (D2 _) rfl (bD _) ?_|refine bN (D3 _) rfl (bD _) ?_|refine bN (D4 _) rfl (bD _) ?_|refine bN (D5 _) rfl (bD _) ?_|refine bN (D6 _) rfl (bD _) ?_|refine px rfl rfl (by decide) (by(simp only[dC,go_sem,reduceIte,Nat.reduceAdd,Nat.reduceSub,Nat.reduceLT,Nat.reduceLeDiff,reduceCtorEq,Nat.reduceEqDiff,Int.reduceToNat])<;>try omega) (by simp only[go_sem,reduceIte,Nat.reduceAdd,Nat.reduceSub,Nat.reduceLT,Nat.reduceLeDiff,reduceCtorEq,Nat.reduceEqDiff,Int.reduceToNat]) (by simp only[go_sem,reduceIte,Nat.reduceAdd,Nat.reduceSub,Nat.reduceLT,Nat.reduceLeDiff,reduceCtorEq,Nat.reduceEqDiff,Int.reduceToNat]) (by simp only[E,go_sem,reduceIte,Nat.reduceAdd,Nat.reduceSub,Nat.reduceLT,Nat.reduceLeDiff,reduceCtorEq,Nat.reduceEqDiff,Int.reduceToNat]) ?_|(first|refine eH rfl ?_|refine eI rfl ?_)|refine cY rfl ?_|refine fR (gU ?_)|refine fR (jU ?_))|(with_reducible refine lQ ?_;refine gR rfl ?_))<;>try simp only[E,List.length_map,go_sem,reduceIte,Nat.reduceAdd,Nat.reduceSub,Nat.reduceLT,Nat.reduceLeDiff,reduceCtorEq,Nat.reduceEqDiff,Int.reduceToNat])|(with_reducible refine nF ?_;refine kU rfl ?_)|omega))
 exact k.down):G:=h E ⟨k⟩
theorem Zn{G B:Prop}(k:B)(h:PLift B→G:=by intro k;simp only[go_sem,reduceIte,Nat.reduceAdd,Nat.reduceSub,Nat.reduceLT,Nat.reduceLeDiff,reduceCtorEq,Nat.reduceEqDiff,Int.reduceToNat];exact k.down):G:=h ⟨k⟩
theorem ZN{P:Prop}(h:P:=by first|omega|(dsimp only;omega)):P:=h
theorem Zw{P:Prop}(h:P:=by dsimp only;omega):P:=h
theorem ZW{G B:Prop}(k:B)(h:PLift B→G:=by intro k;(with_reducible first|refine stp ?_|refine cD (by decide) ?_);exact k.down):G:=h ⟨k⟩
theorem Zx{G B:Prop}(k:B)(h:PLift B→G:=by intro k;(first|refine eF rfl ?_|refine eG rfl ?_|refine cX rfl ?_);exact k.down):G:=h ⟨k⟩
theorem ZX{G B:Prop}(k:B)(h:PLift B→G:=by intro k;(first|refine eH rfl ?_|refine eI rfl ?_|refine cY rfl ?_|refine fR (gU ?_)|refine fR (jU ?_));exact k.down):G:=h ⟨k⟩
theorem Zy{G B:Prop}(k:B)(h:PLift B→G:=by intro k;(with_reducible refine lQ ?_;refine gR rfl ?_);exact k.down):G:=h ⟨k⟩
theorem ZY{G B:Prop}(k:B)(h:PLift B→G:=by intro k;(with_reducible refine nF ?_;refine kU rfl ?_);exact k.down):G:=h ⟨k⟩
end Go.Proofs.YtjfdoohogiojcaaGreatDoor
