/-
Texts of this proof,one behind the other. No conditions.
-/
import Derived.Test.YtlhedpgobaellaaGreatDoorKcb
open Go.Proofs.YtlhedpgobaellaaGreatDoor.V renaming aAE→Ka,undef→Kb,fits→Kc,pick→Kd
open List renaming getD_cons_zero→Ke,getD_eq_getElem?_getD→Kh,getElem?_eq_getElem→Kj,cons_append→Kk
open Array renaming getD_eq_getD_getElem?→Kf,getElem?_eq_getElem→Ki,getElem?_eq_none→Kp
open Bool renaming false_eq_true→Kg,and_eq_true→Km,true_and→Kx
open Option renaming getD_some→Ko
open Nat renaming zero_le→Kq,lt_or_ge→Ks,zero_add→Kt,le_refl→Ku
open Go renaming undef→Kv
open Go.World renaming cell?→Kw
set_option linter.all false
set_option maxHeartbeats 8000000
namespace Go.Proofs.YtlhedpgobaellaaGreatDoor
open Go.RowKit
theorem freeze{K:Ker}{h:Hp}(hr:Rel K h){n a:Nat}{k:Sh}{es:List V}{cv:Value}(hn:h n=some (.arr k es))(ha:¬K.live a)(hv:VR K (.rs n k 0 es.length) cv):
 ∃K',K'.w=K.w∧K.le K'∧(∀m,K'.live m→K.live m∨m=a)∧VR K' (.sl k (.tok a) es) cv∧Rel K' ((h.del n).set a .tip):=by
 have hb:=hr.blk n _ hn;cases hb with
 |arr _ _ c T hh hcs himm hfit hcv=>
  cases hv with
  |rs _ _ _ _ cap hl hcap hm=>
   obtain⟨T',m,hm1,hm2⟩:=hm;have hcm:m=c.size:=by simp[World.shape?,hh] at hm1;exact hm1.2.symm
   subst hcm;have hblk:K.mu n<K.w.heap.size:=by
    rcases Ks (K.mu n) K.w.heap.size with hlt|hge
    ·exact hlt
    rw[Kp hge] at hh;exact absurd hh Zm
   have hle:K.le (K.aAH a (K.mu n) (es.length*k.size)):=K.aAT ha (by rw[himm];exact Kq _);have hmu:(K.aAH a (K.mu n) (es.length*k.size)).mu a=K.mu n:=by simp[Ker.aAH]
   refine⟨K.aAH a (K.mu n) (es.length*k.size),rfl,hle,fun m hm=>hm.symm,?_,hr.aAH hn ha (by rw[himm];exact Kq _) (.tip c T (by rw[hmu];exact hh) (by simp[Ker.aAH]) (by simp only[Ker.aAH,if_true];exact hcs))⟩
   have:=VR.sl (K:=K.aAH a (K.mu n) (es.length*k.size)) k (.tok a) es (K.mu n) 0 cap (fun j=>c.getD j Kv) hblk hfit
    (fun j hj=>by
      show K.w.cell? _=_;simp only[Kw,hh,Kt];rw[Kf,Ki or];rfl)
    (fun j hj=> .inr (by simp only[Ker.aAH,if_true];omega))
    (fun i hi j hj=>(hcv i hi j hj).mono hle) hcap Zm Zm
    (fun m hm=>by
      injection hm with hm;subst hm;refine⟨.inl rfl, .inr ⟨hmu,by simp[Ker.aAH],T',c.size,?_,by simpa using Nat.le_of_eq hm2⟩⟩;exact hm1)
   simpa using this
theorem Hp.aAM(h:Hp)(n:Nat)(b:Blk)(m:Nat):(h.set n b) m=if m=n then some b else h m:=rfl
theorem Hp.aAw(h:Hp)(n m:Nat):(h.del n) m=if m=n then Option.none else h m:=rfl
def aS(h:Hp)(nx:Nat):Prop:=∀m b,h m=some b→m<nx
theorem aR.dom{P:Program}{f:FuncId}{args:List V}{h:Hp}{nx:Nat}{R:V→Hp→Nat→Prop}(c:aR P f args h nx R):aR P f args h nx fun v h' nx'=>R v h' nx'∧aS h' nx'∧nx≤nx':=
 ⟨c.1,fun K cargs hl hrel hv=>(c.2 K cargs hl hrel hv).mono fun _ _ ⟨K',v,cv,h',nx',a,b,c,d,e,g,i,j⟩=>⟨K',v,cv,h',nx',a,b,c,d,e,g,i,j,fun m b hm=>(g m (e.lt m b hm)).1,i⟩⟩
theorem dX.dom{P:Program}{n:Nat}{args:List V}{h:Hp}{nx:Nat}{R:V→Hp→Nat→Prop}(c:dX P n args h nx R):dX P n args h nx fun v h' nx'=>R v h' nx'∧aS h' nx'∧nx≤nx':=
 fun m K cargs hl hn hrel hv=>(c m K cargs hl hn hrel hv).mono fun _ _ ⟨K',v,cv,h',nx',a,b,c,d,e,g,i,j⟩=>⟨K',v,cv,h',nx',a,b,c,d,e,g,i,j,fun m b hm=>(g m (e.lt m b hm)).1,i⟩
theorem aS.set{h:Hp}{nx nx' n:Nat}(hd:aS h nx)(hn:n<nx')(hle:nx≤nx')(b:Blk):aS (h.set n b) nx':=fun m c e=>by
 unfold Hp.set at e;split at e
 ·omega
 have:=hd m c e;omega
theorem aS.del{h:Hp}{nx n:Nat}(hd:aS h nx):aS (h.del n) nx:=fun m c e=>by
 unfold Hp.del at e;split at e
 ·cases e
 exact hd m c e
theorem aS.up{h:Hp}{nx nx':Nat}(hd:aS h nx)(hle:nx≤nx'):aS h nx':=fun m c e=>by have:=hd m c e;omega
theorem aS.le{h h':Hp}{nx:Nat}(hd:aS h' nx)(hle:h.le h'):aS h nx:=fun m c e=>hd m c (hle m c e)
theorem xX{h h':Hp}{n:Nat}{b:Blk}(hle:h.le h')(hn:h' n=some b):(h.set n b).le h':=fun m c e=>by
 unfold Hp.set at e;split at e
 ·rename_i em;subst em;injection e with e;subst e;exact hn
 exact hle m c e
theorem eH{h h':Hp}{n:Nat}(hle:h.le h')(hn:h n=none)(b:Blk):h.le (h'.set n b):=fun m c e=>by
 unfold Hp.set;split
 ·rename_i em;subst em;rw[hn] at e;cases e
 exact hle m c e
theorem lU{h h':Hp}{n:Nat}(hle:h.le h')(hn:h n=none):h.le (h'.del n):=fun m c e=>by
 unfold Hp.del;split
 ·rename_i em;subst em;rw[hn] at e;cases e
 exact hle m c e
theorem aS.none{h:Hp}{nx n:Nat}(hd:aS h nx)(hn:nx≤n):h n= .none:=by
 cases e:h n with
 |none=>rfl
 |some b=>exact absurd (hd n b e) or
theorem yR{h h':Hp}(hle:h.le h'):Hp.has h h':=fun n b e _=>hle n _ e
theorem Hp.le_trans{a b c:Hp}(h:a.le b)(h':b.le c):a.le c:=fun n x e=>h' n x (h n x e)
def yc(P:Program)(gf:Nat)(caps:List V)(hb:Hp)(xs:List (List V)):Prop:=
 ∀(yn:Nat) (J:Nat→Hp→Nat→Prop) (D:Hp→Nat→Prop),
  (∀i h nx,J i h nx→hb.has h)→(∀i h nx nx',J i h nx→nx≤nx'→J i h nx')→(∀h nx nx',D h nx→nx≤nx'→D h nx')→
  (∀i (hi:i<xs.length) h nx,J i h nx→aS h nx→dX P yn xs[i] h nx fun v h' nx'=>(v= .bool true∧J (i+1) h' nx')∨(v= .bool false∧D h' nx'))→
  ∀h nx,J 0 h nx→aS h nx→aR P gf (.yld yn::caps) h nx fun _ h' nx'=>J xs.length h' nx'∨D h' nx'
def FE(r:Nat)(X:Blk)(J:St→Prop):bJ→St→Prop
 | .normal,s=>s.h r=some X∧J s
 |_,_=>False
def mX(r:Nat)(X:Blk)(I:Hp→Nat→Prop)(E:bJ→Hp→Nat→Prop):bJ→St→Prop
 | .normal,s=>s.h r=some X∧I s.h s.nx
 |e,s=>s.h r=some X∧E e s.h s.nx
theorem lP{r:Nat}{X:Blk}{J:St→Prop}{s:St}(h:s.h r=some X)(hj:J s):FE r X J .normal s:=⟨h,hj⟩
theorem fV{r:Nat}{X:Blk}{I:Hp→Nat→Prop}{E:bJ→Hp→Nat→Prop}{s:St}(h:s.h r=some X)(hi:I s.h s.nx):mX r X I E .normal s:=⟨h,hi⟩
theorem zg{r:Nat}{X:Blk}{I:Hp→Nat→Prop}{E:bJ→Hp→Nat→Prop}{s:St}(h:s.h r=some X)(hi:E .ret s.h s.nx):mX r X I E .ret s:=⟨h,hi⟩
theorem nC{P:Program}{g:aK}{ps:List Nat}{as b:aT}{Q:bJ→St→Prop}{s:St}{gf:Nat}{caps:List V}{hb:Hp}{xs:List (List V)}(hit:yc P gf caps hb xs)(hg:g.ev s.sl= .fn (.func gf) [] caps)
 (hlen:∀x∈xs,x.length=ps.length) (hd:aS s.h s.nx) (I:Nat→Hp→Nat→Prop) (E:bJ→Hp→Nat→Prop)
 (hbI:∀i h nx,I i h nx→hb.has h) (hnI:∀i h nx nx',I i h nx→nx≤nx'→I i h nx') (hsI:∀i h nx b,I i h nx→I i (h.set s.nx b) nx)
 (hnE:∀e h nx nx',E e h nx→nx≤nx'→E e h nx') (hsE:∀e h nx b,E e h nx→E e (h.set s.nx b) nx)
 (h0:I 0 s.h (s.nx+1))
 (aBp:∀i (hi:i<xs.length) h nx X,I i h nx→s.nx<nx→h s.nx=some X→aS h nx→
   lwp P as (FE s.nx X fun s1=>∀X',lwp P b (mX s.nx X' (I (i+1)) E) ⟨s1.sl,s1.h.set s.nx X',s1.nx⟩) ⟨aAR s.sl ps xs[i],h,nx⟩)
 (aCD:∀h nx,I xs.length h nx→s.nx<nx→aS h nx→Q .normal ⟨s.sl,h.del s.nx,nx⟩)
 (hex:∀e h nx,E e h nx→s.nx<nx→aS h nx→(e= .ret∨∃id,e= .exit id)→Q e ⟨s.sl,h.del s.nx,nx⟩):lwp P (.range g ps as b) Q s:=by
 simp only[lwp,hg];intro rcd U hpl hY;have aAQ:∀(h:Hp) (b:Blk),(h.set s.nx b) s.nx=some b:=fun h b=>by simp[Hp.set]
 refine((hit s.nx (fun i h nx=>I i h nx∧h s.nx=some (.obj (rcd .ready none) U))
  (fun h nx=>(h s.nx=some (.obj (rcd .done (some .ret)) U)∧E .ret h nx)∨∃id,h s.nx=some (.obj (rcd .done (some (.exit id))) U)∧E (.exit id) h nx)
  (fun i h nx hj=>hbI i h nx hj.1) (fun i h nx nx' hj hle=>⟨hnI i h nx nx' hj.1 hle,hj.2⟩)
  (fun h nx nx' hD hle=>hD.imp (fun hD=>⟨hD.1,hnE _ _ _ _ hD.2 hle⟩) (fun⟨id,hD⟩=>⟨id,hD.1,hnE _ _ _ _ hD.2 hle⟩)) ?_ _ (s.nx+1) ⟨hsI _ _ _ _ h0,aAQ _ _⟩ ?_).dom).mono ?_
 ·rintro i hi h nx ⟨hI,hr⟩ aBL;refine hY xs[i] h nx _ (hlen _ (List.getElem_mem _)) hr ?_;refine nD ?_ (aBp i hi h nx _ hI (aBL _ _ hr) hr aBL);intro e s1 hq;cases e with
  |exit id=>exact hq.elim
  |ret=>exact hq.elim
  |normal=>
   refine⟨hq.1,nD ?_ (hq.2 (.obj (rcd .busy none) U))⟩;intro e s2 hq2;cases e with
   |normal=>exact⟨hq2.1, .inl ⟨rfl,hsI _ _ _ _ hq2.2,aAQ _ _⟩⟩
   |ret=>exact⟨hq2.1, .inr ⟨rfl, .inl ⟨aAQ _ _,hsE _ _ _ _ hq2.2⟩⟩⟩
   |exit id=>exact⟨hq2.1, .inr ⟨rfl, .inr ⟨id,aAQ _ _,hsE _ _ _ _ hq2.2⟩⟩⟩
 ·intro m b hm;unfold Hp.set at hm;split at hm
  ·omega
  have:=hd m b hm;omega
 rintro v h' nx' _ ⟨(⟨hI,hr⟩|(⟨hr,hE⟩|⟨id,hr,hE⟩)),aBL,hle⟩
 ·exact .inl ⟨hr,aCD _ _ hI or aBL⟩
 ·exact .inr (.inl ⟨hr,hex _ _ _ hE or aBL (.inl rfl)⟩)
 exact .inr (.inr ⟨id,hr,hex _ _ _ hE or aBL (.inr ⟨id,rfl⟩)⟩)
def aZ{ι:Type}(sl:ι→List V)(C:ι→Hp→Nat→Prop)(m:ι→Nat)(n:Nat)(Q:bJ→St→Prop):bJ→St→Prop
 | .normal,s=>∃s',tH s s'∧∃i,m i<n∧WkL s'.sl (sl i)∧C i s'.h s'.nx
 |e,s=>Q e s
section
variable{P:Program}{Q:bJ→St→Prop}{s:St}{ι:Type}{sl:ι→List V}{C:ι→Hp→Nat→Prop}{m:ι→Nat}{n:Nat}
theorem aF{sl0:List V}{h:Hp}{nx:Nat}(i:ι)(hm:m i<n)(hC:C i h nx)(hw:WkL sl0 (sl i)):aZ sl C m n Q .normal ⟨sl0,h,nx⟩:=⟨_,(Wk.refl _).tell,i,hm,hw,hC⟩
theorem iR{id:Nat}(h:Q (.exit id) s):aZ sl C m n Q (.exit id) s:=h
theorem kG(h:Q .ret s):aZ sl C m n Q .ret s:=h
theorem aP{c:aT}(sl:ι→List V)(C:ι→Hp→Nat→Prop)(m:ι→Nat)(i0:ι)(h0:C i0 s.h s.nx)(hw:WkL s.sl (sl i0))(hr:∀i h nx,C i h nx→lwp P c (aZ sl C m (m i) Q) ⟨sl i,h,nx⟩):lwp P (.loop c) Q s:=by
 refine wI (fun p:ι×Hp×Nat=>C p.1 p.2.1 p.2.2) (fun p=>⟨sl p.1,p.2.1,p.2.2⟩) (fun p=>m p.1) (i0,s.h,s.nx) h0 ⟨hw,Hp.le_refl _,Ku _⟩ ?_;rintro⟨i,h,nx⟩ hC;refine nD ?_ (hr i h nx hC);intro e s' hq;cases e with
 |normal=>
  obtain⟨s2,h0,j,h1,h2,h3⟩:=hq;exact⟨(j,s2.h,s2.nx),h3,h1,h0.trans (Wk.tell ⟨h2,Hp.le_refl _,Ku _⟩)⟩
 |exit id=>exact hq
 |ret=>exact hq
end
theorem aS.aPD{h:Hp}{nx n:Nat}(hd:aS h nx)(hn:n<nx)(b:Blk):aS (h.set n b) nx:=hd.set hn (Ku _) b
def aA.plain(o:aA):Bool:=match o.g with
 |none=> !o.op.aAY
 |some _=>false
def wW:List aA→List aA
 | []=>[]
 |o::r=>match o.plain with
  |true=>o::wW r
  |false=>[]
def vB:List aA→List aA
 | []=>[]
 |o::r=>match o.plain with
  |true=>vB r
  |false=>o::r
theorem Bh{P:Program}{Q:St→Prop}:∀(l:List aA) (s:St),rP (wW l) s→aY P (vB l) Q (jU (wW l) s)→aY P l Q s
 | [],s,_,h=>h
 |o::r,s,ho,h=>by
  cases hc:o.plain with
  |false=>simp only[wW,vB,hc] at ho h;exact h
  |true=>
   simp only[wW,vB,hc] at ho h;have aDE:o.op.aAY=false:=by
    unfold aA.plain at hc;split at hc
    ·simpa using hc
    cases hc
   exact sW aDE ho.1 (Bh r _ ho.2 h)
theorem u0{P:Program}{Q:St→Prop}{s:St}:aY P [] Q s=Q s:=rfl
theorem bQ{P:Program}{Q:St→Prop}{s:St}(h:Q s):aY P [] Q s:=h
theorem cF{P:Program}{Q:St→Prop}{o:aA}{r:List aA}{s:St}(_:o.plain=true)(ho:rP (wW (o::r)) s)(h:aY P (vB (o::r)) Q (jU (wW (o::r)) s)):aY P (o::r) Q s:=Bh _ s ho h
theorem fO{P:Program}{Q:St→Prop}{s:St}{dst:Option Nat}{k:Sh}{bs:Nat}{x y:aK}{r:List aA}{ys:List V}(hx:x.ev s.sl= .sl k .nil [])(hy:dQ s.h (y.ev s.sl)=some (k,ys))(hne:ys≠ [])(hb:ys.length*bs≤140737488355328)
 (h:aY P r Q ⟨bL s.sl dst (.rs s.nx k 0 ys.length),s.h.set s.nx (.arr k ys),s.nx+1⟩):aY P (⟨dst,none, .append k bs x y⟩::r) Q s:=by
 unfold aY;simp only[LOp.run,LOp.sem,hy,hx];exact⟨trivial,trivial,by simpa using hb, .inr ⟨trivial,trivial,hne,h⟩⟩
theorem aq{P:Program}{Q:St→Prop}{s:St}{dst:Option Nat}{k:Sh}{bs n len:Nat}{x y:aK}{r:List aA}{es ys:List V}(hx:x.ev s.sl= .rs n k 0 len)(hn:s.h n=some (.arr k es))(hl:len≤es.length)(hy:dQ s.h (y.ev s.sl)=some (k,ys))(hne:ys≠ [])(hb:(len+ys.length)*bs≤140737488355328)
 (h:aY P r Q ⟨bL s.sl dst (.rs s.nx k 0 (len+ys.length)),(s.h.del n).set s.nx (.arr k (es.take len++ys)),s.nx+1⟩):aY P (⟨dst,none, .append k bs x y⟩::r) Q s:=by
 unfold aY;simp only[LOp.run,LOp.sem,hy,hx,hn];exact⟨trivial,trivial, .inr ⟨trivial,trivial,hl,hne,hb,h⟩⟩
theorem tF{P:Program}{Q:St→Prop}{s:St}{dst:Option Nat}{k kb:Sh}{bs n off len:Nat}{x y:aK}{r:List aA}{es:List V}(hx:x.ev s.sl= .rs n k off len)(hn:s.h n=some (.arr kb es))(hy:dQ s.h (y.ev s.sl)=some (k,[]))
 (h:aY P r Q ⟨bL s.sl dst (.rs n k off len),s.h,s.nx+1⟩):aY P (⟨dst,none, .append k bs x y⟩::r) Q s:=by
 unfold aY;simp only[LOp.run,LOp.sem,hy,hx,hn];exact⟨trivial,trivial, .inl ⟨trivial,h⟩⟩
theorem tD{a b:Nat}(h:a≤1000000000)(h':b≤140737):a*b≤140737488355328:=Nat.le_trans (Nat.mul_le_mul h h') ZM
def LOp.aBo:LOp→Bool
 | .call _ _=>true
 | .callv _ _=>true
 | .callw _ _ _=>true
 | .store _ _ _=>true
 |_=>false
def aA.aBw(o:aA):Bool:=match o.g with
 |none=> !o.op.aBo
 |some _=>false
def oK:List (aA×List Nat)→List (aA×List Nat)
 | []=>[]
 |o::r=>match o.1.aBw with
  |true=>o::oK r
  |false=>[]
def qJ:List (aA×List Nat)→List (aA×List Nat)
 | []=>[]
 |o::r=>match o.1.aBw with
  |true=>qJ r
  |false=>o::r
def Fq:List (aA×List Nat)→List (aA×List Nat)
 | []=>[]
 |o::r=>match o.1.op.aBo with
  |true=>[]
  |false=>o::Fq r
def sB:List (aA×List Nat)→List (aA×List Nat)
 | []=>[]
 |o::r=>match o.1.op.aBo with
  |true=>o::r
  |false=>sB r
theorem w7:∀l:List (aA×List Nat),Fq l++sB l=l
 | []=>rfl
 |o::r=>by
  unfold Fq sB;split
  ·rfl
  rw[Kk,w7 r]
theorem iq:∀l:List (aA×List Nat),oK l++qJ l=l
 | []=>rfl
 |o::r=>by
  unfold oK qJ;split
  ·rw[Kk,iq r]
  rfl
theorem nP{P:Program}{h0:Hp}{nx0:Nat}{Q:List V→List (Option Blk)→List (Option Con)→Prop}{o:aA×List Nat}{r:List (aA×List Nat)}{sl:List V}{aAK:List (Option Blk)}{cons:List (Option Con)}(_:o.1.aBw=true)(ho:yX h0 nx0 (oK (o::r)) ⟨sl,aAK,cons⟩)
 (h:dJ P h0 nx0 (qJ (o::r)) (iH h0 nx0 (oK (o::r)) ⟨sl,aAK,cons⟩).sl (iH h0 nx0 (oK (o::r)) ⟨sl,aAK,cons⟩).aAK (iH h0 nx0 (oK (o::r)) ⟨sl,aAK,cons⟩).cons Q):dJ P h0 nx0 (o::r) sl aAK cons Q:=by
 have:=wz (P:=P) (Q:=Q) (r:=qJ (o::r)) (oK (o::r)) ⟨sl,aAK,cons⟩ ho h;rwa [iq] at this
theorem eL(k:Sh):cA k k 0:=by cases k<;>simp[cA]
theorem bI{k:Sh}{v:V}(h:v.fits k=true):bB k 0 v=v:=by
 cases k with
 |leaf=>cases v<;>first|rfl|(simp[Kc,Ka] at h)
 |agg m=>
  cases v with
  |agg cs=>
   simp only[Kc,Km,decide_eq_true_eq] at h;simp[bB,V.cells,h.1]
  |_=>simp[Kc] at h
theorem ma(o:Nat):cA .leaf .leaf o=(o=0):=rfl
theorem mb(n o:Nat):cA (.agg n) .leaf o=(o<n):=rfl
theorem mc(n m o:Nat):cA (.agg n) (.agg m) o=(o+m≤n):=rfl
theorem fm(o:Nat)(v:V):bB .leaf o v=v.cell o:=rfl
theorem fp(m o:Nat)(cs:List V):bB (.agg m) o (.agg cs)=if o=0∧cs.length=m then .agg cs else .agg ((cs.drop o).take m):=rfl
theorem vU(o:Nat)(cs:List V)(v:V):bZ .leaf o (.agg cs) v= .agg (cs.set o v):=rfl
theorem vV(m o:Nat)(cs:List V)(v:V):bZ (.agg m) o (.agg cs) v=if o=0∧cs.length=m then v else .agg (cs.take o++v.cells++cs.drop (o+m)):=rfl
theorem yj(n:Nat)(ks:List LK)(xs ys:List V):veq (.plain (.agg n) ks) (.agg xs) (.agg ys)=if ((V.agg xs).fits (.agg n)&&(V.agg ys).fits (.agg n))=true then iB ks xs ys else none:=rfl
theorem DP(ks:List LK)(k k':IntKind)(a b:Int):veq (.plain .leaf ks) (.int k a) (.int k' b)=iB ks [.int k a] [.int k' b]:=rfl
theorem DQ(ks:List LK)(a b:Bool):veq (.plain .leaf ks) (.bool a) (.bool b)=iB ks [.bool a] [.bool b]:=rfl
theorem DO(ks:List LK)(a b:ByteArray):veq (.plain .leaf ks) (.str a) (.str b)=iB ks [.str a] [.str b]:=rfl
theorem ox(cs:List V):(V.agg cs).cells=cs:=rfl
theorem i6{v:V}(h:v.aAE=true):v.cells=[v]:=by cases v<;>first|rfl|(simp[Ka] at h)
theorem xg(cs:List V)(j:Nat):(V.agg cs).cell j=cs.getD j Kb:=rfl
theorem fA{v:V}(h:v.aAE=true):v.cell 0=v:=by cases v<;>first|rfl|(simp[Ka] at h)
theorem sa:veq .ptr .nilPtr .nilPtr=some true:=rfl
theorem r9(n:Nat)(k:Sh)(i o:Nat):veq .ptr .nilPtr (.ptr n k i o)=some false:=rfl
theorem r8(n:Nat)(k:Sh)(i o:Nat):veq .ptr (.ptr n k i o) .nilPtr=some false:=rfl
theorem r7(k:Sh)(es:List V)(i o:Nat):veq .ptr .nilPtr (.ept k es i o)=some false:=rfl
theorem rz(k:Sh)(es:List V)(i o:Nat):veq .ptr (.ept k es i o) .nilPtr=some false:=rfl
theorem bw(k k':Sh)(o:Own)(es es':List V):veq .slice (.sl k o es) (.sl k' .nil es')=some (o== .nil):=rfl
theorem bv(n:Nat)(k k':Sh)(o l:Nat)(es':List V):veq .slice (.rs n k o l) (.sl k' .nil es')=some false:=rfl
theorem j9:veq .func .aAV .aAV=some true:=rfl
theorem j8(f:Fn)(a b:List V):veq .func .aAV (.fn f a b)=some false:=rfl
theorem j7(f:Fn)(a b:List V):veq .func (.fn f a b) .aAV=some false:=rfl
theorem b8:veq (.iface true) .nilIface .nilIface=some true:=rfl
theorem bz(c:Bool)(t:Nat)(v:V):veq (.iface c) .nilIface (.iface t v)=some false:=by cases c<;>rfl
theorem bx(c:Bool)(t:Nat)(v:V):veq (.iface c) (.iface t v) .nilIface=some false:=by cases c<;>rfl
theorem se:veq .map .aAG .aAG=some true:=rfl
theorem sd(n:Nat):veq .map .aAG (.map n)=some false:=rfl
theorem sb(n:Nat):veq .map (.map n) .aAG=some false:=rfl
theorem kj:veq .chan .aAL .aAL=some true:=rfl
theorem ki(n:Nat):veq .chan .aAL (.chan n)=some false:=rfl
theorem kg(n:Nat):veq .chan (.chan n) .aAL=some false:=rfl
theorem wj(n:Nat)(cs:List V):Kc (.agg n) (.agg cs)=(decide (cs.length=n)&&cs.all Ka):=by simp only[Kc]
theorem fz(b:Bool):Ka (.bool b)=true:=by simp only[Ka]
theorem nm(k:IntKind)(n:Int):Ka (.int k n)=true:=by simp only[Ka]
theorem nj(s:ByteArray):Ka (.str s)=true:=by simp only[Ka]
theorem wL:Ka (.nilPtr)=true:=by simp only[Ka]
theorem nk(n:Nat)(k:Sh)(i o:Nat):Ka (.ptr n k i o)=true:=by simp only[Ka]
theorem nn(k:Sh)(es:List V)(i o:Nat):Ka (.ept k es i o)=true:=by simp only[Ka]
theorem ve(k:Sh)(own:Own)(es:List V):Ka (.sl k own es)=true:=by simp only[Ka]
theorem vf(n:Nat)(k:Sh)(off len:Nat):Ka (.rs n k off len)=true:=by simp only[Ka]
theorem wM:Ka (.aAG)=true:=by simp only[Ka]
theorem nl(n:Nat):Ka (.map n)=true:=by simp only[Ka]
theorem tP:Ka (.aAL)=true:=by simp only[Ka]
theorem fy(n:Nat):Ka (.chan n)=true:=by simp only[Ka]
theorem vh(f:Fn)(a b:List V):Ka (.fn f a b)=true:=by simp only[Ka]
theorem zQ:Ka (.aAV)=true:=by simp only[Ka]
theorem ni(n:Nat):Ka (.yld n)=true:=by simp only[Ka]
theorem zR(t:Nat)(v:V):Ka (.iface t v)=true:=by simp only[Ka]
theorem rS:Ka (.nilIface)=true:=by simp only[Ka]
theorem fX(v:V):v.fits .leaf=v.aAE:=by cases v<;>rfl
theorem gF{k:Sh}{e v:V}(he:e.fits k=true)(hv:v.fits k=true):bZ k 0 e v=v:=by
 cases k with
 |leaf=>cases e<;>first|rfl|(simp[Kc,Ka] at he)
 |agg m=>
  cases e with
  |agg cs=>
   simp only[Kc,Km,decide_eq_true_eq] at he;simp[bZ,he.1]
  |_=>simp[Kc] at he
def V.gd(c:Bool)(v:V):V:=if c=true then v else Kb
theorem V.aDG(v:V):V.gd true v=v:=rfl
theorem V.aCW(v:V):V.gd false v=Kb:=rfl
theorem A7(c:Bool)(x y:V):Kd c (V.gd c x) y=Kd c x y:=by cases c<;>simp[V.gd,pB,mY]
theorem ui(c:Bool)(x y:V):Kd c x (V.gd (!c) y)=Kd c x y:=by cases c<;>simp[V.gd,pB,mY]
theorem uj(t x:Bool):Kd t (.bool x) (.bool false)= .bool (t&&x):=by cases t<;>rfl
theorem A6(t y:Bool):Kd t (.bool true) (.bool y)= .bool (t||y):=by cases t<;>rfl
def Hx(g:Option (Nat×Bool)):List aA→List aA
 | []=>[]
 |o::r=>if o.g=g then o::Hx g r else []
def Fg(g:Option (Nat×Bool)):List aA→List aA
 | []=>[]
 |o::r=>if o.g=g then Fg g r else o::r
def Ib(l:List aA):List aA:=l.map fun o=>⟨o.dst,none,o.op⟩
def Ah(c:Bool)(sl':List V):List aA→List V→List V
 | [],sl=>sl
 |o::r,sl=>Ah c sl' r (match o.dst with|some d=>sl.set d (V.gd c (sl'.getD d Kb))|none=>sl)
theorem Dh{K:Ker}{h:Hp}(hr:Rel K h){n a:Nat}{k:Sh}{es:List V}{i o:Nat}{cv:Value}(hn:h n=some (.arr k es))(ha:¬K.live a)(hv:VR K (.ptr n k i o) cv):
 ∃K',K'.w=K.w∧K.le K'∧(∀m,K'.live m→K.live m∨m=a)∧VR K' (.ept k es i o) cv∧Rel K' (h.del n):=by
 have hb:=hr.blk n _ hn;cases hb with
 |arr _ _ c T hh hcs himm hfit hcv=>
  cases hv with
  |ptr _ _ _ _ hl=>
   have hblk:K.mu n<K.w.heap.size:=by
    rcases Ks (K.mu n) K.w.heap.size with hlt|hge
    ·exact hlt
    rw[Kp hge] at hh;exact absurd hh Zm
   have hle:K.le (K.aAH a (K.mu n) (es.length*k.size)):=K.aAT ha (by rw[himm];exact Kq _);have hmu:(K.aAH a (K.mu n) (es.length*k.size)).mu a=K.mu n:=by simp[Ker.aAH]
   have hrel:=hr.aAH hn (a:=a) (m:=es.length*k.size) ha (by rw[himm];exact Kq _) (b1:= .tip) (.tip c T (by rw[hmu];exact hh) (by simp[Ker.aAH]) (by simp only[Ker.aAH,if_true];exact hcs));refine⟨K.aAH a (K.mu n) (es.length*k.size),rfl,hle,fun m hm=>hm.symm,?_,hrel.weaken ?_⟩
   ·have:=VR.ept (K:=K.aAH a (K.mu n) (es.length*k.size)) k es i o (K.mu n) 0 (fun j=>c.getD j Kv) hblk hfit
     (fun j hj=>by
       show K.w.cell? _=_;simp only[Kw,hh,Kt];rw[Kf,Ki or];rfl)
     (fun j hj=> .inr (by simp only[Ker.aAH,if_true];omega))
     (fun i hi j hj=>(hcv i hi j hj).mono hle)
    simpa using this
   intro m b e;unfold Hp.del at e;split at e
   ·cases e
   rename_i hm;have hma:m≠a:=fun e2=>ha (e2▸hr.lt m b e);unfold Hp.set Hp.del;rw[if_neg hma,if_neg hm];exact e
def V.loose:V→V
 | .sl k .nil es=> .sl k .nil es
 | .sl k _ es=> .sl k .free es
 | .agg cs=> .agg (cs.map fun c=>match c with
  | .sl k .nil es=> .sl k .nil es
  | .sl k _ es=> .sl k .free es
  |v=>v)
 |v=>v
theorem VR.loose{K:Ker}{v:V}{cv:Value}(r:VR K v cv):VR K v.loose cv:=by
 have one:∀{k:Sh} {own:Own} {es:List V} {cv:Value},VR K (.sl k own es) cv→VR K (match V.sl k own es with| .sl k .nil es=> .sl k .nil es| .sl k _ es=> .sl k .free es|v=>v) cv:=by
  intro k own es cv r;cases own with
  |nil=>exact r
  |full=>exact r.free Zm
  |tok n=>exact r.free Zm
  |free=>exact r.free Zm
 cases v with
 |sl k own es=>cases own<;>first|exact r|exact r.free Zm
 |agg cs=>
  cases r with
  |agg _ ccs hl hv=>
   refine .agg _ ccs (by simpa using hl) fun i hi=>?_;have hi':i<cs.length:=by simpa using hi
   have:=hv i hi';simp only[Kh,List.getElem?_map,Kj hi',Option.map_some,Ko] at this⊢;generalize cs[i]=c at this⊢;cases c<;>first|exact this|exact one this
 |_=>exact r
theorem ji{P:Program}{f:FuncId}{args:List V}{h:Hp}{nx:Nat}{g:Fn}{v0:V}
 (c:aR P f args h nx fun v h' _=>∃n,nx≤n∧v= .fn g [] [.ptr n .leaf 0 0]∧h'=h.set n (.arr .leaf [v0])):
 aR P f args h nx fun v h' _=>v= .fn g [] [.ept .leaf [v0.loose] 0 0]∧h'=h:=by
 refine⟨c.1,fun K cargs hl hr hv=>(c.2 K cargs hl hr hv).mono ?_⟩;rintro e w' ⟨K',v,cv,h',nx',rfl,he,hle,hvr,hrel,hlv,hnx,n,hn,rfl,rfl⟩;have hfr:¬K'.live nx':=fun hh=>Nat.lt_irrefl _ (hlv nx' hh).1;have aAQ:(h.set n (.arr .leaf [v0])) n=some (.arr .leaf [v0]):=by simp[Hp.set]
 cases hvr with
 |fn _ _ _ cf cc h1 h2 v1 v2=>
 have vp:=v2 0 Zm;simp only[Ke] at vp;obtain⟨K'',q1,q2,q3,q4,q5⟩:=Dh hrel aAQ hfr vp;have aBL:h n=none:=by
  cases hd:h n with
  |none=>rfl
  |some b=>exact absurd (hl n (hr.lt n b hd)) or
 have hh:(h.set n (.arr .leaf [v0])).del n=h:=by
  funext x;unfold Hp.set Hp.del;by_cases e2:x=n
  ·subst e2;simp[aBL]
  simp[e2]
 rw[hh] at q5;have q4':VR K'' (.ept .leaf [v0.loose] 0 0) (cc.getD 0 Kv):=by
  generalize cc.getD 0 Kv=x at q4⊢;cases q4 with
  |ept _ _ _ _ b off f hb hfit hcell hst hvv=>
   have aBh:v0.aAE=true:=by simpa [Kc] using hfit v0 Zm
   have hll:v0.loose.aAE=true:=by
    cases v0<;>first|rfl|(simp[Ka] at aBh)|skip
    rename_i own es;cases own<;>rfl
   have hc1:∀v:V,v.aAE=true→v.cell 0=v:=fun v hv=>by cases v<;>first|rfl|(simp[Ka] at hv)
   refine .ept _ _ _ _ b off f hb (by simpa [Kc] using hll) hcell hst ?_;intro i hi j hj;have hi0:i=0:=by simpa using hi
   have hj0:j=0:=by simpa [Sh.size] using hj
   subst hi0 hj0;have:=hvv 0 Zm 0 (by simp[Sh.size]);simp only[Ke,hc1 _ aBh,hc1 _ hll] at this⊢;exact this.loose
 refine⟨K'',_,_,h,nx'+1,q1,he,hle.trans q2, .fn g [] [.ept .leaf [v0.loose] 0 0] cf cc h1 h2 (fun i hi=>absurd hi Zm) (fun i hi=>?_),q5,fun m hm=>?_,or,rfl,rfl⟩
 ·have hi0:i=0:=by simpa using hi
  subst hi0;exact q4'
 rcases q3 m hm with hm|rfl
 ·exact⟨by have:=(hlv m hm).1;omega,(hlv m hm).2⟩
 exact⟨or, .inr hnx⟩
section
variable{P:Program}{h0:Hp}{nx0:Nat}
theorem nN{tl:List aA}{n:Nat}{Q:bJ→St→Prop}{s:St}{sl:List V}{aAK:List (Option Blk)}{cons:List (Option Con)}(h:aY P tl (Q .normal) ⟨sl,bt (qU s.h s.nx aAK) cons,s.nx+n⟩):Fo P tl n Q s sl aAK cons:=h
abbrev DL:=List (aA×List Nat)
def HB(g:Option (Nat×Bool)):DL→DL
 | []=>[]
 |o::r=>if o.1.g=g then o::HB g r else []
def Fu(g:Option (Nat×Bool)):DL→DL
 | []=>[]
 |o::r=>if o.1.g=g then Fu g r else o::r
def G5(l:DL):DL:=l.map fun o=>(⟨o.1.dst,none,o.1.op⟩,o.2)
def AB(c:Bool)(sl':List V):DL→List V→List V
 | [],sl=>sl
 |o::r,sl=>AB c sl' r (match o.1.dst with|some d=>sl.set d (V.gd c (sl'.getD d Kb))|none=>sl)
def Eu{α:Type}:DL→List (Option α)
 | []=>[]
 |_::r=>none::Eu r
end
theorem Ir{a j k:Nat}:a+(j+1)+(k+1)=a+(j+k+2):=or
theorem wA{sl:List V}{t:Nat}{v:V}(h:sl.getD t Kb=v):sl.set t v=sl:=by
 rcases Ks t sl.length with ht|ht
 ·rw[Kh,Kj ht] at h;simp only[Ko] at h;rw[←h];exact List.set_getElem_self ht
 exact List.set_eq_of_length_le ht
section
variable{P:Program}{r:List aA}{Qs:St→Prop}{s:St}{dst:Option Nat}
theorem fj{t:Nat}{want b:Bool}{op:LOp}(hb:s.sl.getD t Kb= .bool b)
 (h1:b=want→aY P (⟨dst,none,op⟩::r) Qs ⟨s.sl.set t (.bool want),s.h,s.nx⟩) (h2:b= !want→aY P r Qs ⟨bL (s.sl.set t (.bool !want)) dst Kb,s.h,s.nx⟩):
 aY P (⟨dst,some (t,want),op⟩::r) Qs s:=by
 refine zx hb (fun e=>?_) (fun e=>?_)
 ·have:=h1 e;rw[←e,wA hb] at this;exact this
 have e':b= !want:=by cases b<;>cases want<;>simp at e⊢
 have:=h2 e';rw[←e',wA hb] at this;exact this
end
section
variable{P:Program}{h0:Hp}{nx0:Nat}{Q:List V→List (Option Blk)→List (Option Con)→Prop}{sl:List V}{aAK:List (Option Blk)}{cons:List (Option Con)}{r:List (aA×List Nat)}{dst:Option Nat}{aAF:List Nat}
theorem im{t:Nat}{want b:Bool}{op:LOp}(hb:sl.getD t Kb= .bool b)(h1:b=want→dJ P h0 nx0 ((⟨dst,none,op⟩,aAF)::r) (sl.set t (.bool want)) aAK cons Q)
 (h2:b= !want→dJ P h0 nx0 r (bL (sl.set t (.bool !want)) dst Kb) (aAK++[none]) (cons++[none]) Q):dJ P h0 nx0 ((⟨dst,some (t,want),op⟩,aAF)::r) sl aAK cons Q:=by
 refine Aw hb (fun e=>?_) (fun e=>?_)
 ·have:=h1 e;rw[←e,wA hb] at this;exact this
 have e':b= !want:=by cases b<;>cases want<;>simp at e⊢
 have:=h2 e';rw[←e',wA hb] at this;exact this
end
section
variable{P:Program}{h0:Hp}{nx0:Nat}{Q:List V→List (Option Blk)→List (Option Con)→Prop}{sl:List V}{aAK:List (Option Blk)}{cons:List (Option Con)}{r:List (aA×List Nat)}{dst:Option Nat}{aAF:List Nat}{t:Nat}{op:LOp}
end
theorem il{P:Program}{h0:Hp}{nx0:Nat}{Q:List V→List (Option Blk)→List (Option Con)→Prop}{sl:List V}{aAK:List (Option Blk)}{cons:List (Option Con)}{r:List (aA×List Nat)}{dst:Option Nat}{aAF:List Nat}{t:Sh}{x v:aK}{j i o:Nat}{k:Sh}{es:List V}
 (hx:x.ev sl= .ptr (nx0+j) k i o) (ha:aAK.getD j none=some (.arr k es)) (hd:j∈aAF) (hu:eK (nx0+j) cons) (hi:i<es.length) (hp:cA k t o) (hf:(v.ev sl).fits t=true)
 (h:dJ P h0 nx0 r (bL sl dst Kb) (aAK++[none]) (cons++[some ⟨nx0+j, .arr k es,some (.arr k (es.set i (bZ t o (es.getD i Kb) (v.ev sl))))⟩]) Q):dJ P h0 nx0 ((⟨dst,none, .store t x v⟩,aAF)::r) sl aAK cons Q:=
 Av hx (by rw[tC];exact⟨hu,hd,ha⟩) hi hp hf h
def tU(b:Bool)(A B:Prop):Prop:=(b=true→A)∧(b=false→B)
theorem GK{A B:Prop}(h:A):tU true A B:=⟨(fun _=>h),(fun h=>by cases h)⟩
theorem GL{A B:Prop}(h:B):tU false A B:=⟨(fun h=>by cases h),(fun _=>h)⟩
theorem xH{b:Bool}{A B:Prop}(h1:b=true→A)(h2:b=false→B):tU b A B:=⟨h1,h2⟩
theorem qK{P:Program}{c:aK}{a b:aT}{Q:bJ→St→Prop}{s:St}(h:lwp P (.cond c a b) Q s):lwp P (.cond c a b) Q s:=h
theorem qH{P:Program}{n:Nat}{hd:List (aA×List Nat)}{tl:List aA}{Q:bJ→St→Prop}{s:St}(h:lwp P (.draw n hd tl) Q s):lwp P (.draw n hd tl) Q s:=h
theorem qD{P:Program}{o:aA}{r:List aA}{Q:St→Prop}{s:St}(h:aY P (o::r) Q s):aY P (o::r) Q s:=h
theorem qI{P:Program}{h0:Hp}{nx0:Nat}{Q:List V→List (Option Blk)→List (Option Con)→Prop}{sl:List V}{aAK:List (Option Blk)}{cons:List (Option Con)}{l:List (aA×List Nat)}(h:dJ P h0 nx0 l sl aAK cons Q):dJ P h0 nx0 l sl aAK cons Q:=h
theorem kL{P:Program}{c:aK}{a b:aT}{Q:bJ→St→Prop}{s:St}{t:Bool}(hc:c.ev s.sl= .bool t)(h:tU t (lwp P a Q s) (lwp P b Q s)):lwp P (.cond c a b) Q s:=dI t hc h.1 h.2
theorem gO{P:Program}{r:List aA}{Qs:St→Prop}{s:St}{dst:Option Nat}{t:Nat}{b:Bool}{op:LOp}(hb:s.sl.getD t Kb= .bool b)
 (h:tU b (aY P (⟨dst,none,op⟩::r) Qs ⟨s.sl.set t (.bool true),s.h,s.nx⟩) (aY P r Qs ⟨bL (s.sl.set t (.bool false)) dst Kb,s.h,s.nx⟩)):aY P (⟨dst,some (t,true),op⟩::r) Qs s:=
 fj hb h.1 h.2
theorem gP{P:Program}{r:List aA}{Qs:St→Prop}{s:St}{dst:Option Nat}{t:Nat}{b:Bool}{op:LOp}(hb:s.sl.getD t Kb= .bool b)
 (h:tU b (aY P r Qs ⟨bL (s.sl.set t (.bool true)) dst Kb,s.h,s.nx⟩) (aY P (⟨dst,none,op⟩::r) Qs ⟨s.sl.set t (.bool false),s.h,s.nx⟩)):aY P (⟨dst,some (t,false),op⟩::r) Qs s:=
 fj hb h.2 h.1
section
variable{P:Program}{h0:Hp}{nx0:Nat}{Q:List V→List (Option Blk)→List (Option Con)→Prop}{sl:List V}{aAK:List (Option Blk)}{cons:List (Option Con)}{r:List (aA×List Nat)}{dst:Option Nat}{aAF:List Nat}{t:Nat}{op:LOp}
theorem gR{b:Bool}(hb:sl.getD t Kb= .bool b)(h:tU b (dJ P h0 nx0 ((⟨dst,none,op⟩,aAF)::r) (sl.set t (.bool true)) aAK cons Q) (dJ P h0 nx0 r (bL (sl.set t (.bool false)) dst Kb) (aAK++[none]) (cons++[none]) Q)):
 dJ P h0 nx0 ((⟨dst,some (t,true),op⟩,aAF)::r) sl aAK cons Q:=im hb h.1 h.2
theorem gS{b:Bool}(hb:sl.getD t Kb= .bool b)(h:tU b (dJ P h0 nx0 r (bL (sl.set t (.bool true)) dst Kb) (aAK++[none]) (cons++[none]) Q) (dJ P h0 nx0 ((⟨dst,none,op⟩,aAF)::r) (sl.set t (.bool false)) aAK cons Q)):
 dJ P h0 nx0 ((⟨dst,some (t,false),op⟩,aAF)::r) sl aAK cons Q:=im hb h.2 h.1
end
theorem bC{t u:Nat}{k:Sh}{R:V→Hp→Nat→Prop}{s:St}(ho:(aW.load k (.slot t)).ok s.sl s.h)(h':Hp)(hle:h'.le s.h)(hR:R (.tup [(aW.load k (.slot t)).out s.sl s.h,s.sl.getD u Kb]) h' s.nx):rM [.cell t k, .slot u] R .ret s:=by
 have:=aW.aAb (R:=fun v=>∃h',h'.le s.h∧R (iY [v,s.sl.getD u Kb]) h' s.nx) ho ⟨h',hle,by generalize (aW.load k (.slot t)).out s.sl s.h=x at hR;exact hR⟩;exact this
def Acc(h:Hp)(n0:Nat)(o:Own)(es:List V):Prop:=(es=[]∧o= .nil)∨(es≠ []∧∃id,n0≤id∧o= .tok id∧h id=some .tip)
def FU(h:Hp)(n0:Nat)(o:Own):Prop:=∃id,n0≤id∧o= .tok id∧h id=some .tip
def Hp.aAy(h:Hp):Own→Hp
 | .tok n=>h.del n
 |_=>h
theorem Ft(h:Hp):h.aAy .nil=h:=rfl
theorem Fs(h:Hp)(n:Nat):h.aAy (.tok n)=h.del n:=rfl
def Hp.same(n0:Nat)(h h':Hp):Prop:=∀m,m<n0→h' m=h m
theorem Hp.same.aAr{n0:Nat}{h:Hp}:Hp.same n0 h h:=fun _ _=>rfl
theorem tr{n0 n:Nat}{h h':Hp}(s:Hp.same n0 h h')(hn:n0≤n)(b:Blk):Hp.same n0 h (h'.set n b):=fun m hm=>by
 unfold Hp.set;rw[if_neg or];exact s m hm
theorem dr{n0 n:Nat}{h h':Hp}(s:Hp.same n0 h h')(hn:n0≤n):Hp.same n0 h (h'.del n):=fun m hm=>by
 unfold Hp.del;rw[if_neg or];exact s m hm
theorem B3{n0:Nat}{h h':Hp}{o:Own}(s:Hp.same n0 h h')(ho:∀id,o= .tok id→n0≤id):Hp.same n0 h (h'.aAy o):=by
 cases o with
 |tok id=>exact dr s (ho id rfl)
 |_=>exact s
theorem Acc.ge{h:Hp}{n0:Nat}{o:Own}{es:List V}(a:Acc h n0 o es)(id:Nat)(e:o= .tok id):n0≤id:=by
 rcases a with⟨_,rfl⟩|⟨_,id',hge,rfl,_⟩
 ·cases e
 injection e with e;omega
theorem Hp.same.le{n0:Nat}{h h':Hp}(s:Hp.same n0 h h'){h0:Hp}(hd:aS h0 n0)(hle:h0.le h):h0.le h':=fun m b e=>by rw[s m (hd m b e)];exact hle m b e
theorem aS.aAy{h:Hp}{nx:Nat}(hd:aS h nx)(o:Own):aS (h.aAy o) nx:=by
 cases o<;>first|exact hd|exact hd.del
theorem kZ{h:Hp}{o:Own}{m:Nat}(hn:∀id,o= .tok id→m≠id):h.aAy o m=h m:=by
 cases o with
 |tok id=>show(h.del id) m=h m;unfold Hp.del;rw[if_neg (hn id rfl)]
 |_=>rfl
theorem Acc.set{h:Hp}{n0 n:Nat}{o:Own}{es:List V}(a:Acc h n0 o es)(hn:h n≠some .tip)(b:Blk):Acc (h.set n b) n0 o es:=by
 rcases a with⟨e,eo⟩|⟨e,id,hge,eo,ht⟩
 ·exact .inl ⟨e,eo⟩
 refine .inr ⟨e,id,hge,eo,?_⟩;unfold Hp.set;rw[if_neg (fun e2=>hn (by rw[←e2];exact ht))];exact ht
theorem Acc.del{h:Hp}{n0 n:Nat}{o:Own}{es:List V}(a:Acc h n0 o es)(hn:o≠ .tok n):Acc (h.del n) n0 o es:=by
 rcases a with⟨e,eo⟩|⟨e,id,hge,eo,ht⟩
 ·exact .inl ⟨e,eo⟩
 refine .inr ⟨e,id,hge,eo,?_⟩;unfold Hp.del;rw[if_neg (fun e=>hn (by rw[eo,e]))];exact ht
theorem Acc.aAy{h:Hp}{n0:Nat}{o o':Own}{es:List V}(a:Acc h n0 o es)(hn:∀id,o'= .tok id→o≠ .tok id):Acc (h.aAy o') n0 o es:=by
 cases o' with
 |tok id=>exact a.del (hn id rfl)
 |_=>exact a
theorem FU.set{h:Hp}{n0 n:Nat}{o:Own}(a:FU h n0 o)(hn:h n≠some .tip)(b:Blk):FU (h.set n b) n0 o:=by
 obtain⟨id,hge,eo,ht⟩:=a;refine⟨id,hge,eo,?_⟩;unfold Hp.set;rw[if_neg (fun e2=>hn (by rw[←e2];exact ht))];exact ht
theorem Acc.up{h:Hp}{n0 n1:Nat}{o:Own}{es:List V}(a:Acc h n1 o es)(hn:n0≤n1):Acc h n0 o es:=by
 rcases a with⟨e,eo⟩|⟨e,id,hge,eo,ht⟩
 ·exact .inl ⟨e,eo⟩
 exact .inr ⟨e,id,or,eo,ht⟩
theorem aS.aYs{h:Hp}{nx n:Nat}(hd:aS h nx)(hn:nx≤n):h n≠some .tip:=fun e=>absurd (hd n _ e) or
theorem Et{h:Hp}{n:Nat}{k:Sh}{es:List V}:h.set n (.arr k es) n≠some .tip:=by unfold Hp.set;rw[if_pos rfl];exact(fun e=>by cases e)
theorem Gd{h:Hp}{n:Nat}{k:Sh}{es:List V}(e:h n=some (.arr k es)):h n≠some .tip:=by rw[e];exact(fun e=>by cases e)
theorem Er{h:Hp}{n m:Nat}{b:Blk}(hn:m≠n)(hm:h m≠some .tip):h.set n b m≠some .tip:=by unfold Hp.set;rw[if_neg hn];exact hm
theorem Es{h:Hp}{n m:Nat}(hm:h m≠some .tip):h.del n m≠some .tip:=by unfold Hp.del;split<;>first|exact hm|exact(fun e=>by cases e)
theorem Acc.new{h:Hp}{n0 n:Nat}(es:List V)(hne:es≠ [])(hn:n0≤n):Acc (h.set n .tip) n0 (.tok n) es:= .inr ⟨hne,n,hn,rfl,by unfold Hp.set;rw[if_pos rfl]⟩
theorem Acc.nil{h:Hp}{n0:Nat}:Acc h n0 .nil []:= .inl ⟨rfl,rfl⟩
theorem Acc.loose{h:Hp}{n0:Nat}{o:Own}{k:Sh}{es:List V}(a:Acc h n0 o es):(V.sl k o es).loose=(if es.isEmpty=true then .sl k .nil [] else .sl k .free es):=by
 rcases a with⟨rfl,rfl⟩|⟨hne,id,_,rfl,_⟩
 ·rfl
 cases es with
 |nil=>exact absurd rfl hne
 |cons=>rfl
theorem Acc.ok{h:Hp}{n0:Nat}{o:Own}{es:List V}(a:Acc h n0 o es):sG h o:=by
 rcases a with⟨_,rfl⟩|⟨_,id,_,rfl,ht⟩
 ·trivial
 exact ht
theorem FU.ok{h:Hp}{n0:Nat}{o:Own}(a:FU h n0 o):sG h o:=by
 obtain⟨id,_,rfl,ht⟩:=a;exact ht
section
variable{P:Program}{r:List aA}{Qs:St→Prop}{s:St}{dst:Option Nat}
theorem Cy{k:Sh}{bs:Nat}{x y:aK}{o:Own}{es ys:List V}(hx:x.ev s.sl= .sl k o es)(ha:sG s.h o)(hy:dQ s.h (y.ev s.sl)=some (k,ys))(hne:ys≠ [])(hb:(es.length+ys.length)*bs≤140737488355328)
 (hq:aY P r Qs ⟨bL s.sl dst (.sl k (.tok s.nx) (es++ys)),(s.h.aAy o).set s.nx .tip,s.nx+1⟩):aY P (⟨dst,none, .append k bs x y⟩::r) Qs s:=by
 have hys:ys.isEmpty=false:=by cases ys with|nil=>exact absurd rfl hne|cons=>rfl
 unfold aY;simp only[LOp.run,LOp.sem,hy,hx,true_and];refine⟨hb, .inl ⟨ha,?_⟩⟩;cases o with
 |free=>exact ha.elim
 |nil=>simpa only[fB,gC,hys,Hp.aAy,Kg,if_false] using hq
 |full=>simpa only[fB,gC,hys,Hp.aAy,Kg,if_false] using hq
 |tok id=>exact hq
theorem EQ{k:Sh}{bs:Nat}{x y:aK}{o:Own}{es ys:List V}{n0:Nat}(hx:x.ev s.sl= .sl k o es)(ha:Acc s.h n0 o es)(hy:dQ s.h (y.ev s.sl)=some (k,ys))(hne:ys≠ [])(hb:(es.length+ys.length)*bs≤140737488355328)
 (hq:aY P r Qs ⟨bL s.sl dst (.sl k (.tok s.nx) (es++ys)),(s.h.aAy o).set s.nx .tip,s.nx+1⟩):aY P (⟨dst,none, .append k bs x y⟩::r) Qs s:=
 Cy hx ha.ok hy hne hb hq
end
def LOp.isApp:LOp→Bool
 | .append .. =>true
 |_=>false
def aA.aBZ(o:aA):Bool:=o.plain&& !o.op.isApp
def rW:List aA→List aA
 | []=>[]
 |o::r=>match o.aBZ with
  |true=>o::rW r
  |false=>[]
def sZ:List aA→List aA
 | []=>[]
 |o::r=>match o.aBZ with
  |true=>sZ r
  |false=>o::r
theorem Bi{P:Program}{Q:St→Prop}:∀(l:List aA) (s:St),rP (rW l) s→aY P (sZ l) Q (jU (rW l) s)→aY P l Q s
 | [],s,_,h=>h
 |o::r,s,ho,h=>by
  cases hc:o.aBZ with
  |false=>simp only[rW,sZ,hc] at ho h;exact h
  |true=>
   simp only[rW,sZ,hc] at ho h;have aDE:o.op.aAY=false:=by
    simp only[aA.aBZ,Km] at hc;have hc:=hc.1;unfold aA.plain at hc;split at hc
    ·simpa using hc
    cases hc
   exact sW aDE ho.1 (Bi r _ ho.2 h)
theorem nG{P:Program}{Q:St→Prop}{o:aA}{r:List aA}{s:St}(_:o.aBZ=true)(ho:rP (rW (o::r)) s)(h:aY P (sZ (o::r)) Q (jU (rW (o::r)) s)):aY P (o::r) Q s:=Bi _ s ho h
theorem EP{P:Program}{Q:St→Prop}{o:aA}{r:List aA}{s:St}(hp:o.op.isApp=true)(hg:o.g=none)(ho:o.ok s)(h:aY P r Q (o.next s)):aY P (o::r) Q s:=by
 refine sW ?_ ho h;cases e:o.op<;>rw[e] at hp<;>first|rfl|cases hp
theorem Is{a b:Nat}(h:a<b):(a=b)=False:=mn or
theorem HY{a b k:Nat}(h:a<b):(a=b+k)=False:=mn or
theorem HZ{a b:Nat}(h:a<b):(b=a)=False:=mn or
theorem Hr{a b k:Nat}(h:a<b):(b+k=a)=False:=mn or
class Stp(A:Prop)(B:outParam Prop):Prop where
 go:B→A
theorem stp{A B:Prop} [i:Stp A B](h:B):A:=i.go h
variable{P:Program}{Q:bJ→St→Prop}{s:St}
instance IQ{a b:aT}:Stp (lwp P (.seq a b) Q s) (lwp P a (mD (lwp P b) Q) s):=⟨bS⟩
instance IP{l:List aA}:Stp (lwp P (.ops l) Q s) (aY P l (Q .normal) s):=⟨cG⟩
instance IN{b:(bJ→St→Prop)→St→Prop}:Stp (mD b Q .normal s) (b Q s):=⟨aX⟩
instance IM{R:St→Prop}:Stp (aY P [] R s) (R s):=⟨bQ⟩
instance IL{id:Nat}:Stp (fK id Q .normal s) (Q .normal s):=⟨aU⟩
instance IK{id:Nat}{c:aT}:Stp (lwp P (.block id c) Q s) (lwp P c (fK id Q) s):=⟨bK⟩
instance IJ:Stp (lwp P .skip Q s) (Q .normal s):=⟨cE⟩
instance II:Stp (lwp P .ret Q s) (Q .ret s):=⟨dM⟩
instance IH{b:(bJ→St→Prop)→St→Prop}:Stp (mD b Q .ret s) (Q .ret s):=⟨mR⟩
instance IG{id:Nat}:Stp (fK id Q .ret s) (Q .ret s):=⟨iO⟩
instance IF{ι:Type}{sl:ι→List V}{C:ι→Hp→Nat→Prop}{m:ι→Nat}{n:Nat}:Stp (aZ sl C m n Q .ret s) (Q .ret s):=⟨kG⟩
instance IE{id:Nat}:Stp (lwp P (.exit id) Q s) (Q (.exit id) s):=⟨rQ⟩
instance ID{b:(bJ→St→Prop)→St→Prop}{id:Nat}:Stp (mD b Q (.exit id) s) (Q (.exit id) s):=⟨mJ⟩
instance IC{ι:Type}{sl:ι→List V}{C:ι→Hp→Nat→Prop}{m:ι→Nat}{n id:Nat}:Stp (aZ sl C m n Q (.exit id) s) (Q (.exit id) s):=⟨iR⟩
instance IB{id:Nat}:Stp (fK id Q (.exit id) s) (Q .normal s):=⟨dY⟩
instance IA{A B:Prop}:Stp (tU true A B) A:=⟨GK⟩
instance Iz{A B:Prop}:Stp (tU false A B) B:=⟨GL⟩
theorem ee2{p0 p1:Prop}(x0:p0)(x1:p1):p0∧p1:=⟨x0,x1⟩
theorem ee4{p0 p1 p2 p3:Prop}(x0:p0)(x1:p1)(x2:p2)(x3:p3):p0∧p1∧p2∧p3:=⟨x0,x1,x2,x3⟩
theorem ee5{p0 p1 p2 p3 p4:Prop}(x0:p0)(x1:p1)(x2:p2)(x3:p3)(x4:p4):p0∧p1∧p2∧p3∧p4:=⟨x0,x1,x2,x3,x4⟩
theorem wl{G B:Prop}(k:B)(h:PLift B→G:=by
 intro k
 (repeat (first|with_reducible refine bS ?_|with_reducible refine bK ?_|with_reducible refine cE ?_|with_reducible refine aX ?_|with_reducible refine aU ?_|with_reducible refine cG ?_|(refine cF rfl (by simp only[go_sem,reduceIte,Nat.reduceAdd,Nat.reduceSub,Nat.reduceLT,Nat.reduceLeDiff,reduceCtorEq,Nat.reduceEqDiff,Int.reduceToNat];try omega) ?_;simp only[go_sem,reduceIte,Nat.reduceAdd,Nat.reduceSub,Nat.reduceLT,Nat.reduceLeDiff,reduceCtorEq,Nat.reduceEqDiff,Int.reduceToNat])|(with_reducible refine bQ ?_)))
 exact k.down):G:=h ⟨k⟩
theorem wle{G B p:Prop}(E:p)(k:B)(h:p→PLift B→G:=by
 intro E k
 (repeat (first|with_reducible refine bS ?_|with_reducible refine bK ?_|with_reducible refine cE ?_|with_reducible refine aX ?_|with_reducible refine aU ?_|with_reducible refine cG ?_|(refine cF rfl (by simp only[E,List.length_map,go_sem,reduceIte,Nat.reduceAdd,Nat.reduceSub,Nat.reduceLT,Nat.reduceLeDiff,reduceCtorEq,Nat.reduceEqDiff,Int.reduceToNat];try omega) ?_;simp only[E,List.length_map,go_sem,reduceIte,Nat.reduceAdd,Nat.reduceSub,Nat.reduceLT,Nat.reduceLeDiff,reduceCtorEq,Nat.reduceEqDiff,Int.reduceToNat])|(with_reducible refine bQ ?_)))
 exact k.down):G:=h E ⟨k⟩
attribute [go_sem] Option.some.injEq Prod.mk.injEq false_and and_false Bool.true_eq_false HB Fu G5 AB Eu if_true Kx Fq sB ie mkL mkN rP jU aA.ok aA.next LOp.ok LOp.next aW.ok aW.out aK.ev bL xr pB mY yI Kb Sh.size qU yX iH aA.dok aA.aCv LOp.dok LOp.aEH wy xb iB iC List.take_succ_cons List.take_zero List.take_nil List.drop_succ_cons List.drop_zero List.drop_nil List.set_cons_succ List.set_cons_zero List.getD_cons_succ Ke List.length_cons List.length_nil List.map_cons List.map_nil List.all_cons List.all_nil List.mem_cons List.not_mem_nil List.replicate_succ List.replicate_zero Kk List.nil_append List.append_nil List.isEmpty_cons List.isEmpty_nil fB gC sG Ko Option.isSome_some Option.isSome_none Nat.add_eq Kt Nat.add_zero true_and and_true and_self true_implies implies_true false_implies forall_const forall_eq forall_eq_or_imp ne_eq not_false_eq_true not_true_eq_false Bool.not_true Bool.not_false decide_true decide_false Bool.and_true Kx Bool.and_false Bool.false_and true_or or_true false_or or_false eq_self Kg Hi Ep iY aD cW eC iD xE tB xD lA nQ dQ Int.toNat_natCast Int.toNat_zero List.take_length Hp.aAM Hp.aAw wW vB aA.plain LOp.aAY aA.aBw LOp.aBo u0 Hx Fg Ib Ah V.aDG V.aCW A7 ui uj A6 eL bI gF oK qJ beq_true beq_false ma mb mc fm fp vU vV fX wj fz nm nj wL nk nn ve vf wM nl tP fy vh zQ ni zR rS yj DP DQ DO ox i6 xg fA sa r9 r8 r7 rz bw bv j9 j8 j7 b8 bz bx se sd sb kj ki kg tC iu eK bt Hp.aBY lO Option.isNone_some Option.isNone_none Ir rW sZ aA.aBZ LOp.isApp Is HY HZ Hr Ft Fs
theorem dmo{h H:Hp}{nx n:Nat}(q:aS h nx)(k:aS h nx→aS H n:=by
 intro q;(try dsimp only);repeat (first|exact aS.up q (by omega)|refine aS.aPD ?_ (by omega) _|refine aS.del ?_|refine aS.aAy ?_ _)):aS H n:=k q
theorem kep{h h1 H:Hp}{m n:Nat}(q:Hp.same m h h1)(k:Hp.same m h h1→Hp.same n h H:=by
 intro q;(try dsimp only);repeat (first|exact q|refine tr ?_ (by omega) _|refine dr ?_ (by omega))):Hp.same n h H:=k q
theorem gm{h h1 H:Hp}{m n n0:Nat}{o:Own}{es:List V}(q:Hp.same m h h1)(a:Acc h1 n0 o es)(k:Hp.same m h h1→Acc h1 n0 o es→Hp.same n h H:=by
 intro q a;(try dsimp only);repeat (first|exact q|refine tr ?_ (by omega) _|refine dr ?_ (by omega)|refine B3 ?_ (fun id e=>by have:=a.ge id e;omega))):Hp.same n h H:=k q a
theorem acc{h H:Hp}{nx n0:Nat}{o:Own}{es:List V}(a:Acc h n0 o es)(d:aS h nx)(k:Acc h n0 o es→aS h nx→Acc H n0 o es:=by
 intro a d;(try dsimp only);repeat' (first|exact a|exact aS.aYs d (by omega)|exact Et|exact Gd (by assumption)|refine Er (by omega) ?_|refine Es ?_|refine Acc.set ?_ ?_ _)):Acc H n0 o es:=k a d
theorem lef{h h1 H:Hp}{nx:Nat}(d:aS h nx)(q:h.le h1)(k:aS h nx→h.le h1→h.le H:=by
 intro d q;(try dsimp only);repeat (first|exact q|refine zS d ?_ (by omega) _|refine wO d ?_ (by omega))):h.le H:=k d q
theorem leo{h H:Hp}{nx:Nat}(d:aS h nx)(k:aS h nx→h.le H:=by
 intro d;(try dsimp only);repeat (first|exact Hp.le_refl _|refine zS d ?_ (by omega) _|refine wO d ?_ (by omega))):h.le H:=k d
theorem fls{p:Prop}(h:¬p:=by omega):p=False:=eq_false h
theorem dct{p:Prop} [Decidable p](h:p:=by omega):decide p=true:=decide_eq_true h
theorem dcf{p:Prop} [Decidable p](h:¬p:=by omega):decide p=false:=decide_eq_false h
theorem bqf{a b:Int}(h:a≠b:=by omega):(a==b)=false:=by simpa using h
theorem bqt{a b:Int}(h:a=b:=by omega):(a==b)=true:=by simpa using h
theorem bnt{a b:Int}(h:a≠b:=by omega):(a != b)=true:=by simpa using h
theorem bnf{a b:Int}(h:a=b:=by omega):(a != b)=false:=by simpa using h
theorem wrp{a b:Int}(h:a=b:=by omega)(h1:-9223372036854775808≤b:=by omega)(h2:b<9223372036854775808:=by omega):IntKind.i64.wrap a=b:=by rw[h];exact fY (by omega) (by omega)
theorem e2{A B:Prop}(a:A)(b:B):A∧B:=⟨a,b⟩
theorem e3{A B C:Prop}(a:A)(b:B)(c:C):A∧B∧C:=⟨a,b,c⟩
theorem e4{A B C D:Prop}(a:A)(b:B)(c:C)(d:D):A∧B∧C∧D:=⟨a,b,c,d⟩
theorem e5{A B C D E:Prop}(a:A)(b:B)(c:C)(d:D)(e:E):A∧B∧C∧D∧E:=⟨a,b,c,d,e⟩
theorem e6{A B C D E F:Prop}(a:A)(b:B)(c:C)(d:D)(e:E)(f:F):A∧B∧C∧D∧E∧F:=⟨a,b,c,d,e,f⟩
theorem e7{A B C D E F G:Prop}(a:A)(b:B)(c:C)(d:D)(e:E)(f:F)(g:G):A∧B∧C∧D∧E∧F∧G:=⟨a,b,c,d,e,f,g⟩
theorem e8{A B C D E F G H:Prop}(a:A)(b:B)(c:C)(d:D)(e:E)(f:F)(g:G)(h:H):A∧B∧C∧D∧E∧F∧G∧H:=⟨a,b,c,d,e,f,g,h⟩
theorem e9{A B C D E F G H I:Prop}(a:A)(b:B)(c:C)(d:D)(e:E)(f:F)(g:G)(h:H)(i:I):A∧B∧C∧D∧E∧F∧G∧H∧I:=⟨a,b,c,d,e,f,g,h,i⟩
theorem e10{A B C D E F G H I J:Prop}(a:A)(b:B)(c:C)(d:D)(e:E)(f:F)(g:G)(h:H)(i:I)(j:J):A∧B∧C∧D∧E∧F∧G∧H∧I∧J:=⟨a,b,c,d,e,f,g,h,i,j⟩
theorem e11{A B C D E F G H I J K:Prop}(a:A)(b:B)(c:C)(d:D)(e:E)(f:F)(g:G)(h:H)(i:I)(j:J)(k:K):A∧B∧C∧D∧E∧F∧G∧H∧I∧J∧K:=⟨a,b,c,d,e,f,g,h,i,j,k⟩
theorem e12{A B C D E F G H I J K L:Prop}(a:A)(b:B)(c:C)(d:D)(e:E)(f:F)(g:G)(h:H)(i:I)(j:J)(k:K)(l:L):A∧B∧C∧D∧E∧F∧G∧H∧I∧J∧K∧L:=⟨a,b,c,d,e,f,g,h,i,j,k,l⟩
theorem e13{A B C D E F G H I J K L M:Prop}(a:A)(b:B)(c:C)(d:D)(e:E)(f:F)(g:G)(h:H)(i:I)(j:J)(k:K)(l:L)(m:M):A∧B∧C∧D∧E∧F∧G∧H∧I∧J∧K∧L∧M:=⟨a,b,c,d,e,f,g,h,i,j,k,l,m⟩
theorem e14{A B C D E F G H I J K L M N:Prop}(a:A)(b:B)(c:C)(d:D)(e:E)(f:F)(g:G)(h:H)(i:I)(j:J)(k:K)(l:L)(m:M)(n:N):A∧B∧C∧D∧E∧F∧G∧H∧I∧J∧K∧L∧M∧N:=⟨a,b,c,d,e,f,g,h,i,j,k,l,m,n⟩
theorem au{G B:Prop}(k:B)(h:PLift B→G:=by
 intro k
 (repeat' (first|(with_reducible first|refine stp ?_|refine cQ (by decide) ?_)|((first|(with_reducible refine qD ?_;first|refine nG rfl ?_ ?_|refine aH (C1 _) rfl (aI _) ?_|refine aH (C2 _) rfl (aI _) ?_|refine aH (C3 _) rfl (aI _) ?_|refine aH (C4 _) rfl (aI _) ?_|refine aH C5 rfl (aI _) ?_|refine aH C6 rfl (aI _) ?_|(first|refine gO rfl ?_|refine gP rfl ?_)|refine eQ rfl ?_)|(with_reducible refine qI ?_;first|refine nP rfl ?_ ?_|refine bR (D1 _) rfl (bH _) ?_|refine bR (D2 _) rfl (bH _) ?_|refine bR (D3 _) rfl (bH _) ?_|refine bR (D4 _) rfl (bH _) ?_|refine bR (D5 _) rfl (bH _) ?_|refine bR (D6 _) rfl (bH _) ?_|(first|refine gR rfl ?_|refine gS rfl ?_)|refine eS rfl ?_|refine kA (kQ ?_)|refine kA (nN ?_))|(with_reducible refine qK ?_;refine kL rfl ?_))<;>try simp only[go_sem,reduceIte,Nat.reduceAdd,Nat.reduceSub,Nat.reduceLT,Nat.reduceLeDiff,reduceCtorEq,Nat.reduceEqDiff,Int.reduceToNat])|(with_reducible refine qH ?_;refine lH rfl ?_)|omega))
 exact k.down):G:=h ⟨k⟩
theorem aue{G B p:Prop}(E:p)(k:B)(h:p→PLift B→G:=by
 intro E k
 (repeat' (first|(with_reducible first|refine stp ?_|refine cQ (by decide) ?_)|((first|(with_reducible refine qD ?_;first|refine nG rfl ?_ ?_|refine aH (C1 _) rfl (aI _) ?_|refine aH (C2 _) rfl (aI _) ?_|refine aH (C3 _) rfl (aI _) ?_|refine aH (C4 _) rfl (aI _) ?_|refine aH C5 rfl (aI _) ?_|refine aH C6 rfl (aI _) ?_|refine EQ rfl (acc aAO hdm) rfl (by simp) (by simp only[E,List.length_map,go_sem,reduceIte,Nat.reduceAdd,Nat.reduceSub,Nat.reduceLT,Nat.reduceLeDiff,reduceCtorEq,Nat.reduceEqDiff,Int.reduceToNat];try omega) ?_|refine EP rfl rfl (by simp only[E,List.length_map,go_sem,reduceIte,Nat.reduceAdd,Nat.reduceSub,Nat.reduceLT,Nat.reduceLeDiff,reduceCtorEq,Nat.reduceEqDiff,Int.reduceToNat];try omega) ?_|(first|refine gO rfl ?_|refine gP rfl ?_)|refine eQ rfl ?_)|(with_reducible refine qI ?_;first|refine nP rfl ?_ ?_|refine bR (D1 _) rfl (bH _) ?_|refine bR (D2 _) rfl (bH _) ?_|refine bR (D3 _) rfl (bH _) ?_|refine bR (D4 _) rfl (bH _) ?_|refine bR (D5 _) rfl (bH _) ?_|refine bR (D6 _) rfl (bH _) ?_|refine il rfl rfl (by decide) (by(simp only[eK,go_sem,reduceIte,Nat.reduceAdd,Nat.reduceSub,Nat.reduceLT,Nat.reduceLeDiff,reduceCtorEq,Nat.reduceEqDiff,Int.reduceToNat])<;>try omega) (by simp only[go_sem,reduceIte,Nat.reduceAdd,Nat.reduceSub,Nat.reduceLT,Nat.reduceLeDiff,reduceCtorEq,Nat.reduceEqDiff,Int.reduceToNat]) (by simp only[go_sem,reduceIte,Nat.reduceAdd,Nat.reduceSub,Nat.reduceLT,Nat.reduceLeDiff,reduceCtorEq,Nat.reduceEqDiff,Int.reduceToNat]) (by simp only[E,go_sem,reduceIte,Nat.reduceAdd,Nat.reduceSub,Nat.reduceLT,Nat.reduceLeDiff,reduceCtorEq,Nat.reduceEqDiff,Int.reduceToNat]) ?_|(first|refine gR rfl ?_|refine gS rfl ?_)|refine eS rfl ?_|refine kA (kQ ?_)|refine kA (nN ?_))|(with_reducible refine qK ?_;refine kL rfl ?_))<;>try simp only[E,List.length_map,go_sem,reduceIte,Nat.reduceAdd,Nat.reduceSub,Nat.reduceLT,Nat.reduceLeDiff,reduceCtorEq,Nat.reduceEqDiff,Int.reduceToNat])|(with_reducible refine qH ?_;refine lH rfl ?_)|omega))
 exact k.down):G:=h E ⟨k⟩
theorem Zn{G B:Prop}(k:B)(h:PLift B→G:=by intro k;simp only[go_sem,reduceIte,Nat.reduceAdd,Nat.reduceSub,Nat.reduceLT,Nat.reduceLeDiff,reduceCtorEq,Nat.reduceEqDiff,Int.reduceToNat];exact k.down):G:=h ⟨k⟩
theorem Zk{G B:Prop}(k:B)(h:PLift B→G:=by intro k;simp only[aD,go_sem,reduceIte,Nat.reduceAdd,Nat.reduceSub,Nat.reduceLT,Nat.reduceLeDiff,reduceCtorEq,Nat.reduceEqDiff,Int.reduceToNat];exact k.down):G:=h ⟨k⟩
theorem ZK{G B:Prop}(k:B)(h:PLift B→G:=by intro k;simp only[List.length_cons,List.length_nil,Nat.reduceAdd,Nat.reduceSub,List.replicate_succ,List.replicate_zero,List.cons_append,List.nil_append,V.undef];exact k.down):G:=h ⟨k⟩
theorem ZN{P:Prop}(h:P:=by first|omega|(dsimp only;omega)):P:=h
theorem Zw{P:Prop}(h:P:=by dsimp only;omega):P:=h
theorem ZW{G B:Prop}(k:B)(h:PLift B→G:=by intro k;(with_reducible first|refine stp ?_|refine cQ (by decide) ?_);exact k.down):G:=h ⟨k⟩
theorem Zx{G B:Prop}(k:B)(h:PLift B→G:=by intro k;(first|refine gO rfl ?_|refine gP rfl ?_|refine eQ rfl ?_);exact k.down):G:=h ⟨k⟩
theorem ZX{G B:Prop}(k:B)(h:PLift B→G:=by intro k;(first|refine gR rfl ?_|refine gS rfl ?_|refine eS rfl ?_|refine kA (kQ ?_)|refine kA (nN ?_));exact k.down):G:=h ⟨k⟩
theorem Zy{G B:Prop}(k:B)(h:PLift B→G:=by intro k;(with_reducible refine qK ?_;refine kL rfl ?_);exact k.down):G:=h ⟨k⟩
theorem ZY{G B:Prop}(k:B)(h:PLift B→G:=by intro k;(with_reducible refine qH ?_;refine lH rfl ?_);exact k.down):G:=h ⟨k⟩
end Go.Proofs.YtlhedpgobaellaaGreatDoor
