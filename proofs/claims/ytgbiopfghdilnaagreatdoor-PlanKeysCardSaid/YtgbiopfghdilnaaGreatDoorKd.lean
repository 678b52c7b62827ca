/-
Texts of this proof,one behind the other. No conditions.
-/
import Derived.Test.YtgbiopfghdilnaaGreatDoorKcb
open Go.Proofs.YtgbiopfghdilnaaGreatDoor.V renaming aAE→Ka,undef→Kb,fits→Kc,pick→Kd
open List renaming getD_cons_zero→Ke,getD_eq_getElem?_getD→Kh,getElem?_eq_getElem→Kj,cons_append→Kk
open Array renaming getD_eq_getD_getElem?→Kf,getElem?_eq_getElem→Ki,getElem?_eq_none→Kp
open Bool renaming false_eq_true→Kg,and_eq_true→Km,true_and→Kx
open Option renaming getD_some→Ko
open Nat renaming zero_le→Kq,lt_or_ge→Ks,zero_add→Kt,le_refl→Ku
open Go renaming undef→Kv
open Go.World renaming cell?→Kw
set_option linter.unusedSimpArgs false
set_option linter.unusedVariables false
set_option linter.unusedSectionVars false
set_option maxHeartbeats 8000000
namespace Go.Proofs.YtgbiopfghdilnaaGreatDoor
open Go.RowKit
theorem freeze{K:Ker}{h:Hp}(hr:Rel K h){n a:Nat}{k:Sh}{es:List V}{cv:Value}(hn:h n=some (.arr k es))(ha:¬K.live a)(hv:VR K (.rs n k 0 es.length) cv):
 ∃K',K'.w=K.w∧K.le K'∧(∀m,K'.live m→K.live m∨m=a)∧VR K' (.sl k (.tok a) es) cv∧Rel K' ((h.del n).set a .tip):=by
 have hb:=hr.blk n _ hn;cases hb with
 |arr _ _ c T hh hcs aAr aAK hcv=>
  cases hv with
  |rs _ _ _ _ cap hl hcap hm=>
   obtain⟨T',m,hm1,hm2⟩:=hm;have hcm:m=c.size:=by simp[World.shape?,hh] at hm1;exact hm1.2.symm
   subst hcm;have hblk:K.mu n<K.w.heap.size:=by
    rcases Ks (K.mu n) K.w.heap.size with hlt|hge
    ·exact hlt
    rw[Kp hge] at hh;exact absurd hh Zm
   have hle:K.le (K.aAG a (K.mu n) (es.length*k.size)):=K.aAR ha (by rw[aAr];exact Kq _);have hmu:(K.aAG a (K.mu n) (es.length*k.size)).mu a=K.mu n:=by simp[Ker.aAG]
   refine⟨K.aAG a (K.mu n) (es.length*k.size),rfl,hle,fun m hm=>hm.symm,?_,hr.aAG hn ha (by rw[aAr];exact Kq _) (.tip c T (by rw[hmu];exact hh) (by simp[Ker.aAG]) (by simp only[Ker.aAG,if_true];exact hcs))⟩
   have:=VR.sl (K:=K.aAG a (K.mu n) (es.length*k.size)) k (.tok a) es (K.mu n) 0 cap (fun j=>c.getD j Kv) hblk aAK
    (fun j hj=>by
      show K.w.cell? _=_;simp only[Kw,hh,Kt];rw[Kf,Ki or];rfl)
    (fun j hj=> .inr (by simp only[Ker.aAG,if_true];omega))
    (fun i hi j hj=>(hcv i hi j hj).mono hle) hcap Zm Zm
    (fun m hm=>by
      injection hm with hm;subst hm;refine⟨.inl rfl, .inr ⟨hmu,by simp[Ker.aAG],T',c.size,?_,by simpa using Nat.le_of_eq hm2⟩⟩;exact hm1)
   simpa using this
theorem Hp.aAN(h:Hp)(n:Nat)(b:Blk)(m:Nat):(h.set n b) m=if m=n then some b else h m:=rfl
theorem Hp.aAx(h:Hp)(n m:Nat):(h.del n) m=if m=n then Option.none else h m:=rfl
def aW(h:Hp)(nx:Nat):Prop:=∀m b,h m=some b→m<nx
theorem aQ.dom{P:Program}{f:FuncId}{args:List V}{h:Hp}{nx:Nat}{R:V→Hp→Nat→Prop}(c:aQ P f args h nx R):aQ P f args h nx fun v h' nx'=>R v h' nx'∧aW h' nx'∧nx≤nx':=
 ⟨c.1,fun K cargs hl hrel hv=>(c.2 K cargs hl hrel hv).mono fun _ _ ⟨K',v,cv,h',nx',a,b,c,d,e,g,i,j⟩=>⟨K',v,cv,h',nx',a,b,c,d,e,g,i,j,fun m b hm=>(g m (e.lt m b hm)).1,i⟩⟩
theorem cY.dom{P:Program}{n:Nat}{args:List V}{h:Hp}{nx:Nat}{R:V→Hp→Nat→Prop}(c:cY P n args h nx R):cY P n args h nx fun v h' nx'=>R v h' nx'∧aW h' nx'∧nx≤nx':=
 fun m K cargs hl hn hrel hv=>(c m K cargs hl hn hrel hv).mono fun _ _ ⟨K',v,cv,h',nx',a,b,c,d,e,g,i,j⟩=>⟨K',v,cv,h',nx',a,b,c,d,e,g,i,j,fun m b hm=>(g m (e.lt m b hm)).1,i⟩
theorem aW.set{h:Hp}{nx nx' n:Nat}(hd:aW h nx)(hn:n<nx')(hle:nx≤nx')(b:Blk):aW (h.set n b) nx':=fun m c e=>by
 unfold Hp.set at e;split at e
 ·omega
 have:=hd m c e;omega
theorem aW.del{h:Hp}{nx n:Nat}(hd:aW h nx):aW (h.del n) nx:=fun m c e=>by
 unfold Hp.del at e;split at e
 ·cases e
 exact hd m c e
theorem aW.up{h:Hp}{nx nx':Nat}(hd:aW h nx)(hle:nx≤nx'):aW h nx':=fun m c e=>by have:=hd m c e;omega
theorem aW.le{h h':Hp}{nx:Nat}(hd:aW h' nx)(hle:h.le h'):aW h nx:=fun m c e=>hd m c (hle m c e)
theorem tI{h h':Hp}{n:Nat}{b:Blk}(hle:h.le h')(hn:h' n=some b):(h.set n b).le h':=fun m c e=>by
 unfold Hp.set at e;split at e
 ·rename_i em;subst em;injection e with e;subst e;exact hn
 exact hle m c e
theorem fY{h h':Hp}{n:Nat}(hle:h.le h')(hn:h n=none)(b:Blk):h.le (h'.set n b):=fun m c e=>by
 unfold Hp.set;split
 ·rename_i em;subst em;rw[hn] at e;cases e
 exact hle m c e
theorem nE{h h':Hp}{n:Nat}(hle:h.le h')(hn:h n=none):h.le (h'.del n):=fun m c e=>by
 unfold Hp.del;split
 ·rename_i em;subst em;rw[hn] at e;cases e
 exact hle m c e
theorem aW.none{h:Hp}{nx n:Nat}(hd:aW h nx)(hn:nx≤n):h n= .none:=by
 cases e:h n with
 |none=>rfl
 |some b=>exact absurd (hd n b e) or
theorem tS{h h':Hp}(hle:h.le h'):Hp.has h h':=fun n b e _=>hle n _ e
theorem Hp.le_trans{a b c:Hp}(h:a.le b)(h':b.le c):a.le c:=fun n x e=>h' n x (h n x e)
def AG(P:Program)(gf:Nat)(caps:List V)(hb:Hp)(xs:List (List V)):Prop:=
 ∀(yn:Nat) (J:Nat→Hp→Nat→Prop) (D:Hp→Nat→Prop),
  (∀i h nx,J i h nx→hb.has h)→(∀i h nx nx',J i h nx→nx≤nx'→J i h nx')→(∀h nx nx',D h nx→nx≤nx'→D h nx')→
  (∀i (hi:i<xs.length) h nx,J i h nx→aW h nx→cY P yn xs[i] h nx fun v h' nx'=>(v= .bool true∧J (i+1) h' nx')∨(v= .bool false∧D h' nx'))→
  ∀h nx,J 0 h nx→aW h nx→aQ P gf (.yld yn::caps) h nx fun _ h' nx'=>J xs.length h' nx'∨D h' nx'
def Av(r:Nat)(X:Blk)(J:St→Prop):bJ→St→Prop
 | .normal,s=>s.h r=some X∧J s
 |_,_=>False
def kG(r:Nat)(X:Blk)(I:Hp→Nat→Prop)(E:bJ→Hp→Nat→Prop):bJ→St→Prop
 | .normal,s=>s.h r=some X∧I s.h s.nx
 |e,s=>s.h r=some X∧E e s.h s.nx
theorem lL{r:Nat}{X:Blk}{J:St→Prop}{s:St}(h:s.h r=some X)(hj:J s):Av r X J .normal s:=⟨h,hj⟩
theorem lT{r:Nat}{X:Blk}{I:Hp→Nat→Prop}{E:bJ→Hp→Nat→Prop}{s:St}(h:s.h r=some X)(hi:I s.h s.nx):kG r X I E .normal s:=⟨h,hi⟩
theorem qa{r:Nat}{X:Blk}{I:Hp→Nat→Prop}{E:bJ→Hp→Nat→Prop}{s:St}(h:s.h r=some X)(hi:E .ret s.h s.nx):kG r X I E .ret s:=⟨h,hi⟩
theorem oI{P:Program}{g:aI}{ps:List Nat}{as b:aU}{Q:bJ→St→Prop}{s:St}{gf:Nat}{caps:List V}{hb:Hp}{xs:List (List V)}(hit:AG P gf caps hb xs)(hg:g.ev s.sl= .fn (.func gf) [] caps)
 (hlen:∀x∈xs,x.length=ps.length) (hd:aW s.h s.nx) (I:Nat→Hp→Nat→Prop) (E:bJ→Hp→Nat→Prop)
 (hbI:∀i h nx,I i h nx→hb.has h) (hnI:∀i h nx nx',I i h nx→nx≤nx'→I i h nx') (hsI:∀i h nx b,I i h nx→I i (h.set s.nx b) nx)
 (hnE:∀e h nx nx',E e h nx→nx≤nx'→E e h nx') (hsE:∀e h nx b,E e h nx→E e (h.set s.nx b) nx)
 (h0:I 0 s.h (s.nx+1))
 (aBe:∀i (hi:i<xs.length) h nx X,I i h nx→s.nx<nx→h s.nx=some X→aW h nx→
   lwp P as (Av s.nx X fun s1=>∀X',lwp P b (kG s.nx X' (I (i+1)) E) ⟨s1.sl,s1.h.set s.nx X',s1.nx⟩) ⟨aAS s.sl ps xs[i],h,nx⟩)
 (aCJ:∀h nx,I xs.length h nx→s.nx<nx→aW h nx→Q .normal ⟨s.sl,h.del s.nx,nx⟩)
 (hex:∀e h nx,E e h nx→s.nx<nx→aW h nx→(e= .ret∨∃id,e= .exit id)→Q e ⟨s.sl,h.del s.nx,nx⟩):lwp P (.range g ps as b) Q s:=by
 simp only[lwp,hg];intro rcd U hpl hY;have aAO:∀(h:Hp) (b:Blk),(h.set s.nx b) s.nx=some b:=fun h b=>by simp[Hp.set]
 refine((hit s.nx (fun i h nx=>I i h nx∧h s.nx=some (.obj (rcd .ready none) U))
  (fun h nx=>(h s.nx=some (.obj (rcd .done (some .ret)) U)∧E .ret h nx)∨∃id,h s.nx=some (.obj (rcd .done (some (.exit id))) U)∧E (.exit id) h nx)
  (fun i h nx hj=>hbI i h nx hj.1) (fun i h nx nx' hj hle=>⟨hnI i h nx nx' hj.1 hle,hj.2⟩)
  (fun h nx nx' hD hle=>hD.imp (fun hD=>⟨hD.1,hnE _ _ _ _ hD.2 hle⟩) (fun⟨id,hD⟩=>⟨id,hD.1,hnE _ _ _ _ hD.2 hle⟩)) ?_ _ (s.nx+1) ⟨hsI _ _ _ _ h0,aAO _ _⟩ ?_).dom).mono ?_
 ·rintro i hi h nx ⟨hI,hr⟩ aBG;refine hY xs[i] h nx _ (hlen _ (List.getElem_mem _)) hr ?_;refine kM ?_ (aBe i hi h nx _ hI (aBG _ _ hr) hr aBG);intro e s1 hq;cases e with
  |exit id=>exact hq.elim
  |ret=>exact hq.elim
  |normal=>
   refine⟨hq.1,kM ?_ (hq.2 (.obj (rcd .busy none) U))⟩;intro e s2 hq2;cases e with
   |normal=>exact⟨hq2.1, .inl ⟨rfl,hsI _ _ _ _ hq2.2,aAO _ _⟩⟩
   |ret=>exact⟨hq2.1, .inr ⟨rfl, .inl ⟨aAO _ _,hsE _ _ _ _ hq2.2⟩⟩⟩
   |exit id=>exact⟨hq2.1, .inr ⟨rfl, .inr ⟨id,aAO _ _,hsE _ _ _ _ hq2.2⟩⟩⟩
 ·intro m b hm;unfold Hp.set at hm;split at hm
  ·omega
  have:=hd m b hm;omega
 rintro v h' nx' _ ⟨(⟨hI,hr⟩|(⟨hr,hE⟩|⟨id,hr,hE⟩)),aBG,hle⟩
 ·exact .inl ⟨hr,aCJ _ _ hI or aBG⟩
 ·exact .inr (.inl ⟨hr,hex _ _ _ hE or aBG (.inl rfl)⟩)
 exact .inr (.inr ⟨id,hr,hex _ _ _ hE or aBG (.inr ⟨id,rfl⟩)⟩)
def bK{ι:Type}(sl:ι→List V)(C:ι→Hp→Nat→Prop)(m:ι→Nat)(n:Nat)(Q:bJ→St→Prop):bJ→St→Prop
 | .normal,s=>∃s',tA s s'∧∃i,m i<n∧WkL s'.sl (sl i)∧C i s'.h s'.nx
 |e,s=>Q e s
section
variable{P:Program}{Q:bJ→St→Prop}{s:St}{ι:Type}{sl:ι→List V}{C:ι→Hp→Nat→Prop}{m:ι→Nat}{n:Nat}
theorem aG{sl0:List V}{h:Hp}{nx:Nat}(i:ι)(hm:m i<n)(hC:C i h nx)(hw:WkL sl0 (sl i)):bK sl C m n Q .normal ⟨sl0,h,nx⟩:=⟨_,(Wk.refl _).tell,i,hm,hw,hC⟩
theorem iL{id:Nat}(h:Q (.exit id) s):bK sl C m n Q (.exit id) s:=h
theorem gV(h:Q .ret s):bK sl C m n Q .ret s:=h
theorem aS{c:aU}(sl:ι→List V)(C:ι→Hp→Nat→Prop)(m:ι→Nat)(i0:ι)(h0:C i0 s.h s.nx)(hw:WkL s.sl (sl i0))(hr:∀i h nx,C i h nx→lwp P c (bK sl C m (m i) Q) ⟨sl i,h,nx⟩):lwp P (.loop c) Q s:=by
 refine sA (fun p:ι×Hp×Nat=>C p.1 p.2.1 p.2.2) (fun p=>⟨sl p.1,p.2.1,p.2.2⟩) (fun p=>m p.1) (i0,s.h,s.nx) h0 ⟨hw,Hp.le_refl _,Ku _⟩ ?_;rintro⟨i,h,nx⟩ hC;refine kM ?_ (hr i h nx hC);intro e s' hq;cases e with
 |normal=>
  obtain⟨s2,h0,j,h1,h2,h3⟩:=hq;exact⟨(j,s2.h,s2.nx),h3,h1,h0.trans (Wk.tell ⟨h2,Hp.le_refl _,Ku _⟩)⟩
 |exit id=>exact hq
 |ret=>exact hq
end
theorem aW.aMT{h:Hp}{nx n:Nat}(hd:aW h nx)(hn:n<nx)(b:Blk):aW (h.set n b) nx:=hd.set hn (Ku _) b
def aA.plain(o:aA):Bool:=match o.g with
 |none=> !o.op.aAV
 |some _=>false
def sK:List aA→List aA
 | []=>[]
 |o::r=>match o.plain with
  |true=>o::sK r
  |false=>[]
def qV:List aA→List aA
 | []=>[]
 |o::r=>match o.plain with
  |true=>qV r
  |false=>o::r
theorem tk{P:Program}{Q:St→Prop}:∀(l:List aA) (s:St),oH (sK l) s→aT P (qV l) Q (gL (sK l) s)→aT P l Q s
 | [],s,_,h=>h
 |o::r,s,ho,h=>by
  cases hc:o.plain with
  |false=>simp only[sK,qV,hc] at ho h;exact h
  |true=>
   simp only[sK,qV,hc] at ho h;have aCt:o.op.aAV=false:=by
    unfold aA.plain at hc;split at hc
    ·simpa using hc
    cases hc
   exact pL aCt ho.1 (tk r _ ho.2 h)
theorem lz{P:Program}{Q:St→Prop}{s:St}:aT P [] Q s=Q s:=rfl
theorem bM{P:Program}{Q:St→Prop}{s:St}(h:Q s):aT P [] Q s:=h
theorem bT{P:Program}{Q:St→Prop}{o:aA}{r:List aA}{s:St}(_:o.plain=true)(ho:oH (sK (o::r)) s)(h:aT P (qV (o::r)) Q (gL (sK (o::r)) s)):aT P (o::r) Q s:=tk _ s ho h
theorem fT{P:Program}{Q:St→Prop}{s:St}{dst:Option Nat}{k:Sh}{bs:Nat}{x y:aI}{r:List aA}{ys:List V}(hx:x.ev s.sl= .sl k .nil [])(hy:dA s.h (y.ev s.sl)=some (k,ys))(hne:ys≠ [])(hb:ys.length*bs≤140737488355328)
 (h:aT P r Q ⟨bF s.sl dst (.rs s.nx k 0 ys.length),s.h.set s.nx (.arr k ys),s.nx+1⟩):aT P (⟨dst,none, .append k bs x y⟩::r) Q s:=by
 unfold aT;simp only[LOp.run,LOp.sem,hy,hx];exact⟨trivial,trivial,by simpa using hb, .inr ⟨trivial,trivial,hne,h⟩⟩
theorem wC{P:Program}{Q:St→Prop}{s:St}{dst:Option Nat}{k:Sh}{bs n len:Nat}{x y:aI}{r:List aA}{es ys:List V}(hx:x.ev s.sl= .rs n k 0 len)(hn:s.h n=some (.arr k es))(hl:len≤es.length)(hy:dA s.h (y.ev s.sl)=some (k,ys))(hne:ys≠ [])(hb:(len+ys.length)*bs≤140737488355328)
 (h:aT P r Q ⟨bF s.sl dst (.rs s.nx k 0 (len+ys.length)),(s.h.del n).set s.nx (.arr k (es.take len++ys)),s.nx+1⟩):aT P (⟨dst,none, .append k bs x y⟩::r) Q s:=by
 unfold aT;simp only[LOp.run,LOp.sem,hy,hx,hn];exact⟨trivial,trivial, .inr ⟨trivial,trivial,hl,hne,hb,h⟩⟩
theorem pU{P:Program}{Q:St→Prop}{s:St}{dst:Option Nat}{k kb:Sh}{bs n off len:Nat}{x y:aI}{r:List aA}{es:List V}(hx:x.ev s.sl= .rs n k off len)(hn:s.h n=some (.arr kb es))(hy:dA s.h (y.ev s.sl)=some (k,[]))
 (h:aT P r Q ⟨bF s.sl dst (.rs n k off len),s.h,s.nx+1⟩):aT P (⟨dst,none, .append k bs x y⟩::r) Q s:=by
 unfold aT;simp only[LOp.run,LOp.sem,hy,hx,hn];exact⟨trivial,trivial, .inl ⟨trivial,h⟩⟩
theorem pS{a b:Nat}(h:a≤1000000000)(h':b≤140737):a*b≤140737488355328:=Nat.le_trans (Nat.mul_le_mul h h') ZM
def LOp.aBd:LOp→Bool
 | .call _ _=>true
 | .callv _ _=>true
 | .callw _ _ _=>true
 | .store _ _ _=>true
 |_=>false
def aA.aBk(o:aA):Bool:=match o.g with
 |none=> !o.op.aBd
 |some _=>false
def mA:List (aA×List Nat)→List (aA×List Nat)
 | []=>[]
 |o::r=>match o.1.aBk with
  |true=>o::mA r
  |false=>[]
def nI:List (aA×List Nat)→List (aA×List Nat)
 | []=>[]
 |o::r=>match o.1.aBk with
  |true=>nI r
  |false=>o::r
def Ap:List (aA×List Nat)→List (aA×List Nat)
 | []=>[]
 |o::r=>match o.1.op.aBd with
  |true=>[]
  |false=>o::Ap r
def oV:List (aA×List Nat)→List (aA×List Nat)
 | []=>[]
 |o::r=>match o.1.op.aBd with
  |true=>o::r
  |false=>oV r
theorem nm:∀l:List (aA×List Nat),Ap l++oV l=l
 | []=>rfl
 |o::r=>by
  unfold Ap oV;split
  ·rfl
  rw[Kk,nm r]
theorem zQ:∀l:List (aA×List Nat),mA l++nI l=l
 | []=>rfl
 |o::r=>by
  unfold mA nI;split
  ·rw[Kk,zQ r]
  rfl
theorem kU{P:Program}{h0:Hp}{nx0:Nat}{Q:List V→List (Option Blk)→List (Option Con)→Prop}{o:aA×List Nat}{r:List (aA×List Nat)}{sl:List V}{aAL:List (Option Blk)}{cons:List (Option Con)}(_:o.1.aBk=true)(ho:tY h0 nx0 (mA (o::r)) ⟨sl,aAL,cons⟩)
 (h:dE P h0 nx0 (nI (o::r)) (fR h0 nx0 (mA (o::r)) ⟨sl,aAL,cons⟩).sl (fR h0 nx0 (mA (o::r)) ⟨sl,aAL,cons⟩).aAL (fR h0 nx0 (mA (o::r)) ⟨sl,aAL,cons⟩).cons Q):dE P h0 nx0 (o::r) sl aAL cons Q:=by
 have:=nk (P:=P) (Q:=Q) (r:=nI (o::r)) (mA (o::r)) ⟨sl,aAL,cons⟩ ho h;rwa [zQ] at this
theorem eC(k:Sh):bU k k 0:=by cases k<;>simp[bU]
theorem bC{k:Sh}{v:V}(h:v.fits k=true):aX k 0 v=v:=by
 cases k with
 |leaf=>cases v<;>first|rfl|(simp[Kc,Ka] at h)
 |agg m=>
  cases v with
  |agg cs=>
   simp only[Kc,Km,decide_eq_true_eq] at h;simp[aX,V.cells,h.1]
  |_=>simp[Kc] at h
theorem dg(o:Nat):bU .leaf .leaf o=(o=0):=rfl
theorem dh(n o:Nat):bU (.agg n) .leaf o=(o<n):=rfl
theorem di(n m o:Nat):bU (.agg n) (.agg m) o=(o+m≤n):=rfl
theorem yN(o:Nat)(v:V):aX .leaf o v=v.cell o:=rfl
theorem yO(m o:Nat)(cs:List V):aX (.agg m) o (.agg cs)=if o=0∧cs.length=m then .agg cs else .agg ((cs.drop o).take m):=rfl
theorem rJ(o:Nat)(cs:List V)(v:V):bP .leaf o (.agg cs) v= .agg (cs.set o v):=rfl
theorem rK(m o:Nat)(cs:List V)(v:V):bP (.agg m) o (.agg cs) v=if o=0∧cs.length=m then v else .agg (cs.take o++v.cells++cs.drop (o+m)):=rfl
theorem pc(n:Nat)(ks:List LK)(xs ys:List V):veq (.plain (.agg n) ks) (.agg xs) (.agg ys)=if ((V.agg xs).fits (.agg n)&&(V.agg ys).fits (.agg n))=true then fL ks xs ys else none:=rfl
theorem yb(ks:List LK)(k k':IntKind)(a b:Int):veq (.plain .leaf ks) (.int k a) (.int k' b)=fL ks [.int k a] [.int k' b]:=rfl
theorem yc(ks:List LK)(a b:Bool):veq (.plain .leaf ks) (.bool a) (.bool b)=fL ks [.bool a] [.bool b]:=rfl
theorem ya(ks:List LK)(a b:ByteArray):veq (.plain .leaf ks) (.str a) (.str b)=fL ks [.str a] [.str b]:=rfl
theorem fm(cs:List V):(V.agg cs).cells=cs:=rfl
theorem zW{v:V}(h:v.aAE=true):v.cells=[v]:=by cases v<;>first|rfl|(simp[Ka] at h)
theorem nw(cs:List V)(j:Nat):(V.agg cs).cell j=cs.getD j Kb:=rfl
theorem jY{v:V}(h:v.aAE=true):v.cell 0=v:=by cases v<;>first|rfl|(simp[Ka] at h)
theorem jj:veq .ptr .nilPtr .nilPtr=some true:=rfl
theorem ji(n:Nat)(k:Sh)(i o:Nat):veq .ptr .nilPtr (.ptr n k i o)=some false:=rfl
theorem jh(n:Nat)(k:Sh)(i o:Nat):veq .ptr (.ptr n k i o) .nilPtr=some false:=rfl
theorem jg(k:Sh)(es:List V)(i o:Nat):veq .ptr .nilPtr (.ept k es i o)=some false:=rfl
theorem jf(k:Sh)(es:List V)(i o:Nat):veq .ptr (.ept k es i o) .nilPtr=some false:=rfl
theorem wY(k k':Sh)(o:Own)(es es':List V):veq .slice (.sl k o es) (.sl k' .nil es')=some (o== .nil):=rfl
theorem wX(n:Nat)(k k':Sh)(o l:Nat)(es':List V):veq .slice (.rs n k o l) (.sl k' .nil es')=some false:=rfl
theorem bw:veq .func .aAW .aAW=some true:=rfl
theorem bv(f:Fn)(a b:List V):veq .func .aAW (.fn f a b)=some false:=rfl
theorem bu(f:Fn)(a b:List V):veq .func (.fn f a b) .aAW=some false:=rfl
theorem xB:veq (.iface true) .nilIface .nilIface=some true:=rfl
theorem xA(c:Bool)(t:Nat)(v:V):veq (.iface c) .nilIface (.iface t v)=some false:=by cases c<;>rfl
theorem wZ(c:Bool)(t:Nat)(v:V):veq (.iface c) (.iface t v) .nilIface=some false:=by cases c<;>rfl
theorem jm:veq .map .aAH .aAH=some true:=rfl
theorem jl(n:Nat):veq .map .aAH (.map n)=some false:=rfl
theorem jk(n:Nat):veq .map (.map n) .aAH=some false:=rfl
theorem b8:veq .chan .aAM .aAM=some true:=rfl
theorem bz(n:Nat):veq .chan .aAM (.chan n)=some false:=rfl
theorem bx(n:Nat):veq .chan (.chan n) .aAM=some false:=rfl
theorem my(n:Nat)(cs:List V):Kc (.agg n) (.agg cs)=(decide (cs.length=n)&&cs.all Ka):=by simp only[Kc]
theorem yU(b:Bool):Ka (.bool b)=true:=by simp only[Ka]
theorem eu(k:IntKind)(n:Int):Ka (.int k n)=true:=by simp only[Ka]
theorem ef(s:ByteArray):Ka (.str s)=true:=by simp only[Ka]
theorem sD:Ka (.nilPtr)=true:=by simp only[Ka]
theorem ei(n:Nat)(k:Sh)(i o:Nat):Ka (.ptr n k i o)=true:=by simp only[Ka]
theorem ew(k:Sh)(es:List V)(i o:Nat):Ka (.ept k es i o)=true:=by simp only[Ka]
theorem mb(k:Sh)(own:Own)(es:List V):Ka (.sl k own es)=true:=by simp only[Ka]
theorem mc(n:Nat)(k:Sh)(off len:Nat):Ka (.rs n k off len)=true:=by simp only[Ka]
theorem sE:Ka (.aAH)=true:=by simp only[Ka]
theorem ep(n:Nat):Ka (.map n)=true:=by simp only[Ka]
theorem qD:Ka (.aAM)=true:=by simp only[Ka]
theorem yT(n:Nat):Ka (.chan n)=true:=by simp only[Ka]
theorem mf(f:Fn)(a b:List V):Ka (.fn f a b)=true:=by simp only[Ka]
theorem vL:Ka (.aAW)=true:=by simp only[Ka]
theorem ed(n:Nat):Ka (.yld n)=true:=by simp only[Ka]
theorem vM(t:Nat)(v:V):Ka (.iface t v)=true:=by simp only[Ka]
theorem oM:Ka (.nilIface)=true:=by simp only[Ka]
theorem mO(v:V):v.fits .leaf=v.aAE:=by cases v<;>rfl
theorem eU{k:Sh}{e v:V}(he:e.fits k=true)(hv:v.fits k=true):bP k 0 e v=v:=by
 cases k with
 |leaf=>cases e<;>first|rfl|(simp[Kc,Ka] at he)
 |agg m=>
  cases e with
  |agg cs=>
   simp only[Kc,Km,decide_eq_true_eq] at he;simp[bP,he.1]
  |_=>simp[Kc] at he
def V.gd(c:Bool)(v:V):V:=if c=true then v else Kb
theorem V.aCv(v:V):V.gd true v=v:=rfl
theorem V.aCC(v:V):V.gd false v=Kb:=rfl
theorem s6(c:Bool)(x y:V):Kd c (V.gd c x) y=Kd c x y:=by cases c<;>simp[V.gd,mI,kI]
theorem kv(c:Bool)(x y:V):Kd c x (V.gd (!c) y)=Kd c x y:=by cases c<;>simp[V.gd,mI,kI]
theorem kw(t x:Bool):Kd t (.bool x) (.bool false)= .bool (t&&x):=by cases t<;>rfl
theorem s5(t y:Bool):Kd t (.bool true) (.bool y)= .bool (t||y):=by cases t<;>rfl
def BX(g:Option (Nat×Bool)):List aA→List aA
 | []=>[]
 |o::r=>if o.g=g then o::BX g r else []
def Ae(g:Option (Nat×Bool)):List aA→List aA
 | []=>[]
 |o::r=>if o.g=g then Ae g r else o::r
def Cp(l:List aA):List aA:=l.map fun o=>⟨o.dst,none,o.op⟩
def ra(c:Bool)(sl':List V):List aA→List V→List V
 | [],sl=>sl
 |o::r,sl=>ra c sl' r (match o.dst with|some d=>sl.set d (V.gd c (sl'.getD d Kb))|none=>sl)
theorem w7{K:Ker}{h:Hp}(hr:Rel K h){n a:Nat}{k:Sh}{es:List V}{i o:Nat}{cv:Value}(hn:h n=some (.arr k es))(ha:¬K.live a)(hv:VR K (.ptr n k i o) cv):
 ∃K',K'.w=K.w∧K.le K'∧(∀m,K'.live m→K.live m∨m=a)∧VR K' (.ept k es i o) cv∧Rel K' (h.del n):=by
 have hb:=hr.blk n _ hn;cases hb with
 |arr _ _ c T hh hcs aAr aAK hcv=>
  cases hv with
  |ptr _ _ _ _ hl=>
   have hblk:K.mu n<K.w.heap.size:=by
    rcases Ks (K.mu n) K.w.heap.size with hlt|hge
    ·exact hlt
    rw[Kp hge] at hh;exact absurd hh Zm
   have hle:K.le (K.aAG a (K.mu n) (es.length*k.size)):=K.aAR ha (by rw[aAr];exact Kq _);have hmu:(K.aAG a (K.mu n) (es.length*k.size)).mu a=K.mu n:=by simp[Ker.aAG]
   have hrel:=hr.aAG hn (a:=a) (m:=es.length*k.size) ha (by rw[aAr];exact Kq _) (b1:= .tip) (.tip c T (by rw[hmu];exact hh) (by simp[Ker.aAG]) (by simp only[Ker.aAG,if_true];exact hcs));refine⟨K.aAG a (K.mu n) (es.length*k.size),rfl,hle,fun m hm=>hm.symm,?_,hrel.weaken ?_⟩
   ·have:=VR.ept (K:=K.aAG a (K.mu n) (es.length*k.size)) k es i o (K.mu n) 0 (fun j=>c.getD j Kv) hblk aAK
     (fun j hj=>by
       show K.w.cell? _=_;simp only[Kw,hh,Kt];rw[Kf,Ki or];rfl)
     (fun j hj=> .inr (by simp only[Ker.aAG,if_true];omega))
     (fun i hi j hj=>(hcv i hi j hj).mono hle)
    simpa using this
   intro m b e;unfold Hp.del at e;split at e
   ·cases e
   rename_i hm;have hma:m≠a:=fun e2=>ha (e2▸hr.lt m b e);unfold Hp.set Hp.del;rw[if_neg hma,if_neg hm];exact e
def V.loose:V→V
 | .sl k .nil es=> .sl k .nil es
 | .sl k _ es=> .sl k .free es
 | .agg cs=> .agg (cs.map fun c=>match c with
  | .sl k .nil es=> .sl k .nil es
  | .sl k _ es=> .sl k .free es
  |v=>v)
 |v=>v
theorem VR.loose{K:Ker}{v:V}{cv:Value}(r:VR K v cv):VR K v.loose cv:=by
 have one:∀{k:Sh} {own:Own} {es:List V} {cv:Value},VR K (.sl k own es) cv→VR K (match V.sl k own es with| .sl k .nil es=> .sl k .nil es| .sl k _ es=> .sl k .free es|v=>v) cv:=by
  intro k own es cv r;cases own with
  |nil=>exact r
  |full=>exact r.free Zm
  |tok n=>exact r.free Zm
  |free=>exact r.free Zm
 cases v with
 |sl k own es=>cases own<;>first|exact r|exact r.free Zm
 |agg cs=>
  cases r with
  |agg _ ccs hl hv=>
   refine .agg _ ccs (by simpa using hl) fun i hi=>?_;have hi':i<cs.length:=by simpa using hi
   have:=hv i hi';simp only[Kh,List.getElem?_map,Kj hi',Option.map_some,Ko] at this⊢;generalize cs[i]=c at this⊢;cases c<;>first|exact this|exact one this
 |_=>exact r
theorem ah{P:Program}{f:FuncId}{args:List V}{h:Hp}{nx:Nat}{g:Fn}{v0:V}
 (c:aQ P f args h nx fun v h' _=>∃n,nx≤n∧v= .fn g [] [.ptr n .leaf 0 0]∧h'=h.set n (.arr .leaf [v0])):
 aQ P f args h nx fun v h' _=>v= .fn g [] [.ept .leaf [v0.loose] 0 0]∧h'=h:=by
 refine⟨c.1,fun K cargs hl hr hv=>(c.2 K cargs hl hr hv).mono ?_⟩;rintro e w' ⟨K',v,cv,h',nx',rfl,he,hle,hvr,hrel,hlv,hnx,n,hn,rfl,rfl⟩;have hfr:¬K'.live nx':=fun hh=>Nat.lt_irrefl _ (hlv nx' hh).1;have aAO:(h.set n (.arr .leaf [v0])) n=some (.arr .leaf [v0]):=by simp[Hp.set]
 cases hvr with
 |fn _ _ _ cf cc h1 h2 v1 v2=>
 have vp:=v2 0 Zm;simp only[Ke] at vp;obtain⟨K'',q1,q2,q3,q4,q5⟩:=w7 hrel aAO hfr vp;have aBG:h n=none:=by
  cases hd:h n with
  |none=>rfl
  |some b=>exact absurd (hl n (hr.lt n b hd)) or
 have hh:(h.set n (.arr .leaf [v0])).del n=h:=by
  funext x;unfold Hp.set Hp.del;by_cases e2:x=n
  ·subst e2;simp[aBG]
  simp[e2]
 rw[hh] at q5;have q4':VR K'' (.ept .leaf [v0.loose] 0 0) (cc.getD 0 Kv):=by
  generalize cc.getD 0 Kv=x at q4⊢;cases q4 with
  |ept _ _ _ _ b off f hb aAK hcell hst hvv=>
   have aBU:v0.aAE=true:=by simpa [Kc] using aAK v0 Zm
   have hll:v0.loose.aAE=true:=by
    cases v0<;>first|rfl|(simp[Ka] at aBU)|skip
    rename_i own es;cases own<;>rfl
   have hc1:∀v:V,v.aAE=true→v.cell 0=v:=fun v hv=>by cases v<;>first|rfl|(simp[Ka] at hv)
   refine .ept _ _ _ _ b off f hb (by simpa [Kc] using hll) hcell hst ?_;intro i hi j hj;have hi0:i=0:=by simpa using hi
   have hj0:j=0:=by simpa [Sh.size] using hj
   subst hi0 hj0;have:=hvv 0 Zm 0 (by simp[Sh.size]);simp only[Ke,hc1 _ aBU,hc1 _ hll] at this⊢;exact this.loose
 refine⟨K'',_,_,h,nx'+1,q1,he,hle.trans q2, .fn g [] [.ept .leaf [v0.loose] 0 0] cf cc h1 h2 (fun i hi=>absurd hi Zm) (fun i hi=>?_),q5,fun m hm=>?_,or,rfl,rfl⟩
 ·have hi0:i=0:=by simpa using hi
  subst hi0;exact q4'
 rcases q3 m hm with hm|rfl
 ·exact⟨by have:=(hlv m hm).1;omega,(hlv m hm).2⟩
 exact⟨or, .inr hnx⟩
section
variable{P:Program}{h0:Hp}{nx0:Nat}
theorem kR{tl:List aA}{n:Nat}{Q:bJ→St→Prop}{s:St}{sl:List V}{aAL:List (Option Blk)}{cons:List (Option Con)}(h:aT P tl (Q .normal) ⟨sl,wV (nR s.h s.nx aAL) cons,s.nx+n⟩):An P tl n Q s sl aAL cons:=h
abbrev DL:=List (aA×List Nat)
def B0(g:Option (Nat×Bool)):DL→DL
 | []=>[]
 |o::r=>if o.1.g=g then o::B0 g r else []
def As(g:Option (Nat×Bool)):DL→DL
 | []=>[]
 |o::r=>if o.1.g=g then As g r else o::r
def BA(l:DL):DL:=l.map fun o=>(⟨o.1.dst,none,o.1.op⟩,o.2)
def ry(c:Bool)(sl':List V):DL→List V→List V
 | [],sl=>sl
 |o::r,sl=>ry c sl' r (match o.1.dst with|some d=>sl.set d (V.gd c (sl'.getD d Kb))|none=>sl)
def y0{α:Type}:DL→List (Option α)
 | []=>[]
 |_::r=>none::y0 r
end
theorem CG{a j k:Nat}:a+(j+1)+(k+1)=a+(j+k+2):=or
theorem rP{sl:List V}{t:Nat}{v:V}(h:sl.getD t Kb=v):sl.set t v=sl:=by
 rcases Ks t sl.length with ht|ht
 ·rw[Kh,Kj ht] at h;simp only[Ko] at h;rw[←h];exact List.set_getElem_self ht
 exact List.set_eq_of_length_le ht
section
variable{P:Program}{r:List aA}{Qs:St→Prop}{s:St}{dst:Option Nat}
theorem yL{t:Nat}{want b:Bool}{op:LOp}(hb:s.sl.getD t Kb= .bool b)
 (h1:b=want→aT P (⟨dst,none,op⟩::r) Qs ⟨s.sl.set t (.bool want),s.h,s.nx⟩) (h2:b= !want→aT P r Qs ⟨bF (s.sl.set t (.bool !want)) dst Kb,s.h,s.nx⟩):
 aT P (⟨dst,some (t,want),op⟩::r) Qs s:=by
 refine qn hb (fun e=>?_) (fun e=>?_)
 ·have:=h1 e;rw[←e,rP hb] at this;exact this
 have e':b= !want:=by cases b<;>cases want<;>simp at e⊢
 have:=h2 e';rw[←e',rP hb] at this;exact this
end
section
variable{P:Program}{h0:Hp}{nx0:Nat}{Q:List V→List (Option Blk)→List (Option Con)→Prop}{sl:List V}{aAL:List (Option Blk)}{cons:List (Option Con)}{r:List (aA×List Nat)}{dst:Option Nat}{aAF:List Nat}
theorem zP{t:Nat}{want b:Bool}{op:LOp}(hb:sl.getD t Kb= .bool b)(h1:b=want→dE P h0 nx0 ((⟨dst,none,op⟩,aAF)::r) (sl.set t (.bool want)) aAL cons Q)
 (h2:b= !want→dE P h0 nx0 r (bF (sl.set t (.bool !want)) dst Kb) (aAL++[none]) (cons++[none]) Q):dE P h0 nx0 ((⟨dst,some (t,want),op⟩,aAF)::r) sl aAL cons Q:=by
 refine rq hb (fun e=>?_) (fun e=>?_)
 ·have:=h1 e;rw[←e,rP hb] at this;exact this
 have e':b= !want:=by cases b<;>cases want<;>simp at e⊢
 have:=h2 e';rw[←e',rP hb] at this;exact this
end
section
variable{P:Program}{h0:Hp}{nx0:Nat}{Q:List V→List (Option Blk)→List (Option Con)→Prop}{sl:List V}{aAL:List (Option Blk)}{cons:List (Option Con)}{r:List (aA×List Nat)}{dst:Option Nat}{aAF:List Nat}{t:Nat}{op:LOp}
end
theorem zO{P:Program}{h0:Hp}{nx0:Nat}{Q:List V→List (Option Blk)→List (Option Con)→Prop}{sl:List V}{aAL:List (Option Blk)}{cons:List (Option Con)}{r:List (aA×List Nat)}{dst:Option Nat}{aAF:List Nat}{t:Sh}{x v:aI}{j i o:Nat}{k:Sh}{es:List V}
 (hx:x.ev sl= .ptr (nx0+j) k i o) (ha:aAL.getD j none=some (.arr k es)) (hd:j∈aAF) (hu:dD (nx0+j) cons) (hi:i<es.length) (hp:bU k t o) (hf:(v.ev sl).fits t=true)
 (h:dE P h0 nx0 r (bF sl dst Kb) (aAL++[none]) (cons++[some ⟨nx0+j, .arr k es,some (.arr k (es.set i (bP t o (es.getD i Kb) (v.ev sl))))⟩]) Q):dE P h0 nx0 ((⟨dst,none, .store t x v⟩,aAF)::r) sl aAL cons Q:=
 rp hx (by rw[pR];exact⟨hu,hd,ha⟩) hi hp hf h
def qJ(b:Bool)(A B:Prop):Prop:=(b=true→A)∧(b=false→B)
theorem Bk{A B:Prop}(h:A):qJ true A B:=⟨(fun _=>h),(fun h=>by cases h)⟩
theorem Bl{A B:Prop}(h:B):qJ false A B:=⟨(fun h=>by cases h),(fun _=>h)⟩
theorem sT{b:Bool}{A B:Prop}(h1:b=true→A)(h2:b=false→B):qJ b A B:=⟨h1,h2⟩
theorem nJ{P:Program}{c:aI}{a b:aU}{Q:bJ→St→Prop}{s:St}(h:lwp P (.cond c a b) Q s):lwp P (.cond c a b) Q s:=h
theorem nG{P:Program}{n:Nat}{hd:List (aA×List Nat)}{tl:List aA}{Q:bJ→St→Prop}{s:St}(h:lwp P (.draw n hd tl) Q s):lwp P (.draw n hd tl) Q s:=h
theorem nC{P:Program}{o:aA}{r:List aA}{Q:St→Prop}{s:St}(h:aT P (o::r) Q s):aT P (o::r) Q s:=h
theorem nH{P:Program}{h0:Hp}{nx0:Nat}{Q:List V→List (Option Blk)→List (Option Con)→Prop}{sl:List V}{aAL:List (Option Blk)}{cons:List (Option Con)}{l:List (aA×List Nat)}(h:dE P h0 nx0 l sl aAL cons Q):dE P h0 nx0 l sl aAL cons Q:=h
theorem gY{P:Program}{c:aI}{a b:aU}{Q:bJ→St→Prop}{s:St}{t:Bool}(hc:c.ev s.sl= .bool t)(h:qJ t (lwp P a Q s) (lwp P b Q s)):lwp P (.cond c a b) Q s:=cQ t hc h.1 h.2
theorem eZ{P:Program}{r:List aA}{Qs:St→Prop}{s:St}{dst:Option Nat}{t:Nat}{b:Bool}{op:LOp}(hb:s.sl.getD t Kb= .bool b)
 (h:qJ b (aT P (⟨dst,none,op⟩::r) Qs ⟨s.sl.set t (.bool true),s.h,s.nx⟩) (aT P r Qs ⟨bF (s.sl.set t (.bool false)) dst Kb,s.h,s.nx⟩)):aT P (⟨dst,some (t,true),op⟩::r) Qs s:=
 yL hb h.1 h.2
theorem fA{P:Program}{r:List aA}{Qs:St→Prop}{s:St}{dst:Option Nat}{t:Nat}{b:Bool}{op:LOp}(hb:s.sl.getD t Kb= .bool b)
 (h:qJ b (aT P r Qs ⟨bF (s.sl.set t (.bool true)) dst Kb,s.h,s.nx⟩) (aT P (⟨dst,none,op⟩::r) Qs ⟨s.sl.set t (.bool false),s.h,s.nx⟩)):aT P (⟨dst,some (t,false),op⟩::r) Qs s:=
 yL hb h.2 h.1
section
variable{P:Program}{h0:Hp}{nx0:Nat}{Q:List V→List (Option Blk)→List (Option Con)→Prop}{sl:List V}{aAL:List (Option Blk)}{cons:List (Option Con)}{r:List (aA×List Nat)}{dst:Option Nat}{aAF:List Nat}{t:Nat}{op:LOp}
theorem fC{b:Bool}(hb:sl.getD t Kb= .bool b)(h:qJ b (dE P h0 nx0 ((⟨dst,none,op⟩,aAF)::r) (sl.set t (.bool true)) aAL cons Q) (dE P h0 nx0 r (bF (sl.set t (.bool false)) dst Kb) (aAL++[none]) (cons++[none]) Q)):
 dE P h0 nx0 ((⟨dst,some (t,true),op⟩,aAF)::r) sl aAL cons Q:=zP hb h.1 h.2
theorem fD{b:Bool}(hb:sl.getD t Kb= .bool b)(h:qJ b (dE P h0 nx0 r (bF (sl.set t (.bool true)) dst Kb) (aAL++[none]) (cons++[none]) Q) (dE P h0 nx0 ((⟨dst,none,op⟩,aAF)::r) (sl.set t (.bool false)) aAL cons Q)):
 dE P h0 nx0 ((⟨dst,some (t,false),op⟩,aAF)::r) sl aAL cons Q:=zP hb h.2 h.1
end
theorem bI{t u:Nat}{k:Sh}{R:V→Hp→Nat→Prop}{s:St}(ho:(aR.load k (.slot t)).ok s.sl s.h)(h':Hp)(hle:h'.le s.h)(hR:R (.tup [(aR.load k (.slot t)).out s.sl s.h,s.sl.getD u Kb]) h' s.nx):rU [.cell t k, .slot u] R .ret s:=by
 have:=aR.aAY (R:=fun v=>∃h',h'.le s.h∧R (gI [v,s.sl.getD u Kb]) h' s.nx) ho ⟨h',hle,by generalize (aR.load k (.slot t)).out s.sl s.h=x at hR;exact hR⟩;exact this
def Acc(h:Hp)(n0:Nat)(o:Own)(es:List V):Prop:=(es=[]∧o= .nil)∨(es≠ []∧∃id,n0≤id∧o= .tok id∧h id=some .tip)
def AJ(h:Hp)(n0:Nat)(o:Own):Prop:=∃id,n0≤id∧o= .tok id∧h id=some .tip
def Hp.aBY(h:Hp):Own→Hp
 | .tok n=>h.del n
 |_=>h
theorem Ar(h:Hp):h.aBY .nil=h:=rfl
theorem Aq(h:Hp)(n:Nat):h.aBY (.tok n)=h.del n:=rfl
def Hp.same(n0:Nat)(h h':Hp):Prop:=∀m,m<n0→h' m=h m
theorem Hp.same.aBb{n0:Nat}{h:Hp}:Hp.same n0 h h:=fun _ _=>rfl
theorem j4{n0 n:Nat}{h h':Hp}(s:Hp.same n0 h h')(hn:n0≤n)(b:Blk):Hp.same n0 h (h'.set n b):=fun m hm=>by
 unfold Hp.set;rw[if_neg or];exact s m hm
theorem xO{n0 n:Nat}{h h':Hp}(s:Hp.same n0 h h')(hn:n0≤n):Hp.same n0 h (h'.del n):=fun m hm=>by
 unfold Hp.del;rw[if_neg or];exact s m hm
theorem uy{n0:Nat}{h h':Hp}{o:Own}(s:Hp.same n0 h h')(ho:∀id,o= .tok id→n0≤id):Hp.same n0 h (h'.aBY o):=by
 cases o with
 |tok id=>exact xO s (ho id rfl)
 |_=>exact s
theorem Acc.ge{h:Hp}{n0:Nat}{o:Own}{es:List V}(a:Acc h n0 o es)(id:Nat)(e:o= .tok id):n0≤id:=by
 rcases a with⟨_,rfl⟩|⟨_,id',hge,rfl,_⟩
 ·cases e
 injection e with e;omega
theorem Hp.same.le{n0:Nat}{h h':Hp}(s:Hp.same n0 h h'){h0:Hp}(hd:aW h0 n0)(hle:h0.le h):h0.le h':=fun m b e=>by rw[s m (hd m b e)];exact hle m b e
theorem aW.aBY{h:Hp}{nx:Nat}(hd:aW h nx)(o:Own):aW (h.aBY o) nx:=by
 cases o<;>first|exact hd|exact hd.del
theorem wR{h:Hp}{o:Own}{m:Nat}(hn:∀id,o= .tok id→m≠id):h.aBY o m=h m:=by
 cases o with
 |tok id=>show(h.del id) m=h m;unfold Hp.del;rw[if_neg (hn id rfl)]
 |_=>rfl
theorem Acc.set{h:Hp}{n0 n:Nat}{o:Own}{es:List V}(a:Acc h n0 o es)(hn:h n≠some .tip)(b:Blk):Acc (h.set n b) n0 o es:=by
 rcases a with⟨e,eo⟩|⟨e,id,hge,eo,ht⟩
 ·exact .inl ⟨e,eo⟩
 refine .inr ⟨e,id,hge,eo,?_⟩;unfold Hp.set;rw[if_neg (fun e2=>hn (by rw[←e2];exact ht))];exact ht
theorem Acc.del{h:Hp}{n0 n:Nat}{o:Own}{es:List V}(a:Acc h n0 o es)(hn:o≠ .tok n):Acc (h.del n) n0 o es:=by
 rcases a with⟨e,eo⟩|⟨e,id,hge,eo,ht⟩
 ·exact .inl ⟨e,eo⟩
 refine .inr ⟨e,id,hge,eo,?_⟩;unfold Hp.del;rw[if_neg (fun e=>hn (by rw[eo,e]))];exact ht
theorem Acc.aBY{h:Hp}{n0:Nat}{o o':Own}{es:List V}(a:Acc h n0 o es)(hn:∀id,o'= .tok id→o≠ .tok id):Acc (h.aBY o') n0 o es:=by
 cases o' with
 |tok id=>exact a.del (hn id rfl)
 |_=>exact a
theorem AJ.set{h:Hp}{n0 n:Nat}{o:Own}(a:AJ h n0 o)(hn:h n≠some .tip)(b:Blk):AJ (h.set n b) n0 o:=by
 obtain⟨id,hge,eo,ht⟩:=a;refine⟨id,hge,eo,?_⟩;unfold Hp.set;rw[if_neg (fun e2=>hn (by rw[←e2];exact ht))];exact ht
theorem Acc.up{h:Hp}{n0 n1:Nat}{o:Own}{es:List V}(a:Acc h n1 o es)(hn:n0≤n1):Acc h n0 o es:=by
 rcases a with⟨e,eo⟩|⟨e,id,hge,eo,ht⟩
 ·exact .inl ⟨e,eo⟩
 exact .inr ⟨e,id,or,eo,ht⟩
theorem aW.aS1{h:Hp}{nx n:Nat}(hd:aW h nx)(hn:nx≤n):h n≠some .tip:=fun e=>absurd (hd n _ e) or
theorem yz{h:Hp}{n:Nat}{k:Sh}{es:List V}:h.set n (.arr k es) n≠some .tip:=by unfold Hp.set;rw[if_pos rfl];exact(fun e=>by cases e)
theorem AW{h:Hp}{n:Nat}{k:Sh}{es:List V}(e:h n=some (.arr k es)):h n≠some .tip:=by rw[e];exact(fun e=>by cases e)
theorem yv{h:Hp}{n m:Nat}{b:Blk}(hn:m≠n)(hm:h m≠some .tip):h.set n b m≠some .tip:=by unfold Hp.set;rw[if_neg hn];exact hm
theorem yy{h:Hp}{n m:Nat}(hm:h m≠some .tip):h.del n m≠some .tip:=by unfold Hp.del;split<;>first|exact hm|exact(fun e=>by cases e)
theorem Acc.new{h:Hp}{n0 n:Nat}(es:List V)(hne:es≠ [])(hn:n0≤n):Acc (h.set n .tip) n0 (.tok n) es:= .inr ⟨hne,n,hn,rfl,by unfold Hp.set;rw[if_pos rfl]⟩
theorem Acc.nil{h:Hp}{n0:Nat}:Acc h n0 .nil []:= .inl ⟨rfl,rfl⟩
theorem Acc.loose{h:Hp}{n0:Nat}{o:Own}{k:Sh}{es:List V}(a:Acc h n0 o es):(V.sl k o es).loose=(if es.isEmpty=true then .sl k .nil [] else .sl k .free es):=by
 rcases a with⟨rfl,rfl⟩|⟨hne,id,_,rfl,_⟩
 ·rfl
 cases es with
 |nil=>exact absurd rfl hne
 |cons=>rfl
theorem Acc.ok{h:Hp}{n0:Nat}{o:Own}{es:List V}(a:Acc h n0 o es):oY h o:=by
 rcases a with⟨_,rfl⟩|⟨_,id,_,rfl,ht⟩
 ·trivial
 exact ht
theorem AJ.ok{h:Hp}{n0:Nat}{o:Own}(a:AJ h n0 o):oY h o:=by
 obtain⟨id,_,rfl,ht⟩:=a;exact ht
section
variable{P:Program}{r:List aA}{Qs:St→Prop}{s:St}{dst:Option Nat}
theorem we{k:Sh}{bs:Nat}{x y:aI}{o:Own}{es ys:List V}(hx:x.ev s.sl= .sl k o es)(ha:oY s.h o)(hy:dA s.h (y.ev s.sl)=some (k,ys))(hne:ys≠ [])(hb:(es.length+ys.length)*bs≤140737488355328)
 (hq:aT P r Qs ⟨bF s.sl dst (.sl k (.tok s.nx) (es++ys)),(s.h.aBY o).set s.nx .tip,s.nx+1⟩):aT P (⟨dst,none, .append k bs x y⟩::r) Qs s:=by
 have hys:ys.isEmpty=false:=by cases ys with|nil=>exact absurd rfl hne|cons=>rfl
 unfold aT;simp only[LOp.run,LOp.sem,hy,hx,true_and];refine⟨hb, .inl ⟨ha,?_⟩⟩;cases o with
 |free=>exact ha.elim
 |nil=>simpa only[eA,eT,hys,Hp.aBY,Kg,if_false] using hq
 |full=>simpa only[eA,eT,hys,Hp.aBY,Kg,if_false] using hq
 |tok id=>exact hq
theorem zk{k:Sh}{bs:Nat}{x y:aI}{o:Own}{es ys:List V}{n0:Nat}(hx:x.ev s.sl= .sl k o es)(ha:Acc s.h n0 o es)(hy:dA s.h (y.ev s.sl)=some (k,ys))(hne:ys≠ [])(hb:(es.length+ys.length)*bs≤140737488355328)
 (hq:aT P r Qs ⟨bF s.sl dst (.sl k (.tok s.nx) (es++ys)),(s.h.aBY o).set s.nx .tip,s.nx+1⟩):aT P (⟨dst,none, .append k bs x y⟩::r) Qs s:=
 we hx ha.ok hy hne hb hq
end
def LOp.isApp:LOp→Bool
 | .append .. =>true
 |_=>false
def aA.aBJ(o:aA):Bool:=o.plain&& !o.op.isApp
def oQ:List aA→List aA
 | []=>[]
 |o::r=>match o.aBJ with
  |true=>o::oQ r
  |false=>[]
def pO:List aA→List aA
 | []=>[]
 |o::r=>match o.aBJ with
  |true=>pO r
  |false=>o::r
theorem tq{P:Program}{Q:St→Prop}:∀(l:List aA) (s:St),oH (oQ l) s→aT P (pO l) Q (gL (oQ l) s)→aT P l Q s
 | [],s,_,h=>h
 |o::r,s,ho,h=>by
  cases hc:o.aBJ with
  |false=>simp only[oQ,pO,hc] at ho h;exact h
  |true=>
   simp only[oQ,pO,hc] at ho h;have aCt:o.op.aAV=false:=by
    simp only[aA.aBJ,Km] at hc;have hc:=hc.1;unfold aA.plain at hc;split at hc
    ·simpa using hc
    cases hc
   exact pL aCt ho.1 (tq r _ ho.2 h)
theorem kO{P:Program}{Q:St→Prop}{o:aA}{r:List aA}{s:St}(_:o.aBJ=true)(ho:oH (oQ (o::r)) s)(h:aT P (pO (o::r)) Q (gL (oQ (o::r)) s)):aT P (o::r) Q s:=tq _ s ho h
theorem zj{P:Program}{Q:St→Prop}{o:aA}{r:List aA}{s:St}(hp:o.op.isApp=true)(hg:o.g=none)(ho:o.ok s)(h:aT P r Q (o.next s)):aT P (o::r) Q s:=by
 refine pL ?_ ho h;cases e:o.op<;>rw[e] at hp<;>first|rfl|cases hp
theorem CH{a b:Nat}(h:a<b):(a=b)=False:=dr or
theorem Ce{a b k:Nat}(h:a<b):(a=b+k)=False:=dr or
theorem Cf{a b:Nat}(h:a<b):(b=a)=False:=dr or
theorem BT{a b k:Nat}(h:a<b):(b+k=a)=False:=dr or
class Stp(A:Prop)(B:outParam Prop):Prop where
 go:B→A
theorem stp{A B:Prop} [i:Stp A B](h:B):A:=i.go h
variable{P:Program}{Q:bJ→St→Prop}{s:St}
instance Db{a b:aU}:Stp (lwp P (.seq a b) Q s) (lwp P a (lP (lwp P b) Q) s):=⟨bQ⟩
instance Da{l:List aA}:Stp (lwp P (.ops l) Q s) (aT P l (Q .normal) s):=⟨bZ⟩
instance C9{b:(bJ→St→Prop)→St→Prop}:Stp (lP b Q .normal s) (b Q s):=⟨aP⟩
instance C8{R:St→Prop}:Stp (aT P [] R s) (R s):=⟨bM⟩
instance C7{id:Nat}:Stp (eK id Q .normal s) (Q .normal s):=⟨aO⟩
instance CZ{id:Nat}{c:aU}:Stp (lwp P (.block id c) Q s) (lwp P c (eK id Q) s):=⟨bA⟩
instance CW:Stp (lwp P .skip Q s) (Q .normal s):=⟨bS⟩
instance CV:Stp (lwp P .ret Q s) (Q .ret s):=⟨cT⟩
instance CU{b:(bJ→St→Prop)→St→Prop}:Stp (lP b Q .ret s) (Q .ret s):=⟨kC⟩
instance CT{id:Nat}:Stp (eK id Q .ret s) (Q .ret s):=⟨gA⟩
instance CR{ι:Type}{sl:ι→List V}{C:ι→Hp→Nat→Prop}{m:ι→Nat}{n:Nat}:Stp (bK sl C m n Q .ret s) (Q .ret s):=⟨gV⟩
instance CQ{id:Nat}:Stp (lwp P (.exit id) Q s) (Q (.exit id) s):=⟨oJ⟩
instance CP{b:(bJ→St→Prop)→St→Prop}{id:Nat}:Stp (lP b Q (.exit id) s) (Q (.exit id) s):=⟨jX⟩
instance CO{ι:Type}{sl:ι→List V}{C:ι→Hp→Nat→Prop}{m:ι→Nat}{n id:Nat}:Stp (bK sl C m n Q (.exit id) s) (Q (.exit id) s):=⟨iL⟩
instance CN{id:Nat}:Stp (eK id Q (.exit id) s) (Q .normal s):=⟨gD⟩
instance CM{A B:Prop}:Stp (qJ true A B) A:=⟨Bk⟩
instance CL{A B:Prop}:Stp (qJ false A B) B:=⟨Bl⟩
theorem ee2{p0 p1:Prop}(x0:p0)(x1:p1):p0∧p1:=⟨x0,x1⟩
theorem ee4{p0 p1 p2 p3:Prop}(x0:p0)(x1:p1)(x2:p2)(x3:p3):p0∧p1∧p2∧p3:=⟨x0,x1,x2,x3⟩
theorem ee5{p0 p1 p2 p3 p4:Prop}(x0:p0)(x1:p1)(x2:p2)(x3:p3)(x4:p4):p0∧p1∧p2∧p3∧p4:=⟨x0,x1,x2,x3,x4⟩
theorem wl{G B:Prop}(k:B)(h:PLift B→G:=by
 intro k
 (repeat (first|with_reducible refine bQ ?_|with_reducible refine bA ?_|with_reducible refine bS ?_|with_reducible refine aP ?_|with_reducible refine aO ?_|with_reducible refine bZ ?_|(refine bT rfl (by simp only[go_sem,reduceIte,Nat.reduceAdd,Nat.reduceSub,Nat.reduceLT,Nat.reduceLeDiff,reduceCtorEq,Nat.reduceEqDiff,Int.reduceToNat];try omega) ?_;simp only[go_sem,reduceIte,Nat.reduceAdd,Nat.reduceSub,Nat.reduceLT,Nat.reduceLeDiff,reduceCtorEq,Nat.reduceEqDiff,Int.reduceToNat])|(with_reducible refine bM ?_)))
 exact k.down):G:=h ⟨k⟩
theorem wle{G B p:Prop}(E:p)(k:B)(h:p→PLift B→G:=by
 intro E k
 (repeat (first|with_reducible refine bQ ?_|with_reducible refine bA ?_|with_reducible refine bS ?_|with_reducible refine aP ?_|with_reducible refine aO ?_|with_reducible refine bZ ?_|(refine bT rfl (by simp only[E,List.length_map,go_sem,reduceIte,Nat.reduceAdd,Nat.reduceSub,Nat.reduceLT,Nat.reduceLeDiff,reduceCtorEq,Nat.reduceEqDiff,Int.reduceToNat];try omega) ?_;simp only[E,List.length_map,go_sem,reduceIte,Nat.reduceAdd,Nat.reduceSub,Nat.reduceLT,Nat.reduceLeDiff,reduceCtorEq,Nat.reduceEqDiff,Int.reduceToNat])|(with_reducible refine bM ?_)))
 exact k.down):G:=h E ⟨k⟩
attribute [go_sem] Option.some.injEq Prod.mk.injEq false_and and_false Bool.true_eq_false B0 As BA ry y0 if_true Kx Ap oV zJ mkL mkN oH gL aA.ok aA.next LOp.ok LOp.next aR.ok aR.out aI.ev bF oi mI kI tP Kb Sh.size nR tY fR aA.dok aA.aCa LOp.dok LOp.aDm nj np fL fN List.take_succ_cons List.take_zero List.take_nil List.drop_succ_cons List.drop_zero List.drop_nil List.set_cons_succ List.set_cons_zero List.getD_cons_succ Ke List.length_cons List.length_nil List.map_cons List.map_nil List.all_cons List.all_nil List.mem_cons List.not_mem_nil List.replicate_succ List.replicate_zero Kk List.nil_append List.append_nil List.isEmpty_cons List.isEmpty_nil eA eT oY Ko Option.isSome_some Option.isSome_none Nat.add_eq Kt Nat.add_zero true_and and_true and_self true_implies implies_true false_implies forall_const forall_eq forall_eq_or_imp ne_eq not_false_eq_true not_true_eq_false Bool.not_true Bool.not_false decide_true decide_false Bool.and_true Kx Bool.and_false Bool.false_and true_or or_true false_or or_false eq_self Kg BN yu gI aF cH dF fO sQ pQ sP iG kX dA Int.toNat_natCast Int.toNat_zero List.take_length Hp.aAN Hp.aAx sK qV aA.plain LOp.aAV aA.aBk LOp.aBd lz BX Ae Cp ra V.aCv V.aCC s6 kv kw s5 eC bC eU mA nI beq_true beq_false dg dh di yN yO rJ rK mO my yU eu ef sD ei ew mb mc sE ep qD yT mf vL ed vM oM pc yb yc ya fm zW nw jY jj ji jh jg jf wY wX bw bv bu xB xA wZ jm jl jk b8 bz bx pR zR dD wV Hp.aBI kW Option.isNone_some Option.isNone_none CG oQ pO aA.aBJ LOp.isApp CH Ce Cf BT Ar Aq
theorem dmo{h H:Hp}{nx n:Nat}(q:aW h nx)(k:aW h nx→aW H n:=by
 intro q;(try dsimp only);repeat (first|exact aW.up q (by omega)|refine aW.aMT ?_ (by omega) _|refine aW.del ?_|refine aW.aBY ?_ _)):aW H n:=k q
theorem kep{h h1 H:Hp}{m n:Nat}(q:Hp.same m h h1)(k:Hp.same m h h1→Hp.same n h H:=by
 intro q;(try dsimp only);repeat (first|exact q|refine j4 ?_ (by omega) _|refine xO ?_ (by omega))):Hp.same n h H:=k q
theorem zw{h h1 H:Hp}{m n n0:Nat}{o:Own}{es:List V}(q:Hp.same m h h1)(a:Acc h1 n0 o es)(k:Hp.same m h h1→Acc h1 n0 o es→Hp.same n h H:=by
 intro q a;(try dsimp only);repeat (first|exact q|refine j4 ?_ (by omega) _|refine xO ?_ (by omega)|refine uy ?_ (fun id e=>by have:=a.ge id e;omega))):Hp.same n h H:=k q a
theorem acc{h H:Hp}{nx n0:Nat}{o:Own}{es:List V}(a:Acc h n0 o es)(d:aW h nx)(k:Acc h n0 o es→aW h nx→Acc H n0 o es:=by
 intro a d;(try dsimp only);repeat' (first|exact a|exact aW.aS1 d (by omega)|exact yz|exact AW (by assumption)|refine yv (by omega) ?_|refine yy ?_|refine Acc.set ?_ ?_ _)):Acc H n0 o es:=k a d
theorem lef{h h1 H:Hp}{nx:Nat}(d:aW h nx)(q:h.le h1)(k:aW h nx→h.le h1→h.le H:=by
 intro d q;(try dsimp only);repeat (first|exact q|refine vN d ?_ (by omega) _|refine sF d ?_ (by omega))):h.le H:=k d q
theorem leo{h H:Hp}{nx:Nat}(d:aW h nx)(k:aW h nx→h.le H:=by
 intro d;(try dsimp only);repeat (first|exact Hp.le_refl _|refine vN d ?_ (by omega) _|refine sF d ?_ (by omega))):h.le H:=k d
theorem fls{p:Prop}(h:¬p:=by omega):p=False:=eq_false h
theorem dct{p:Prop} [Decidable p](h:p:=by omega):decide p=true:=decide_eq_true h
theorem dcf{p:Prop} [Decidable p](h:¬p:=by omega):decide p=false:=decide_eq_false h
theorem bqf{a b:Int}(h:a≠b:=by omega):(a==b)=false:=by simpa using h
theorem bqt{a b:Int}(h:a=b:=by omega):(a==b)=true:=by simpa using h
theorem bnt{a b:Int}(h:a≠b:=by omega):(a != b)=true:=by simpa using h
theorem bnf{a b:Int}(h:a=b:=by omega):(a != b)=false:=by simpa using h
theorem wrp{a b:Int}(h:a=b:=by omega)(h1:-9223372036854775808≤b:=by omega)(h2:b<9223372036854775808:=by omega):IntKind.i64.wrap a=b:=by rw[h];exact eR (by omega) (by omega)
theorem e2{A B:Prop}(a:A)(b:B):A∧B:=⟨a,b⟩
theorem e3{A B C:Prop}(a:A)(b:B)(c:C):A∧B∧C:=⟨a,b,c⟩
theorem e4{A B C D:Prop}(a:A)(b:B)(c:C)(d:D):A∧B∧C∧D:=⟨a,b,c,d⟩
theorem e5{A B C D E:Prop}(a:A)(b:B)(c:C)(d:D)(e:E):A∧B∧C∧D∧E:=⟨a,b,c,d,e⟩
theorem e6{A B C D E F:Prop}(a:A)(b:B)(c:C)(d:D)(e:E)(f:F):A∧B∧C∧D∧E∧F:=⟨a,b,c,d,e,f⟩
theorem e7{A B C D E F G:Prop}(a:A)(b:B)(c:C)(d:D)(e:E)(f:F)(g:G):A∧B∧C∧D∧E∧F∧G:=⟨a,b,c,d,e,f,g⟩
theorem e8{A B C D E F G H:Prop}(a:A)(b:B)(c:C)(d:D)(e:E)(f:F)(g:G)(h:H):A∧B∧C∧D∧E∧F∧G∧H:=⟨a,b,c,d,e,f,g,h⟩
theorem e9{A B C D E F G H I:Prop}(a:A)(b:B)(c:C)(d:D)(e:E)(f:F)(g:G)(h:H)(i:I):A∧B∧C∧D∧E∧F∧G∧H∧I:=⟨a,b,c,d,e,f,g,h,i⟩
theorem e10{A B C D E F G H I J:Prop}(a:A)(b:B)(c:C)(d:D)(e:E)(f:F)(g:G)(h:H)(i:I)(j:J):A∧B∧C∧D∧E∧F∧G∧H∧I∧J:=⟨a,b,c,d,e,f,g,h,i,j⟩
theorem e11{A B C D E F G H I J K:Prop}(a:A)(b:B)(c:C)(d:D)(e:E)(f:F)(g:G)(h:H)(i:I)(j:J)(k:K):A∧B∧C∧D∧E∧F∧G∧H∧I∧J∧K:=⟨a,b,c,d,e,f,g,h,i,j,k⟩
theorem e12{A B C D E F G H I J K L:Prop}(a:A)(b:B)(c:C)(d:D)(e:E)(f:F)(g:G)(h:H)(i:I)(j:J)(k:K)(l:L):A∧B∧C∧D∧E∧F∧G∧H∧I∧J∧K∧L:=⟨a,b,c,d,e,f,g,h,i,j,k,l⟩
theorem e13{A B C D E F G H I J K L M:Prop}(a:A)(b:B)(c:C)(d:D)(e:E)(f:F)(g:G)(h:H)(i:I)(j:J)(k:K)(l:L)(m:M):A∧B∧C∧D∧E∧F∧G∧H∧I∧J∧K∧L∧M:=⟨a,b,c,d,e,f,g,h,i,j,k,l,m⟩
theorem e14{A B C D E F G H I J K L M N:Prop}(a:A)(b:B)(c:C)(d:D)(e:E)(f:F)(g:G)(h:H)(i:I)(j:J)(k:K)(l:L)(m:M)(n:N):A∧B∧C∧D∧E∧F∧G∧H∧I∧J∧K∧L∧M∧N:=⟨a,b,c,d,e,f,g,h,i,j,k,l,m,n⟩
theorem au{G B:Prop}(k:B)(h:PLift B→G:=by
 intro k
 (repeat' (first|(with_reducible first|refine stp ?_|refine cA (by decide) ?_)|((first|(with_reducible refine nC ?_;first|refine kO rfl ?_ ?_|refine aH (C1 _) rfl (aK _) ?_|refine aH (C2 _) rfl (aK _) ?_|refine aH (C3 _) rfl (aK _) ?_|refine aH (C4 _) rfl (aK _) ?_|refine aH C5 rfl (aK _) ?_|refine aH C6 rfl (aK _) ?_|(first|refine eZ rfl ?_|refine fA rfl ?_)|refine dN rfl ?_)|(with_reducible refine nH ?_;first|refine kU rfl ?_ ?_|refine bH (D1 _) rfl (aZ _) ?_|refine bH (D2 _) rfl (aZ _) ?_|refine bH (D3 _) rfl (aZ _) ?_|refine bH (D4 _) rfl (aZ _) ?_|refine bH (D5 _) rfl (aZ _) ?_|refine bH (D6 _) rfl (aZ _) ?_|(first|refine fC rfl ?_|refine fD rfl ?_)|refine dQ rfl ?_|refine gO (hZ ?_)|refine gO (kR ?_))|(with_reducible refine nJ ?_;refine gY rfl ?_))<;>try simp only[go_sem,reduceIte,Nat.reduceAdd,Nat.reduceSub,Nat.reduceLT,Nat.reduceLeDiff,reduceCtorEq,Nat.reduceEqDiff,Int.reduceToNat])|(with_reducible refine nG ?_;refine iM rfl ?_)|omega))
 exact k.down):G:=h ⟨k⟩
theorem aue{G B p:Prop}(E:p)(k:B)(h:p→PLift B→G:=by
 intro E k
 (repeat' (first|(with_reducible first|refine stp ?_|refine cA (by decide) ?_)|((first|(with_reducible refine nC ?_;first|refine kO rfl ?_ ?_|refine aH (C1 _) rfl (aK _) ?_|refine aH (C2 _) rfl (aK _) ?_|refine aH (C3 _) rfl (aK _) ?_|refine aH (C4 _) rfl (aK _) ?_|refine aH C5 rfl (aK _) ?_|refine aH C6 rfl (aK _) ?_|refine zk rfl (acc aAz hdm) rfl (by simp) (by simp only[E,List.length_map,go_sem,reduceIte,Nat.reduceAdd,Nat.reduceSub,Nat.reduceLT,Nat.reduceLeDiff,reduceCtorEq,Nat.reduceEqDiff,Int.reduceToNat];try omega) ?_|refine zj rfl rfl (by simp only[E,List.length_map,go_sem,reduceIte,Nat.reduceAdd,Nat.reduceSub,Nat.reduceLT,Nat.reduceLeDiff,reduceCtorEq,Nat.reduceEqDiff,Int.reduceToNat];try omega) ?_|(first|refine eZ rfl ?_|refine fA rfl ?_)|refine dN rfl ?_)|(with_reducible refine nH ?_;first|refine kU rfl ?_ ?_|refine bH (D1 _) rfl (aZ _) ?_|refine bH (D2 _) rfl (aZ _) ?_|refine bH (D3 _) rfl (aZ _) ?_|refine bH (D4 _) rfl (aZ _) ?_|refine bH (D5 _) rfl (aZ _) ?_|refine bH (D6 _) rfl (aZ _) ?_|refine zO rfl rfl (by decide) (by(simp only[dD,go_sem,reduceIte,Nat.reduceAdd,Nat.reduceSub,Nat.reduceLT,Nat.reduceLeDiff,reduceCtorEq,Nat.reduceEqDiff,Int.reduceToNat])<;>try omega) (by simp only[go_sem,reduceIte,Nat.reduceAdd,Nat.reduceSub,Nat.reduceLT,Nat.reduceLeDiff,reduceCtorEq,Nat.reduceEqDiff,Int.reduceToNat]) (by simp only[go_sem,reduceIte,Nat.reduceAdd,Nat.reduceSub,Nat.reduceLT,Nat.reduceLeDiff,reduceCtorEq,Nat.reduceEqDiff,Int.reduceToNat]) (by simp only[E,go_sem,reduceIte,Nat.reduceAdd,Nat.reduceSub,Nat.reduceLT,Nat.reduceLeDiff,reduceCtorEq,Nat.reduceEqDiff,Int.reduceToNat]) ?_|(first|refine fC rfl ?_|refine fD rfl ?_)|refine dQ rfl ?_|refine gO (hZ ?_)|refine gO (kR ?_))|(with_reducible refine nJ ?_;refine gY rfl ?_))<;>try simp only[E,List.length_map,go_sem,reduceIte,Nat.reduceAdd,Nat.reduceSub,Nat.reduceLT,Nat.reduceLeDiff,reduceCtorEq,Nat.reduceEqDiff,Int.reduceToNat])|(with_reducible refine nG ?_;refine iM rfl ?_)|omega))
 exact k.down):G:=h E ⟨k⟩
theorem Zn{G B:Prop}(k:B)(h:PLift B→G:=by intro k;simp only[go_sem,reduceIte,Nat.reduceAdd,Nat.reduceSub,Nat.reduceLT,Nat.reduceLeDiff,reduceCtorEq,Nat.reduceEqDiff,Int.reduceToNat];exact k.down):G:=h ⟨k⟩
theorem ZN{P:Prop}(h:P:=by first|omega|(dsimp only;omega)):P:=h
theorem Zw{P:Prop}(h:P:=by dsimp only;omega):P:=h
theorem ZW{G B:Prop}(k:B)(h:PLift B→G:=by intro k;(with_reducible first|refine stp ?_|refine cA (by decide) ?_);exact k.down):G:=h ⟨k⟩
theorem Zx{G B:Prop}(k:B)(h:PLift B→G:=by intro k;(first|refine eZ rfl ?_|refine fA rfl ?_|refine dN rfl ?_);exact k.down):G:=h ⟨k⟩
theorem ZX{G B:Prop}(k:B)(h:PLift B→G:=by intro k;(first|refine fC rfl ?_|refine fD rfl ?_|refine dQ rfl ?_|refine gO (hZ ?_)|refine gO (kR ?_));exact k.down):G:=h ⟨k⟩
theorem Zy{G B:Prop}(k:B)(h:PLift B→G:=by intro k;(with_reducible refine nJ ?_;refine gY rfl ?_);exact k.down):G:=h ⟨k⟩
theorem ZY{G B:Prop}(k:B)(h:PLift B→G:=by intro k;(with_reducible refine nG ?_;refine iM rfl ?_);exact k.down):G:=h ⟨k⟩
end Go.Proofs.YtgbiopfghdilnaaGreatDoor
