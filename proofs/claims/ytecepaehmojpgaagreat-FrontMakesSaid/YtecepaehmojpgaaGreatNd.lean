/-
Texts of this proof,one behind the other. No conditions.
-/
import Derived.Test.YtecepaehmojpgaaGreatNcb
open Go.Proofs.YtecepaehmojpgaaGreat.V renaming undef→Ka,aAD→Kb,fits→Ke,pick→Kg
open Go.Proofs.YtecepaehmojpgaaGreat.Hp renaming set→Kc,del→Kd
open List renaming getD_eq_getElem?_getD→Kf,cons_append→Kh,getElem?_set_ne→Ki,getElem?_eq_getElem→Kj,filterMap_cons→Kk,getD_cons_zero→Km,mem_cons→Ks,append_nil→Kw,getElem?_eq_none→Ky,filterMap_nil→Kz,all_eq_true→KE
open Array renaming getD_eq_getD_getElem?→Ko,getElem?_eq_getElem→Kq,getElem?_eq_none→Kv
open Bool renaming false_eq_true→Kp,and_eq_true→Kt,true_and→KI
open Option renaming getD_some→Ku
open Nat renaming zero_le→Kx,lt_or_ge→KB,zero_add→KC,le_refl→KD,lt_irrefl→KH
open Go renaming undef→KF
open Go.World renaming cell?→KG
set_option linter.unusedSimpArgs false
set_option linter.unusedVariables false
set_option linter.unusedSectionVars false
set_option maxHeartbeats 8000000
namespace Go.Proofs.YtecepaehmojpgaaGreat
open Go.RowKit
theorem BQ{K:Ker}{h:Hp}(hr:Rel K h){n a:Nat}{k:Sh}{es:List V}{cv:Value}(hn:h n=some (.arr k es))(ha:¬K.live a)(hv:VR K (.rs n k 0 es.length) cv):
 ∃K',K'.w=K.w∧K.le K'∧(∀m,K'.live m→K.live m∨m=a)∧VR K' (.sl k (.tok a) es) cv∧Rel K' ((h.del n).set a .tip):=by
 have hb:=hr.blk n _ hn;cases hb with
 |arr _ _ c T hh hcs aBC aAH hcv=>
  cases hv with
  |rs _ _ _ _ cap hl aAW hm=>
   obtain⟨T',m,hm1,hm2⟩:=hm;have hcm:m=c.size:=by simp[World.shape?,hh] at hm1;exact hm1.2.symm
   subst hcm;have hblk:K.mu n<K.w.heap.size:=by
    rcases KB (K.mu n) K.w.heap.size with hlt|hge
    ·exact hlt
    rw[Kv hge] at hh;exact absurd hh Zm
   have hle:K.le (K.aAG a (K.mu n) (es.length*k.size)):=K.aAf ha (by rw[aBC];exact Kx _);have hmu:(K.aAG a (K.mu n) (es.length*k.size)).mu a=K.mu n:=by simp[Ker.aAG]
   refine⟨K.aAG a (K.mu n) (es.length*k.size),rfl,hle,fun m hm=>hm.symm,?_,hr.aAG hn ha (by rw[aBC];exact Kx _) (.tip c T (by rw[hmu];exact hh) (by simp[Ker.aAG]) (by simp only[Ker.aAG,if_true];exact hcs))⟩
   have:=VR.sl (K:=K.aAG a (K.mu n) (es.length*k.size)) k (.tok a) es (K.mu n) 0 cap (fun j=>c.getD j KF) hblk aAH
    (fun j hj=>by
      show K.w.cell? _=_;simp only[KG,hh,KC];rw[Ko,Kq or];rfl)
    (fun j hj=> .inr (by simp only[Ker.aAG,if_true];omega))
    (fun i hi j hj=>(hcv i hi j hj).mono hle) aAW Zm Zm
    (fun m hm=>by
      injection hm with hm;subst hm;refine⟨.inl rfl, .inr ⟨hmu,by simp[Ker.aAG],T',c.size,?_,by simpa using Nat.le_of_eq hm2⟩⟩;exact hm1)
   simpa using this
theorem io{P:Program}{f:FuncId}{args:List V}{h:Hp}{nx:Nat}{k:Sh}{G:List V→Prop}
 (c:bD P f args h nx fun v h' _=>∃n es,nx≤n∧v= .rs n k 0 es.length∧h'=h.set n (.arr k es)∧G es):
 bD P f args h nx fun v h' _=>∃id es,nx≤id∧v= .sl k (.tok id) es∧h'=h.set id .tip∧G es:=by
 refine⟨c.1,fun K aAK hl hr hv=>(c.2 K aAK hl hr hv).mono ?_⟩;rintro e w' ⟨K',v,cv,h',nx',rfl,he,hle,hvr,aAS,hlv,hnx,n,es,hn,rfl,rfl,hG⟩;have hfr:¬K'.live nx':=fun hh=>KH _ (hlv nx' hh).1;have aAR:(h.set n (.arr k es)) n=some (.arr k es):=by simp[Kc]
 obtain⟨K'',q1,q2,q3,q4,q5⟩:=BQ aAS aAR hfr hvr;have aBb:h n=none:=by
  cases hd:h n with
  |none=>rfl
  |some b=>exact absurd (hl n (hr.lt n b hd)) or
 have hh:((h.set n (.arr k es)).del n).set nx' .tip=h.set nx' .tip:=by
  funext x;unfold Kc Kd;by_cases e1:x=nx'
  ·simp[e1]
  by_cases e2:x=n
  ·subst e2;simp[e1,aBb]
  simp[e1,e2]
 rw[hh] at q5;refine⟨K'',_,cv,_,nx'+1,q1,he,hle.trans q2,q4,q5,fun m hm=>?_,or,nx',es,hnx,rfl,rfl,hG⟩;rcases q3 m hm with hm|rfl
 ·exact⟨by have:=(hlv m hm).1;omega,(hlv m hm).2⟩
 exact⟨or, .inr hnx⟩
theorem Hp.aAQ(h:Hp)(n:Nat)(b:Blk)(m:Nat):(h.set n b) m=if m=n then some b else h m:=rfl
theorem Hp.aCF(h:Hp)(n m:Nat):(h.del n) m=if m=n then Option.none else h m:=rfl
def aK(h:Hp)(nx:Nat):Prop:=∀m b,h m=some b→m<nx
theorem bD.dom{P:Program}{f:FuncId}{args:List V}{h:Hp}{nx:Nat}{R:V→Hp→Nat→Prop}(c:bD P f args h nx R):bD P f args h nx fun v h' nx'=>R v h' nx'∧aK h' nx'∧nx≤nx':=
 ⟨c.1,fun K aAK hl aAS hv=>(c.2 K aAK hl aAS hv).mono fun _ _ ⟨K',v,cv,h',nx',a,b,c,d,e,g,i,j⟩=>⟨K',v,cv,h',nx',a,b,c,d,e,g,i,j,fun m b hm=>(g m (e.lt m b hm)).1,i⟩⟩
theorem gG.dom{P:Program}{n:Nat}{args:List V}{h:Hp}{nx:Nat}{R:V→Hp→Nat→Prop}(c:gG P n args h nx R):gG P n args h nx fun v h' nx'=>R v h' nx'∧aK h' nx'∧nx≤nx':=
 fun m K aAK hl hn aAS hv=>(c m K aAK hl hn aAS hv).mono fun _ _ ⟨K',v,cv,h',nx',a,b,c,d,e,g,i,j⟩=>⟨K',v,cv,h',nx',a,b,c,d,e,g,i,j,fun m b hm=>(g m (e.lt m b hm)).1,i⟩
theorem aK.set{h:Hp}{nx nx' n:Nat}(hd:aK h nx)(hn:n<nx')(hle:nx≤nx')(b:Blk):aK (h.set n b) nx':=fun m c e=>by
 unfold Kc at e;split at e
 ·omega
 have:=hd m c e;omega
theorem aK.del{h:Hp}{nx n:Nat}(hd:aK h nx):aK (h.del n) nx:=fun m c e=>by
 unfold Kd at e;split at e
 ·cases e
 exact hd m c e
theorem aK.up{h:Hp}{nx nx':Nat}(hd:aK h nx)(hle:nx≤nx'):aK h nx':=fun m c e=>by have:=hd m c e;omega
theorem aK.le{h h':Hp}{nx:Nat}(hd:aK h' nx)(hle:h.le h'):aK h nx:=fun m c e=>hd m c (hle m c e)
theorem zo{h h':Hp}{n:Nat}{b:Blk}(hle:h.le h')(hn:h' n=some b):(h.set n b).le h':=fun m c e=>by
 unfold Kc at e;split at e
 ·rename_i em;subst em;injection e with e;subst e;exact hn
 exact hle m c e
theorem kN{h h':Hp}{n:Nat}(hle:h.le h')(hn:h n=none)(b:Blk):h.le (h'.set n b):=fun m c e=>by
 unfold Kc;split
 ·rename_i em;subst em;rw[hn] at e;cases e
 exact hle m c e
theorem tZ{h h':Hp}{n:Nat}(hle:h.le h')(hn:h n=none):h.le (h'.del n):=fun m c e=>by
 unfold Kd;split
 ·rename_i em;subst em;rw[hn] at e;cases e
 exact hle m c e
theorem aK.none{h:Hp}{nx n:Nat}(hd:aK h nx)(hn:nx≤n):h n= .none:=by
 cases e:h n with
 |none=>rfl
 |some b=>exact absurd (hd n b e) or
theorem Du{h h':Hp}(hle:h.le h'):Hp.has h h':=fun n b e _=>hle n _ e
theorem Hp.le_trans{a b c:Hp}(h:a.le b)(h':b.le c):a.le c:=fun n x e=>h' n x (h n x e)
def AX(P:Program)(gf:Nat)(aAg:List V)(hb:Hp)(xs:List (List V)):Prop:=
 ∀(yn:Nat) (J:Nat→Hp→Nat→Prop) (D:Hp→Nat→Prop),
  (∀i h nx,J i h nx→hb.has h)→(∀i h nx nx',J i h nx→nx≤nx'→J i h nx')→(∀h nx nx',D h nx→nx≤nx'→D h nx')→
  (∀i (hi:i<xs.length) h nx,J i h nx→aK h nx→gG P yn xs[i] h nx fun v h' nx'=>(v= .bool true∧J (i+1) h' nx')∨(v= .bool false∧D h' nx'))→
  ∀h nx,J 0 h nx→aK h nx→bD P gf (.yld yn::aAg) h nx fun _ h' nx'=>J xs.length h' nx'∨D h' nx'
def Ef(r:Nat)(X:Blk)(J:St→Prop):cK→St→Prop
 | .normal,s=>s.h r=some X∧J s
 |_,_=>False
def mq(r:Nat)(X:Blk)(I:Hp→Nat→Prop)(E:cK→Hp→Nat→Prop):cK→St→Prop
 | .normal,s=>s.h r=some X∧I s.h s.nx
 |e,s=>s.h r=some X∧E e s.h s.nx
theorem ub{r:Nat}{X:Blk}{J:St→Prop}{s:St}(h:s.h r=some X)(hj:J s):Ef r X J .normal s:=⟨h,hj⟩
theorem gu{r:Nat}{X:Blk}{I:Hp→Nat→Prop}{E:cK→Hp→Nat→Prop}{s:St}(h:s.h r=some X)(hi:I s.h s.nx):mq r X I E .normal s:=⟨h,hi⟩
theorem cn{P:Program}{g:aO}{ps:List Nat}{as b:bF}{Q:cK→St→Prop}{s:St}{gf:Nat}{aAg:List V}{hb:Hp}{xs:List (List V)}(hit:AX P gf aAg hb xs)(hg:g.ev s.sl= .fn (.func gf) [] aAg)
 (hlen:∀x∈xs,x.length=ps.length) (hd:aK s.h s.nx) (I:Nat→Hp→Nat→Prop) (E:cK→Hp→Nat→Prop)
 (hbI:∀i h nx,I i h nx→hb.has h) (hnI:∀i h nx nx',I i h nx→nx≤nx'→I i h nx') (hsI:∀i h nx b,I i h nx→I i (h.set s.nx b) nx)
 (hnE:∀e h nx nx',E e h nx→nx≤nx'→E e h nx') (hsE:∀e h nx b,E e h nx→E e (h.set s.nx b) nx)
 (h0:I 0 s.h (s.nx+1))
 (aEV:∀i (hi:i<xs.length) h nx X,I i h nx→s.nx<nx→h s.nx=some X→aK h nx→
   lwp P as (Ef s.nx X fun s1=>∀X',lwp P b (mq s.nx X' (I (i+1)) E) ⟨s1.sl,s1.h.set s.nx X',s1.nx⟩) ⟨aAw s.sl ps xs[i],h,nx⟩)
 (aEg:∀h nx,I xs.length h nx→s.nx<nx→aK h nx→Q .normal ⟨s.sl,h.del s.nx,nx⟩)
 (hex:∀e h nx,E e h nx→s.nx<nx→aK h nx→(e= .ret∨∃id,e= .exit id)→Q e ⟨s.sl,h.del s.nx,nx⟩):lwp P (.range g ps as b) Q s:=by
 simp only[lwp,hg];intro rcd U hpl hY;have aAR:∀(h:Hp) (b:Blk),(h.set s.nx b) s.nx=some b:=fun h b=>by simp[Kc]
 refine((hit s.nx (fun i h nx=>I i h nx∧h s.nx=some (.obj (rcd .ready none) U))
  (fun h nx=>(h s.nx=some (.obj (rcd .done (some .ret)) U)∧E .ret h nx)∨∃id,h s.nx=some (.obj (rcd .done (some (.exit id))) U)∧E (.exit id) h nx)
  (fun i h nx hj=>hbI i h nx hj.1) (fun i h nx nx' hj hle=>⟨hnI i h nx nx' hj.1 hle,hj.2⟩)
  (fun h nx nx' hD hle=>hD.imp (fun hD=>⟨hD.1,hnE _ _ _ _ hD.2 hle⟩) (fun⟨id,hD⟩=>⟨id,hD.1,hnE _ _ _ _ hD.2 hle⟩)) ?_ _ (s.nx+1) ⟨hsI _ _ _ _ h0,aAR _ _⟩ ?_).dom).mono ?_
 ·rintro i hi h nx ⟨hI,hr⟩ aBb;refine hY xs[i] h nx _ (hlen _ (List.getElem_mem _)) hr ?_;refine qZ ?_ (aEV i hi h nx _ hI (aBb _ _ hr) hr aBb);intro e s1 hq;cases e with
  |exit id=>exact hq.elim
  |ret=>exact hq.elim
  |normal=>
   refine⟨hq.1,qZ ?_ (hq.2 (.obj (rcd .busy none) U))⟩;intro e s2 hq2;cases e with
   |normal=>exact⟨hq2.1, .inl ⟨rfl,hsI _ _ _ _ hq2.2,aAR _ _⟩⟩
   |ret=>exact⟨hq2.1, .inr ⟨rfl, .inl ⟨aAR _ _,hsE _ _ _ _ hq2.2⟩⟩⟩
   |exit id=>exact⟨hq2.1, .inr ⟨rfl, .inr ⟨id,aAR _ _,hsE _ _ _ _ hq2.2⟩⟩⟩
 ·intro m b hm;unfold Kc at hm;split at hm
  ·omega
  have:=hd m b hm;omega
 rintro v h' nx' _ ⟨(⟨hI,hr⟩|(⟨hr,hE⟩|⟨id,hr,hE⟩)),aBb,hle⟩
 ·exact .inl ⟨hr,aEg _ _ hI or aBb⟩
 ·exact .inr (.inl ⟨hr,hex _ _ _ hE or aBb (.inl rfl)⟩)
 exact .inr (.inr ⟨id,hr,hex _ _ _ hE or aBb (.inr ⟨id,rfl⟩)⟩)
def bO{ι:Type}(sl:ι→List V)(C:ι→Hp→Nat→Prop)(m:ι→Nat)(n:Nat)(Q:cK→St→Prop):cK→St→Prop
 | .normal,s=>∃s',ae s s'∧∃i,m i<n∧WkL s'.sl (sl i)∧C i s'.h s'.nx
 |e,s=>Q e s
section
variable{P:Program}{Q:cK→St→Prop}{s:St}{ι:Type}{sl:ι→List V}{C:ι→Hp→Nat→Prop}{m:ι→Nat}{n:Nat}
theorem aF{sl0:List V}{h:Hp}{nx:Nat}(i:ι)(hm:m i<n)(hC:C i h nx)(hw:WkL sl0 (sl i)):bO sl C m n Q .normal ⟨sl0,h,nx⟩:=⟨_,(Wk.refl _).tell,i,hm,hw,hC⟩
theorem dG{id:Nat}(h:Q (.exit id) s):bO sl C m n Q (.exit id) s:=h
theorem gA(h:Q .ret s):bO sl C m n Q .ret s:=h
theorem aT{c:bF}(sl:ι→List V)(C:ι→Hp→Nat→Prop)(m:ι→Nat)(i0:ι)(h0:C i0 s.h s.nx)(hw:WkL s.sl (sl i0))(hr:∀i h nx,C i h nx→lwp P c (bO sl C m (m i) Q) ⟨sl i,h,nx⟩):lwp P (.loop c) Q s:=by
 refine mP (fun p:ι×Hp×Nat=>C p.1 p.2.1 p.2.2) (fun p=>⟨sl p.1,p.2.1,p.2.2⟩) (fun p=>m p.1) (i0,s.h,s.nx) h0 ⟨hw,Hp.le_refl _,KD _⟩ ?_;rintro⟨i,h,nx⟩ hC;refine qZ ?_ (hr i h nx hC);intro e s' hq;cases e with
 |normal=>
  obtain⟨s2,h0,j,h1,h2,h3⟩:=hq;exact⟨(j,s2.h,s2.nx),h3,h1,h0.trans (Wk.tell ⟨h2,Hp.le_refl _,KD _⟩)⟩
 |exit id=>exact hq
 |ret=>exact hq
end
theorem aK.aAh{h:Hp}{nx n:Nat}(hd:aK h nx)(hn:n<nx)(b:Blk):aK (h.set n b) nx:=hd.set hn (KD _) b
def aA.plain(o:aA):Bool:=match o.g with
 |none=> !o.op.aAn
 |some _=>false
def wO:List aA→List aA
 | []=>[]
 |o::r=>match o.plain with
  |true=>o::wO r
  |false=>[]
def uT:List aA→List aA
 | []=>[]
 |o::r=>match o.plain with
  |true=>uT r
  |false=>o::r
theorem yp{P:Program}{Q:St→Prop}:∀(l:List aA) (s:St),qE (wO l) s→bB P (uT l) Q (jV (wO l) s)→bB P l Q s
 | [],s,_,h=>h
 |o::r,s,ho,h=>by
  cases hc:o.plain with
  |false=>simp only[wO,uT,hc] at ho h;exact h
  |true=>
   simp only[wO,uT,hc] at ho h;have aEk:o.op.aAn=false:=by
    unfold aA.plain at hc;split at hc
    ·simpa using hc
    cases hc
   exact sH aEk ho.1 (yp r _ ho.2 h)
theorem rn{P:Program}{Q:St→Prop}{s:St}:bB P [] Q s=Q s:=rfl
theorem eN{P:Program}{Q:St→Prop}{s:St}(h:Q s):bB P [] Q s:=h
theorem fV{P:Program}{Q:St→Prop}{o:aA}{r:List aA}{s:St}(_:o.plain=true)(ho:qE (wO (o::r)) s)(h:bB P (uT (o::r)) Q (jV (wO (o::r)) s)):bB P (o::r) Q s:=yp _ s ho h
theorem qG{P:Program}{Q:St→Prop}{s:St}{dst:Option Nat}{k:Sh}{bs:Nat}{x y:aO}{r:List aA}{ys:List V}(hx:x.ev s.sl= .sl k .nil [])(hy:eJ s.h (y.ev s.sl)=some (k,ys))(hne:ys≠ [])(hb:ys.length*bs≤140737488355328)
 (h:bB P r Q ⟨bN s.sl dst (.rs s.nx k 0 ys.length),s.h.set s.nx (.arr k ys),s.nx+1⟩):bB P (⟨dst,none, .append k bs x y⟩::r) Q s:=by
 unfold bB;simp only[LOp.run,LOp.sem,hy,hx];exact⟨trivial,trivial,by simpa using hb, .inr ⟨trivial,trivial,hne,h⟩⟩
theorem aa{P:Program}{Q:St→Prop}{s:St}{dst:Option Nat}{k:Sh}{bs n len:Nat}{x y:aO}{r:List aA}{es ys:List V}(hx:x.ev s.sl= .rs n k 0 len)(hn:s.h n=some (.arr k es))(hl:len≤es.length)(hy:eJ s.h (y.ev s.sl)=some (k,ys))(hne:ys≠ [])(hb:(len+ys.length)*bs≤140737488355328)
 (h:bB P r Q ⟨bN s.sl dst (.rs s.nx k 0 (len+ys.length)),(s.h.del n).set s.nx (.arr k (es.take len++ys)),s.nx+1⟩):bB P (⟨dst,none, .append k bs x y⟩::r) Q s:=by
 unfold bB;simp only[LOp.run,LOp.sem,hy,hx,hn];exact⟨trivial,trivial, .inr ⟨trivial,trivial,hl,hne,hb,h⟩⟩
theorem zZ{P:Program}{Q:St→Prop}{s:St}{dst:Option Nat}{k:Sh}{xs:List aO}{r:List aA}(hf:∀e∈xs,(e.ev s.sl).fits k=true)
 (h:bB P r Q ⟨bN s.sl dst (.rs s.nx k 0 xs.length),s.h.set s.nx (.arr k (xs.map (aO.ev s.sl))),s.nx+1⟩):bB P (⟨dst,none, .aAd k xs⟩::r) Q s:=by
 unfold bB;exact⟨hf, .inr h⟩
theorem ku{a b:Nat}(h:a≤1000000000)(h':b≤140737):a*b≤140737488355328:=Nat.le_trans (Nat.mul_le_mul h h') ZM
def LOp.aCb:LOp→Bool
 | .call _ _=>true
 | .aAc _ _=>true
 | .aAZ _ _ _=>true
 | .store _ _ _=>true
 |_=>false
def aA.aCj(o:aA):Bool:=match o.g with
 |none=> !o.op.aCb
 |some _=>false
def nX:List (aA×List Nat)→List (aA×List Nat)
 | []=>[]
 |o::r=>match o.1.aCj with
  |true=>o::nX r
  |false=>[]
def pU:List (aA×List Nat)→List (aA×List Nat)
 | []=>[]
 |o::r=>match o.1.aCj with
  |true=>pU r
  |false=>o::r
def ia:List (aA×List Nat)→List (aA×List Nat)
 | []=>[]
 |o::r=>match o.1.op.aCb with
  |true=>[]
  |false=>o::ia r
def mV:List (aA×List Nat)→List (aA×List Nat)
 | []=>[]
 |o::r=>match o.1.op.aCb with
  |true=>o::r
  |false=>mV r
theorem zM:∀l:List (aA×List Nat),ia l++mV l=l
 | []=>rfl
 |o::r=>by
  unfold ia mV;split
  ·rfl
  rw[Kh,zM r]
theorem th{P:Program}{h0:Hp}{nx0:Nat}{Q:List V→List (Option Blk)→List (Option Con)→Prop}{l:List (aA×List Nat)}{sl:List V}{aAL:List (Option Blk)}{cons:List (Option Con)}(ho:pT h0 nx0 (ia l) ⟨sl,aAL,cons⟩)
 (h:dC P h0 nx0 (mV l) (dZ h0 nx0 (ia l) ⟨sl,aAL,cons⟩).sl (dZ h0 nx0 (ia l) ⟨sl,aAL,cons⟩).aAL (dZ h0 nx0 (ia l) ⟨sl,aAL,cons⟩).cons Q):dC P h0 nx0 l sl aAL cons Q:=by
 have:=wU (P:=P) (Q:=Q) (r:=mV l) (ia l) ⟨sl,aAL,cons⟩ ho h;rwa [zM] at this
theorem fe:∀l:List (aA×List Nat),nX l++pU l=l
 | []=>rfl
 |o::r=>by
  unfold nX pU;split
  ·rw[Kh,fe r]
  rfl
theorem bY{P:Program}{h0:Hp}{nx0:Nat}{Q:List V→List (Option Blk)→List (Option Con)→Prop}{o:aA×List Nat}{r:List (aA×List Nat)}{sl:List V}{aAL:List (Option Blk)}{cons:List (Option Con)}(_:o.1.aCj=true)(ho:pT h0 nx0 (nX (o::r)) ⟨sl,aAL,cons⟩)
 (h:dC P h0 nx0 (pU (o::r)) (dZ h0 nx0 (nX (o::r)) ⟨sl,aAL,cons⟩).sl (dZ h0 nx0 (nX (o::r)) ⟨sl,aAL,cons⟩).aAL (dZ h0 nx0 (nX (o::r)) ⟨sl,aAL,cons⟩).cons Q):dC P h0 nx0 (o::r) sl aAL cons Q:=by
 have:=wU (P:=P) (Q:=Q) (r:=pU (o::r)) (nX (o::r)) ⟨sl,aAL,cons⟩ ho h;rwa [fe] at this
theorem gY(k:Sh):cR k k 0:=by cases k<;>simp[cR]
theorem gQ{k:Sh}{v:V}(h:v.fits k=true):bV k 0 v=v:=by
 cases k with
 |leaf=>cases v<;>first|rfl|(simp[Ke,Kb] at h)
 |agg m=>
  cases v with
  |agg cs=>
   simp only[Ke,Kt,decide_eq_true_eq] at h;simp[bV,V.cells,h.1]
  |_=>simp[Ke] at h
theorem jd(o:Nat):cR .leaf .leaf o=(o=0):=rfl
theorem je(n o:Nat):cR (.agg n) .leaf o=(o<n):=rfl
theorem jf(n m o:Nat):cR (.agg n) (.agg m) o=(o+m≤n):=rfl
theorem dc(o:Nat)(v:V):bV .leaf o v=v.cell o:=rfl
theorem de(m o:Nat)(cs:List V):bV (.agg m) o (.agg cs)=if o=0∧cs.length=m then .agg cs else .agg ((cs.drop o).take m):=rfl
theorem vL(o:Nat)(cs:List V)(v:V):bU .leaf o (.agg cs) v= .agg (cs.set o v):=rfl
theorem vM(m o:Nat)(cs:List V)(v:V):bU (.agg m) o (.agg cs) v=if o=0∧cs.length=m then v else .agg (cs.take o++v.cells++cs.drop (o+m)):=rfl
theorem A8(n:Nat)(ks:List LK)(xs ys:List V):veq (.plain (.agg n) ks) (.agg xs) (.agg ys)=if ((V.agg xs).fits (.agg n)&&(V.agg ys).fits (.agg n))=true then iP ks xs ys else none:=rfl
theorem A6(ks:List LK)(k k':IntKind)(a b:Int):veq (.plain .leaf ks) (.int k a) (.int k' b)=iP ks [.int k a] [.int k' b]:=rfl
theorem A7(ks:List LK)(a b:Bool):veq (.plain .leaf ks) (.bool a) (.bool b)=iP ks [.bool a] [.bool b]:=rfl
theorem A5(ks:List LK)(a b:ByteArray):veq (.plain .leaf ks) (.str a) (.str b)=iP ks [.str a] [.str b]:=rfl
theorem kq(cs:List V):(V.agg cs).cells=cs:=rfl
theorem uZ{v:V}(h:v.aAD=true):v.cells=[v]:=by cases v<;>first|rfl|(simp[Kb] at h)
theorem rN(cs:List V)(j:Nat):(V.agg cs).cell j=cs.getD j Ka:=rfl
theorem sP{v:V}(h:v.aAD=true):v.cell 0=v:=by cases v<;>first|rfl|(simp[Kb] at h)
theorem pc:veq .ptr .aAI .aAI=some true:=rfl
theorem pb(n:Nat)(k:Sh)(i o:Nat):veq .ptr .aAI (.ptr n k i o)=some false:=rfl
theorem pa(n:Nat)(k:Sh)(i o:Nat):veq .ptr (.ptr n k i o) .aAI=some false:=rfl
theorem o9(k:Sh)(es:List V)(i o:Nat):veq .ptr .aAI (.ept k es i o)=some false:=rfl
theorem o7(k:Sh)(es:List V)(i o:Nat):veq .ptr (.ept k es i o) .aAI=some false:=rfl
theorem aw(k k':Sh)(o:Own)(es es':List V):veq .slice (.sl k o es) (.sl k' .nil es')=some (o== .nil):=rfl
theorem av(n:Nat)(k k':Sh)(o l:Nat)(es':List V):veq .slice (.rs n k o l) (.sl k' .nil es')=some false:=rfl
theorem iw:veq .func .aAv .aAv=some true:=rfl
theorem iv(f:Fn)(a b:List V):veq .func .aAv (.fn f a b)=some false:=rfl
theorem iu(f:Fn)(a b:List V):veq .func (.fn f a b) .aAv=some false:=rfl
theorem bc:veq (.iface true) .nilIface .nilIface=some true:=rfl
theorem ba(c:Bool)(t:Nat)(v:V):veq (.iface c) .nilIface (.iface t v)=some false:=by cases c<;>rfl
theorem az(c:Bool)(t:Nat)(v:V):veq (.iface c) (.iface t v) .nilIface=some false:=by cases c<;>rfl
theorem pg:veq .map .aAT .aAT=some true:=rfl
theorem pf(n:Nat):veq .map .aAT (.map n)=some false:=rfl
theorem pd(n:Nat):veq .map (.map n) .aAT=some false:=rfl
theorem iz:veq .chan .aAU .aAU=some true:=rfl
theorem iy(n:Nat):veq .chan .aAU (.chan n)=some false:=rfl
theorem ix(n:Nat):veq .chan (.chan n) .aAU=some false:=rfl
theorem sw(n:Nat)(cs:List V):Ke (.agg n) (.agg cs)=(decide (cs.length=n)&&cs.all Kb):=by simp only[Ke]
theorem dh(b:Bool):Kb (.bool b)=true:=by simp only[Kb]
theorem sI(k:IntKind)(n:Int):Kb (.int k n)=true:=by simp only[Kb]
theorem jv(s:ByteArray):Kb (.str s)=true:=by simp only[Kb]
theorem wJ:Kb (.aAI)=true:=by simp only[Kb]
theorem jw(n:Nat)(k:Sh)(i o:Nat):Kb (.ptr n k i o)=true:=by simp only[Kb]
theorem jx(k:Sh)(es:List V)(i o:Nat):Kb (.ept k es i o)=true:=by simp only[Kb]
theorem ru(k:Sh)(own:Own)(es:List V):Kb (.sl k own es)=true:=by simp only[Kb]
theorem rv(n:Nat)(k:Sh)(off len:Nat):Kb (.rs n k off len)=true:=by simp only[Kb]
theorem wK:Kb (.aAT)=true:=by simp only[Kb]
theorem yD(n:Nat):Kb (.map n)=true:=by simp only[Kb]
theorem tB:Kb (.aAU)=true:=by simp only[Kb]
theorem dg(n:Nat):Kb (.chan n)=true:=by simp only[Kb]
theorem rx(f:Fn)(a b:List V):Kb (.fn f a b)=true:=by simp only[Kb]
theorem zD:Kb (.aAv)=true:=by simp only[Kb]
theorem ju(n:Nat):Kb (.yld n)=true:=by simp only[Kb]
theorem zF(t:Nat)(v:V):Kb (.iface t v)=true:=by simp only[Kb]
theorem rE:Kb (.nilIface)=true:=by simp only[Kb]
theorem sN(v:V):v.fits .leaf=v.aAD:=by cases v<;>rfl
theorem cG{k:Sh}{e v:V}(he:e.fits k=true)(hv:v.fits k=true):bU k 0 e v=v:=by
 cases k with
 |leaf=>cases e<;>first|rfl|(simp[Ke,Kb] at he)
 |agg m=>
  cases e with
  |agg cs=>
   simp only[Ke,Kt,decide_eq_true_eq] at he;simp[bU,he.1]
  |_=>simp[Ke] at he
def V.gd(c:Bool)(v:V):V:=if c=true then v else Ka
theorem V.aEl(v:V):V.gd true v=v:=rfl
theorem V.aCE(v:V):V.gd false v=Ka:=rfl
theorem yh(c:Bool)(x y:V):Kg c (V.gd c x) y=Kg c x y:=by cases c<;>simp[V.gd,lZ,kZ]
theorem qr(c:Bool)(x y:V):Kg c x (V.gd (!c) y)=Kg c x y:=by cases c<;>simp[V.gd,lZ,kZ]
theorem qt(t x:Bool):Kg t (.bool x) (.bool false)= .bool (t&&x):=by cases t<;>rfl
theorem yg(t y:Bool):Kg t (.bool true) (.bool y)= .bool (t||y):=by cases t<;>rfl
def ab(g:Option (Nat×Bool)):List aA→List aA
 | []=>[]
 |o::r=>if o.g=g then o::ab g r else []
def wP(g:Option (Nat×Bool)):List aA→List aA
 | []=>[]
 |o::r=>if o.g=g then wP g r else o::r
def AP(l:List aA):List aA:=l.map fun o=>⟨o.dst,none,o.op⟩
def nV(c:Bool)(sl':List V):List aA→List V→List V
 | [],sl=>sl
 |o::r,sl=>nV c sl' r (match o.dst with|some d=>sl.set d (V.gd c (sl'.getD d Ka))|none=>sl)
def nZ(ds:List Nat)(a b:List V):Prop:=a.length=b.length∧∀t,t∉ds→a.getD t Ka=b.getD t Ka
theorem rq{P:Program}{Q:St→Prop}:∀(l:List aA) (s:St),bB P l Q s→bB P l (fun s'=>Q s'∧nZ (l.filterMap (·.dst)) s.sl s'.sl) s:=by
 have key:∀(l:List aA) (s0 s:St) (ds:List Nat),nZ ds s0.sl s.sl→bB P l Q s→bB P l (fun s'=>Q s'∧nZ (ds++l.filterMap (·.dst)) s0.sl s'.sl) s:=by
  intro l;induction l with
  |nil=>intro s0 s ds hb h;exact⟨h,by simpa using hb⟩
  |cons o r ih=>
   intro s0 s ds hb h;have step:∀(v:V) (h':Hp) (nx':Nat),bB P r Q ⟨bN s.sl o.dst v,h',nx'⟩→bB P r (fun s'=>Q s'∧nZ (ds++(o::r).filterMap (·.dst)) s0.sl s'.sl) ⟨bN s.sl o.dst v,h',nx'⟩:=by
    intro v h' nx' hq;have hb':nZ (ds++[o].filterMap (·.dst)) s0.sl (bN s.sl o.dst v):=by
     obtain⟨h1,h2⟩:=hb;cases hd:o.dst with
     |none=>simp only[bN,Kk,hd,Kz,Kw];exact⟨h1,h2⟩
     |some d=>
      refine⟨by simp[bN,h1],fun t ht=>?_⟩;simp[hd] at ht;rw[h2 t ht.1];simp only[bN,Kf];rw[Ki (fun e=>ht.2 e.symm)]
    have:=ih s0 ⟨bN s.sl o.dst v,h',nx'⟩ _ hb' hq;have e:(ds++[o].filterMap (·.dst))++r.filterMap (·.dst)=ds++(o::r).filterMap (·.dst):=by
     cases hd:o.dst<;>simp[hd]
    rw[e] at this;exact this
   have one:=gO (P:=P) (Q:=fun s'=>bB P r Q s') (Q':=fun s'=>bB P r Q s') (fun _ x=>x) [o] s;revert h;unfold bB;split
   ·rename_i hg;intro h;have:=gO (P:=P) (Q:=fun s'=>bB P r Q s'∧∃v h' nx',s'=⟨bN s.sl o.dst v,h',nx'⟩) (Q':=fun s'=>bB P r (fun s'=>Q s'∧nZ (ds++(o::r).filterMap (·.dst)) s0.sl s'.sl) s') (by rintro s' ⟨hq,v,h',nx',rfl⟩;exact step v h' nx' hq) [o] s (by
     unfold bB;rw[hg];show o.op.run P s.sl s.h s.nx fun v h' nx'=>bB P r Q ⟨bN s.sl o.dst v,h',nx'⟩∧_;exact LOp.aAs (fun v h' nx' hq=>⟨hq,v,h',nx',rfl⟩) h)
    unfold bB at this;rw[hg] at this;exact this
   rename_i t want hg;split
   ·split
    ·intro h;exact LOp.aAs (fun v h' nx' hq=>step v h' nx' hq) h
    exact step _ _ _
   ·exact step _ _ _
   exact id
 intro l s h;have:=key l s s [] ⟨rfl,fun _ _=>rfl⟩ h;simpa using this
theorem nM{sl':List V}:∀(l:List aA) (sl:List V),sl.length=sl'.length→(∀t,t∉l.filterMap (·.dst)→sl.getD t Ka=sl'.getD t Ka)→nV true sl' l sl=sl'
 | [],sl,hl,h=>by
  apply List.ext_getElem hl;intro i h1 h2;have:=h i Zm;rwa [Kf,Kf,Kj h1,Kj h2] at this
 |o::r,sl,hl,h=>by
  unfold nV;cases hd:o.dst with
  |none=>exact nM r sl hl (by simpa [hd] using h)
  |some d=>
   refine nM r _ (by simpa using hl) fun t ht=>?_;by_cases e:d=t
   ·subst e;simp only[Kf];by_cases hdl:d<sl.length
    ·rw[List.getElem?_set_self hdl];simp[V.gd]
    rw[Ky (by simp;omega),Ky or]
   have:=h t (by
    rw[Kk,hd];simp only[Ks,not_or];exact⟨fun e'=>e e'.symm,ht⟩)
   simp only[Kf] at this⊢;rw[Ki e,this]
theorem wQ{P:Program}{Q:St→Prop}{sl':List V}{t:Nat}{want b:Bool}(hne:b≠want){r:List aA}:∀(l:List aA) (s:St),(∀o∈l,o.g=some (t,want))→(∀o∈l,o.dst≠some t)→s.sl.getD t Ka= .bool b→
 bB P r Q ⟨nV false sl' l s.sl,s.h,s.nx⟩→bB P (l++r) Q s
 | [],s,_,_,_,h=>h
 |o::l,s,hg,hd,hb,h=>by
  rw[Kh];unfold bB;rw[hg o Zm];simp only[hb];rw[if_neg hne];refine wQ (sl':=sl') hne l _ (fun o' ho'=>hg o' (by simp[ho'])) (fun o' ho'=>hd o' (by simp[ho'])) ?_ ?_
  ·cases hdo:o.dst with
   |none=>exact hb
   |some d=>
    have:d≠t:=fun e=>hd o Zm (by rw[hdo,e]);simp only[bN,Kf] at hb⊢;rw[Ki this];exact hb
  unfold nV at h;cases hdo:o.dst with
  |none=>rw[hdo] at h;simpa [bN] using h
  |some d=>rw[hdo] at h;simpa [bN,V.gd] using h
theorem zI(g:Option (Nat×Bool)):∀l:List aA,ab g l++wP g l=l
 | []=>rfl
 |o::r=>by
  unfold ab wP;split
  ·rw[Kh,zI g r]
  rfl
theorem w8(g:Option (Nat×Bool)):∀(l:List aA),∀o∈ab g l,o.g=g
 | [],o,h=>by cases h
 |o'::r,o,h=>by
  unfold ab at h;split at h
  ·rename_i e;rcases Ks.1 h with rfl|h
   ·exact e
   exact w8 g r o h
  cases h
theorem CI{P:Program}{Q:St→Prop}{s:St}{t:Nat}{want:Bool}{dst:Option Nat}{op:LOp}{r:List aA}(b:Bool)(hb:s.sl.getD t Ka= .bool b)(hd:((ab (some (t,want)) (⟨dst,some (t,want),op⟩::r)).all fun o=>decide (o.dst≠some t))=true)(sl':List V)
 (h1:b=want→bB P (AP (ab (some (t,want)) (⟨dst,some (t,want),op⟩::r))) (fun s1=>s1=⟨sl',s.h,s.nx⟩) s)
 (h2:bB P (wP (some (t,want)) (⟨dst,some (t,want),op⟩::r)) Q ⟨nV (b==want) sl' (ab (some (t,want)) (⟨dst,some (t,want),op⟩::r)) s.sl,s.h,s.nx⟩):
 bB P (⟨dst,some (t,want),op⟩::r) Q s:=by
 generalize (⟨dst,some (t,want),op⟩::r)=l at*;rw[←zI (some (t,want)) l];have hd':∀o∈ab (some (t,want)) l,o.dst≠some t:=fun o ho=>by simpa using KE.1 hd o ho
 by_cases e:b=want
 ·subst e;have h1':=h1 rfl;rw[show(b==b)=true by simp] at h2;have app:∀(a:List aA) (s:St),(∀o∈a,o.g=some (t,b))→(∀o∈a,o.dst≠some t)→s.sl.getD t Ka= .bool b→bB P (AP a) (fun s1=>bB P (wP (some (t,b)) l) Q s1) s→bB P (a++wP (some (t,b)) l) Q s:=by
   intro a;induction a with
   |nil=>exact fun s _ _ _ h=>h
   |cons o a ih=>
    intro s hg hdd hb h;rw[Kh];unfold bB;rw[hg o Zm];simp only[hb,if_true];have h':o.op.run P s.sl s.h s.nx fun v h' nx'=>bB P (AP a) (fun s1=>bB P (wP (some (t,b)) l) Q s1) ⟨bN s.sl o.dst v,h',nx'⟩:=h;refine LOp.aAs (fun v h' nx' hq=>ih _ (fun o' ho'=>hg o' (by simp[ho'])) (fun o' ho'=>hdd o' (by simp[ho'])) ?_ hq) h';cases hdo:o.dst with
    |none=>exact hb
    |some d=>
     have:d≠t:=fun e=>hdd o Zm (by rw[hdo,e]);simp only[bN,Kf] at hb⊢;rw[Ki this];exact hb
  refine app _ s (w8 _ _) hd' hb (gO ?_ _ _ (rq _ _ h1'));rintro s1 ⟨rfl,hbs⟩;have e:nV true sl' (ab (some (t,b)) l) s.sl=sl':=by
   refine nM _ _ hbs.1 fun t' ht'=>hbs.2 t' ?_;simpa [AP,List.filterMap_map] using ht'
  rw[e] at h2;exact h2
 rw[show(b==want)=false by simpa using e] at h2;exact wQ e _ s (w8 _ _) hd' hb h2
theorem AB{K:Ker}{h:Hp}(hr:Rel K h){n a:Nat}{k:Sh}{es:List V}{i o:Nat}{cv:Value}(hn:h n=some (.arr k es))(ha:¬K.live a)(hv:VR K (.ptr n k i o) cv):
 ∃K',K'.w=K.w∧K.le K'∧(∀m,K'.live m→K.live m∨m=a)∧VR K' (.ept k es i o) cv∧Rel K' (h.del n):=by
 have hb:=hr.blk n _ hn;cases hb with
 |arr _ _ c T hh hcs aBC aAH hcv=>
  cases hv with
  |ptr _ _ _ _ hl=>
   have hblk:K.mu n<K.w.heap.size:=by
    rcases KB (K.mu n) K.w.heap.size with hlt|hge
    ·exact hlt
    rw[Kv hge] at hh;exact absurd hh Zm
   have hle:K.le (K.aAG a (K.mu n) (es.length*k.size)):=K.aAf ha (by rw[aBC];exact Kx _);have hmu:(K.aAG a (K.mu n) (es.length*k.size)).mu a=K.mu n:=by simp[Ker.aAG]
   have aAS:=hr.aAG hn (a:=a) (m:=es.length*k.size) ha (by rw[aBC];exact Kx _) (b1:= .tip) (.tip c T (by rw[hmu];exact hh) (by simp[Ker.aAG]) (by simp only[Ker.aAG,if_true];exact hcs));refine⟨K.aAG a (K.mu n) (es.length*k.size),rfl,hle,fun m hm=>hm.symm,?_,aAS.weaken ?_⟩
   ·have:=VR.ept (K:=K.aAG a (K.mu n) (es.length*k.size)) k es i o (K.mu n) 0 (fun j=>c.getD j KF) hblk aAH
     (fun j hj=>by
       show K.w.cell? _=_;simp only[KG,hh,KC];rw[Ko,Kq or];rfl)
     (fun j hj=> .inr (by simp only[Ker.aAG,if_true];omega))
     (fun i hi j hj=>(hcv i hi j hj).mono hle)
    simpa using this
   intro m b e;unfold Kd at e;split at e
   ·cases e
   rename_i hm;have hma:m≠a:=fun e2=>ha (e2▸hr.lt m b e);unfold Kc Kd;rw[if_neg hma,if_neg hm];exact e
def V.loose:V→V
 | .sl k .nil es=> .sl k .nil es
 | .sl k _ es=> .sl k .free es
 | .agg cs=> .agg (cs.map fun c=>match c with
  | .sl k .nil es=> .sl k .nil es
  | .sl k _ es=> .sl k .free es
  |v=>v)
 |v=>v
theorem VR.loose{K:Ker}{v:V}{cv:Value}(r:VR K v cv):VR K v.loose cv:=by
 have one:∀{k:Sh} {own:Own} {es:List V} {cv:Value},VR K (.sl k own es) cv→VR K (match V.sl k own es with| .sl k .nil es=> .sl k .nil es| .sl k _ es=> .sl k .free es|v=>v) cv:=by
  intro k own es cv r;cases own with
  |nil=>exact r
  |full=>exact r.free Zm
  |tok n=>exact r.free Zm
  |free=>exact r.free Zm
 cases v with
 |sl k own es=>cases own<;>first|exact r|exact r.free Zm
 |agg cs=>
  cases r with
  |agg _ ccs hl hv=>
   refine .agg _ ccs (by simpa using hl) fun i hi=>?_;have hi':i<cs.length:=by simpa using hi
   have:=hv i hi';simp only[Kf,List.getElem?_map,Kj hi',Option.map_some,Ku] at this⊢;generalize cs[i]=c at this⊢;cases c<;>first|exact this|exact one this
 |_=>exact r
theorem ga{P:Program}{f:FuncId}{args:List V}{h:Hp}{nx:Nat}{g:Fn}{v0:V}
 (c:bD P f args h nx fun v h' _=>∃n,nx≤n∧v= .fn g [] [.ptr n .leaf 0 0]∧h'=h.set n (.arr .leaf [v0])):
 bD P f args h nx fun v h' _=>v= .fn g [] [.ept .leaf [v0.loose] 0 0]∧h'=h:=by
 refine⟨c.1,fun K aAK hl hr hv=>(c.2 K aAK hl hr hv).mono ?_⟩;rintro e w' ⟨K',v,cv,h',nx',rfl,he,hle,hvr,aAS,hlv,hnx,n,hn,rfl,rfl⟩;have hfr:¬K'.live nx':=fun hh=>KH _ (hlv nx' hh).1;have aAR:(h.set n (.arr .leaf [v0])) n=some (.arr .leaf [v0]):=by simp[Kc]
 cases hvr with
 |fn _ _ _ cf cc h1 h2 v1 v2=>
 have vp:=v2 0 Zm;simp only[Km] at vp;obtain⟨K'',q1,q2,q3,q4,q5⟩:=AB aAS aAR hfr vp;have aBb:h n=none:=by
  cases hd:h n with
  |none=>rfl
  |some b=>exact absurd (hl n (hr.lt n b hd)) or
 have hh:(h.set n (.arr .leaf [v0])).del n=h:=by
  funext x;unfold Kc Kd;by_cases e2:x=n
  ·subst e2;simp[aBb]
  simp[e2]
 rw[hh] at q5;have q4':VR K'' (.ept .leaf [v0.loose] 0 0) (cc.getD 0 KF):=by
  generalize cc.getD 0 KF=x at q4⊢;cases q4 with
  |ept _ _ _ _ b off f hb aAH aAJ hst hvv=>
   have aCB:v0.aAD=true:=by simpa [Ke] using aAH v0 Zm
   have hll:v0.loose.aAD=true:=by
    cases v0<;>first|rfl|(simp[Kb] at aCB)|skip
    rename_i own es;cases own<;>rfl
   have hc1:∀v:V,v.aAD=true→v.cell 0=v:=fun v hv=>by cases v<;>first|rfl|(simp[Kb] at hv)
   refine .ept _ _ _ _ b off f hb (by simpa [Ke] using hll) aAJ hst ?_;intro i hi j hj;have hi0:i=0:=by simpa using hi
   have hj0:j=0:=by simpa [Sh.size] using hj
   subst hi0 hj0;have:=hvv 0 Zm 0 (by simp[Sh.size]);simp only[Km,hc1 _ aCB,hc1 _ hll] at this⊢;exact this.loose
 refine⟨K'',_,_,h,nx'+1,q1,he,hle.trans q2, .fn g [] [.ept .leaf [v0.loose] 0 0] cf cc h1 h2 (fun i hi=>absurd hi Zm) (fun i hi=>?_),q5,fun m hm=>?_,or,rfl,rfl⟩
 ·have hi0:i=0:=by simpa using hi
  subst hi0;exact q4'
 rcases q3 m hm with hm|rfl
 ·exact⟨by have:=(hlv m hm).1;omega,(hlv m hm).2⟩
 exact⟨or, .inr hnx⟩
section
variable{P:Program}{h0:Hp}{nx0:Nat}
theorem j7{Q:List V→List (Option Blk)→List (Option Con)→Prop}{o:aA}{aAP:List Nat}{r:List (aA×List Nat)}{sl:List V}{aAL:List (Option Blk)}{cons:List (Option Con)}(d:fX)(h1:eU P (iN h0 cons) (nx0+aAL.length) o sl (·=d))(h2:∀c,d.con=some c→kG h0 nx0 aAP aAL cons c.n c.old)
 (h3:dC P h0 nx0 r (bN sl o.dst d.v) (aAL++[d.add]) (cons++[d.con]) Q):dC P h0 nx0 ((o,aAP)::r) sl aAL cons Q:=by
 unfold dC;exact wV h1 ⟨h2,h3⟩
theorem tf{Q:List V→List (Option Blk)→List (Option Con)→Prop}{o:aA}{aAP:List Nat}{r:List (aA×List Nat)}{sl:List V}{aAL:List (Option Blk)}{cons:List (Option Con)}(h:dC P h0 nx0 ((o,aAP)::r) sl aAL cons Q):
 ∃d,eU P (iN h0 cons) (nx0+aAL.length) o sl (·=d)∧(∀c,d.con=some c→kG h0 nx0 aAP aAL cons c.n c.old)∧dC P h0 nx0 r (bN sl o.dst d.v) (aAL++[d.add]) (cons++[d.con]) Q:=by
 unfold dC at h;obtain⟨d,h1,h2,h3⟩:=yL h;exact⟨d,h1,h2,h3⟩
theorem dY{tl:List aA}{n:Nat}{Q:cK→St→Prop}{s:St}{sl:List V}{aAL:List (Option Blk)}{cons:List (Option Con)}(h:bB P tl (Q .normal) ⟨sl,zS (oU s.h s.nx aAL) cons,s.nx+n⟩):BX P tl n Q s sl aAL cons:=h
abbrev DL:=List (aA×List Nat)
def oM(g:Option (Nat×Bool)):DL→DL
 | []=>[]
 |o::r=>if o.1.g=g then o::oM g r else []
def tE(g:Option (Nat×Bool)):DL→DL
 | []=>[]
 |o::r=>if o.1.g=g then tE g r else o::r
def tq(l:DL):DL:=l.map fun o=>(⟨o.1.dst,none,o.1.op⟩,o.2)
def pV(c:Bool)(sl':List V):DL→List V→List V
 | [],sl=>sl
 |o::r,sl=>pV c sl' r (match o.1.dst with|some d=>sl.set d (V.gd c (sl'.getD d Ka))|none=>sl)
def mN{α:Type}:DL→List (Option α)
 | []=>[]
 |_::r=>none::mN r
theorem j9(c:Bool)(sl':List V):∀(l:DL) (sl:List V),pV c sl' l sl=nV c sl' (l.map (·.1)) sl
 | [],sl=>rfl
 |o::r,sl=>j9 c sl' r _
theorem zN(g:Option (Nat×Bool)):∀l:DL,oM g l++tE g l=l
 | []=>rfl
 |o::r=>by
  unfold oM tE;split
  ·rw[Kh,zN g r]
  rfl
theorem B1(g:Option (Nat×Bool)):∀(l:DL),∀o∈oM g l,o.1.g=g
 | [],o,h=>by cases h
 |o'::r,o,h=>by
  unfold oM at h;split at h
  ·rename_i e;rcases Ks.1 h with rfl|h
   ·exact e
   exact B1 g r o h
  cases h
theorem qo{sl:List V}{o:aA}{v:V}{s0:List V}{ds:List Nat}(hb:nZ ds s0 sl):nZ (ds++[o].filterMap (·.dst)) s0 (bN sl o.dst v):=by
 obtain⟨h1,h2⟩:=hb;cases hd:o.dst with
 |none=>simp only[bN,Kk,hd,Kz,Kw];exact⟨h1,h2⟩
 |some d=>
  refine⟨by simp[bN,h1],fun t ht=>?_⟩;simp[hd] at ht;rw[h2 t ht.1];simp only[bN,Kf];rw[Ki (fun e=>ht.2 e.symm)]
theorem xU{sl:List V}{dst:Option Nat}{v u:V}{t:Nat}(hd:dst≠some t)(h:sl.getD t Ka=u):(bN sl dst v).getD t Ka=u:=by
 cases dst with
 |none=>exact h
 |some d=>
  have:d≠t:=fun e=>hd (by rw[e]);simp only[bN,Kf] at h⊢;rw[Ki this];exact h
theorem wT{Q:List V→List (Option Blk)→List (Option Con)→Prop}{t:Nat}{want:Bool}{dst:Option Nat}{op:LOp}{aAP:List Nat}{r:DL}{sl:List V}{aAL:List (Option Blk)}{cons:List (Option Con)}(c0 b:Bool)(hb:sl.getD t Ka=V.gd c0 (.bool b))
 (hd:((oM (some (t,want)) ((⟨dst,some (t,want),op⟩,aAP)::r)).all fun o=>decide (o.1.dst≠some t))=true) (sl':List V)
 (h1:c0=true→b=want→dC P h0 nx0 (tq (oM (some (t,want)) ((⟨dst,some (t,want),op⟩,aAP)::r))) sl aAL cons (fun sl1 a1 c1=>sl1=sl'∧a1=aAL++mN (oM (some (t,want)) ((⟨dst,some (t,want),op⟩,aAP)::r))∧c1=cons++mN (oM (some (t,want)) ((⟨dst,some (t,want),op⟩,aAP)::r))))
 (h2:dC P h0 nx0 (tE (some (t,want)) ((⟨dst,some (t,want),op⟩,aAP)::r)) (pV (c0&&(b==want)) sl' (oM (some (t,want)) ((⟨dst,some (t,want),op⟩,aAP)::r)) sl) (aAL++mN (oM (some (t,want)) ((⟨dst,some (t,want),op⟩,aAP)::r))) (cons++mN (oM (some (t,want)) ((⟨dst,some (t,want),op⟩,aAP)::r))) Q):
 dC P h0 nx0 ((⟨dst,some (t,want),op⟩,aAP)::r) sl aAL cons Q:=by
 generalize ((⟨dst,some (t,want),op⟩,aAP)::r)=l at*;rw[←zN (some (t,want)) l];have hd':∀o∈oM (some (t,want)) l,o.1.dst≠some t:=fun o ho=>by simpa using KE.1 hd o ho
 have hg':=B1 (some (t,want)) l;by_cases hc:c0=true∧b=want
 ·obtain⟨rfl,rfl⟩:=hc;have h1':=h1 rfl rfl;rw[show(true&&(b==b))=true by simp] at h2;have hb':sl.getD t Ka= .bool b:=hb
  have key:∀(a:DL) (s0 s:List V) (ds:List Nat) (ad:List (Option Blk)) (co:List (Option Con)),(∀o∈a,o.1.g=some (t,b))→(∀o∈a,o.1.dst≠some t)→s.getD t Ka= .bool b→nZ ds s0 s→
   dC P h0 nx0 (tq a) s ad co (fun sl1 a1 c1=>sl1=sl'∧a1=aAL++mN (oM (some (t,b)) l)∧c1=cons++mN (oM (some (t,b)) l))→
   (nZ (ds++(a.map (·.1)).filterMap (·.dst)) s0 sl'→dC P h0 nx0 (tE (some (t,b)) l) sl' (aAL++mN (oM (some (t,b)) l)) (cons++mN (oM (some (t,b)) l)) Q)→dC P h0 nx0 (a++tE (some (t,b)) l) s ad co Q:=by
   intro a;induction a with
   |nil=>
    rintro s0 s ds ad co _ _ _ hbs ⟨rfl,rfl,rfl⟩ hq;exact hq (by simpa using hbs)
   |cons o a ih=>
    intro s0 s ds ad co hg hdd hbt hbs aHr hq;obtain⟨o,dp⟩:=o;have aHr:dC P h0 nx0 ((⟨o.dst,none,o.op⟩,dp)::tq a) s ad co _:=aHr;obtain⟨d,e1,e2,e3⟩:=tf aHr;rw[Kh];refine j7 d ?_ e2 ?_
    ·have hgo:o.g=some (t,b):=hg (o,dp) Zm;unfold eU at e1⊢;rw[hgo];simp only[hbt,if_true];exact e1
    refine ih s0 _ (ds++[o].filterMap (·.dst)) _ _ (fun x hx=>hg x (by simp[hx])) (fun x hx=>hdd x (by simp[hx])) (xU (hdd (o,dp) Zm) hbt) (qo hbs) e3 (fun hb2=>hq ?_);have e:(ds++[o].filterMap (·.dst))++(a.map (·.1)).filterMap (·.dst)=ds++(((o,dp)::a).map (·.1)).filterMap (·.dst):=by
     cases hdo:o.dst<;>simp[hdo]
    rw[e] at hb2;exact hb2
  refine key _ sl sl [] aAL cons hg' hd' hb' ⟨rfl,fun _ _=>rfl⟩ h1' (fun hbs=>?_);have e:pV true sl' (oM (some (t,b)) l) sl=sl':=by
   rw[j9];exact nM _ _ hbs.1 fun t' ht'=>hbs.2 t' (by simpa using ht')
  rwa [e] at h2
 have hcf:(c0&&(b==want))=false:=by
  cases c0 with
  |false=>rfl
  |true=>simpa using fun e=>hc ⟨rfl,e⟩
 rw[hcf] at h2;have aFy:sl.getD t Ka= .tup []∨(sl.getD t Ka= .bool b∧b≠want):=by
  cases c0 with
  |false=>exact .inl hb
  |true=>exact .inr ⟨hb,fun e=>hc ⟨rfl,e⟩⟩
 have key:∀(a:DL) (s:List V) (ad:List (Option Blk)) (co:List (Option Con)),(∀o∈a,o.1.g=some (t,want))→(∀o∈a,o.1.dst≠some t)→(s.getD t Ka= .tup []∨(s.getD t Ka= .bool b∧b≠want))→
  dC P h0 nx0 (tE (some (t,want)) l) (pV false sl' a s) (ad++mN a) (co++mN a) Q→dC P h0 nx0 (a++tE (some (t,want)) l) s ad co Q:=by
  intro a;induction a with
  |nil=>intro s ad co _ _ _ h;simpa [mN,pV] using h
  |cons o a ih=>
   intro s ad co hg hdd hs h;obtain⟨o,dp⟩:=o;rw[Kh];refine j7 ⟨Ka,none,none⟩ ?_ (fun n hn=>by cases hn) ?_
   ·have hgo:o.g=some (t,want):=hg (o,dp) Zm;unfold eU;rw[hgo];rcases hs with hs|⟨hs,hne⟩
    ·simp only[hs]
    simp only[hs,if_neg hne]
   refine ih _ _ _ (fun x hx=>hg x (by simp[hx])) (fun x hx=>hdd x (by simp[hx])) ?_ ?_
   ·have hdo:=hdd (o,dp) Zm;exact hs.imp (fun hs=>xU hdo hs) (fun hs=>⟨xU hdo hs.1,hs.2⟩)
   simp only[mN] at h;unfold pV at h;cases hdo:o.dst with
   |none=>simp only[hdo] at h;simpa [bN,hdo] using h
   |some d=>simp only[hdo,V.aCE] at h;simpa [bN,hdo] using h
 exact key _ sl aAL cons hg' hd' aFy h2
end
theorem Ek{a j k:Nat}:a+(j+1)+(k+1)=a+(j+k+2):=or
theorem vO{sl:List V}{t:Nat}{v:V}(h:sl.getD t Ka=v):sl.set t v=sl:=by
 rcases KB t sl.length with ht|ht
 ·rw[Kf,Kj ht] at h;simp only[Ku] at h;rw[←h];exact List.set_getElem_self ht
 exact List.set_eq_of_length_le ht
section
variable{P:Program}{r:List aA}{Qs:St→Prop}{s:St}{dst:Option Nat}
theorem c9{t:Nat}{want b:Bool}{op:LOp}(hb:s.sl.getD t Ka= .bool b)
 (h1:b=want→bB P (⟨dst,none,op⟩::r) Qs ⟨s.sl.set t (.bool want),s.h,s.nx⟩) (h2:b= !want→bB P r Qs ⟨bN (s.sl.set t (.bool !want)) dst Ka,s.h,s.nx⟩):
 bB P (⟨dst,some (t,want),op⟩::r) Qs s:=by
 refine tW hb (fun e=>?_) (fun e=>?_)
 ·have:=h1 e;rw[←e,vO hb] at this;exact this
 have e':b= !want:=by cases b<;>cases want<;>simp at e⊢
 have:=h2 e';rw[←e',vO hb] at this;exact this
end
section
variable{P:Program}{h0:Hp}{nx0:Nat}{Q:List V→List (Option Blk)→List (Option Con)→Prop}{sl:List V}{aAL:List (Option Blk)}{cons:List (Option Con)}{r:List (aA×List Nat)}{dst:Option Nat}{aAP:List Nat}
theorem fa{t:Nat}{want b:Bool}{op:LOp}(hb:sl.getD t Ka= .bool b)(h1:b=want→dC P h0 nx0 ((⟨dst,none,op⟩,aAP)::r) (sl.set t (.bool want)) aAL cons Q)
 (h2:b= !want→dC P h0 nx0 r (bN (sl.set t (.bool !want)) dst Ka) (aAL++[none]) (cons++[none]) Q):dC P h0 nx0 ((⟨dst,some (t,want),op⟩,aAP)::r) sl aAL cons Q:=by
 refine fb hb (fun e=>?_) (fun e=>?_)
 ·have:=h1 e;rw[←e,vO hb] at this;exact this
 have e':b= !want:=by cases b<;>cases want<;>simp at e⊢
 have:=h2 e';rw[←e',vO hb] at this;exact this
end
section
variable{P:Program}{h0:Hp}{nx0:Nat}{Q:List V→List (Option Blk)→List (Option Con)→Prop}{sl:List V}{aAL:List (Option Blk)}{cons:List (Option Con)}{r:List (aA×List Nat)}{dst:Option Nat}{aAP:List Nat}{t:Nat}{op:LOp}
end
theorem mU{P:Program}{h0:Hp}{nx0:Nat}{Q:List V→List (Option Blk)→List (Option Con)→Prop}{sl:List V}{aAL:List (Option Blk)}{cons:List (Option Con)}{r:List (aA×List Nat)}{dst:Option Nat}{aAP:List Nat}{t:Sh}{x v:aO}{j i o:Nat}{k:Sh}{es:List V}
 (hx:x.ev sl= .ptr (nx0+j) k i o) (ha:aAL.getD j none=some (.arr k es)) (hd:j∈aAP) (hu:cU (nx0+j) cons) (hi:i<es.length) (hp:cR k t o) (hf:(v.ev sl).fits t=true)
 (h:dC P h0 nx0 r (bN sl dst Ka) (aAL++[none]) (cons++[some ⟨nx0+j, .arr k es,some (.arr k (es.set i (bU t o (es.getD i Ka) (v.ev sl))))⟩]) Q):dC P h0 nx0 ((⟨dst,none, .store t x v⟩,aAP)::r) sl aAL cons Q:=
 pS hx (by rw[sO];exact⟨hu,hd,ha⟩) hi hp hf h
def tK(b:Bool)(A B:Prop):Prop:=(b=true→A)∧(b=false→B)
theorem CU{A B:Prop}(h:A):tK true A B:=⟨(fun _=>h),(fun h=>by cases h)⟩
theorem CV{A B:Prop}(h:B):tK false A B:=⟨(fun h=>by cases h),(fun _=>h)⟩
theorem iI{b:Bool}{A B:Prop}(h1:b=true→A)(h2:b=false→B):tK b A B:=⟨h1,h2⟩
theorem fQ{P:Program}{c:aO}{a b:bF}{Q:cK→St→Prop}{s:St}(h:lwp P (.cond c a b) Q s):lwp P (.cond c a b) Q s:=h
theorem gE{P:Program}{n:Nat}{hd:List (aA×List Nat)}{tl:List aA}{Q:cK→St→Prop}{s:St}(h:lwp P (.draw n hd tl) Q s):lwp P (.draw n hd tl) Q s:=h
theorem fO{P:Program}{o:aA}{r:List aA}{Q:St→Prop}{s:St}(h:bB P (o::r) Q s):bB P (o::r) Q s:=h
theorem fP{P:Program}{h0:Hp}{nx0:Nat}{Q:List V→List (Option Blk)→List (Option Con)→Prop}{sl:List V}{aAL:List (Option Blk)}{cons:List (Option Con)}{l:List (aA×List Nat)}(h:dC P h0 nx0 l sl aAL cons Q):dC P h0 nx0 l sl aAL cons Q:=h
theorem dP{P:Program}{c:aO}{a b:bF}{Q:cK→St→Prop}{s:St}{t:Bool}(hc:c.ev s.sl= .bool t)(h:tK t (lwp P a Q s) (lwp P b Q s)):lwp P (.cond c a b) Q s:=cH t hc h.1 h.2
theorem cV{P:Program}{r:List aA}{Qs:St→Prop}{s:St}{dst:Option Nat}{t:Nat}{b:Bool}{op:LOp}(hb:s.sl.getD t Ka= .bool b)
 (h:tK b (bB P (⟨dst,none,op⟩::r) Qs ⟨s.sl.set t (.bool true),s.h,s.nx⟩) (bB P r Qs ⟨bN (s.sl.set t (.bool false)) dst Ka,s.h,s.nx⟩)):bB P (⟨dst,some (t,true),op⟩::r) Qs s:=
 c9 hb h.1 h.2
theorem cW{P:Program}{r:List aA}{Qs:St→Prop}{s:St}{dst:Option Nat}{t:Nat}{b:Bool}{op:LOp}(hb:s.sl.getD t Ka= .bool b)
 (h:tK b (bB P r Qs ⟨bN (s.sl.set t (.bool true)) dst Ka,s.h,s.nx⟩) (bB P (⟨dst,none,op⟩::r) Qs ⟨s.sl.set t (.bool false),s.h,s.nx⟩)):bB P (⟨dst,some (t,false),op⟩::r) Qs s:=
 c9 hb h.2 h.1
section
variable{P:Program}{h0:Hp}{nx0:Nat}{Q:List V→List (Option Blk)→List (Option Con)→Prop}{sl:List V}{aAL:List (Option Blk)}{cons:List (Option Con)}{r:List (aA×List Nat)}{dst:Option Nat}{aAP:List Nat}{t:Nat}{op:LOp}
theorem cX{b:Bool}(hb:sl.getD t Ka= .bool b)(h:tK b (dC P h0 nx0 ((⟨dst,none,op⟩,aAP)::r) (sl.set t (.bool true)) aAL cons Q) (dC P h0 nx0 r (bN (sl.set t (.bool false)) dst Ka) (aAL++[none]) (cons++[none]) Q)):
 dC P h0 nx0 ((⟨dst,some (t,true),op⟩,aAP)::r) sl aAL cons Q:=fa hb h.1 h.2
theorem cY{b:Bool}(hb:sl.getD t Ka= .bool b)(h:tK b (dC P h0 nx0 r (bN (sl.set t (.bool true)) dst Ka) (aAL++[none]) (cons++[none]) Q) (dC P h0 nx0 ((⟨dst,none,op⟩,aAP)::r) (sl.set t (.bool false)) aAL cons Q)):
 dC P h0 nx0 ((⟨dst,some (t,false),op⟩,aAP)::r) sl aAL cons Q:=fa hb h.2 h.1
end
theorem cI{t u:Nat}{k:Sh}{R:V→Hp→Nat→Prop}{s:St}(ho:(bL.load k (.slot t)).ok s.sl s.h)(h':Hp)(hle:h'.le s.h)(hR:R (.tup [(bL.load k (.slot t)).out s.sl s.h,s.sl.getD u Ka]) h' s.nx):iU [.cell t k, .slot u] R .ret s:=by
 have:=bL.aBL (R:=fun v=>∃h',h'.le s.h∧R (mF [v,s.sl.getD u Ka]) h' s.nx) ho ⟨h',hle,by generalize (bL.load k (.slot t)).out s.sl s.h=x at hR;exact hR⟩;exact this
def Acc(h:Hp)(n0:Nat)(o:Own)(es:List V):Prop:=(es=[]∧o= .nil)∨(es≠ []∧∃id,n0≤id∧o= .tok id∧h id=some .tip)
def kE(h:Hp)(n0:Nat)(o:Own):Prop:=∃id,n0≤id∧o= .tok id∧h id=some .tip
def Hp.aAb(h:Hp):Own→Hp
 | .tok n=>h.del n
 |_=>h
theorem B0(h:Hp):h.aAb .nil=h:=rfl
theorem BZ(h:Hp)(n:Nat):h.aAb (.tok n)=h.del n:=rfl
def Hp.same(n0:Nat)(h h':Hp):Prop:=∀m,m<n0→h' m=h m
theorem Hp.same.aBI{n0:Nat}{h:Hp}:Hp.same n0 h h:=fun _ _=>rfl
theorem aV{n0 n:Nat}{h h':Hp}(s:Hp.same n0 h h')(hn:n0≤n)(b:Blk):Hp.same n0 h (h'.set n b):=fun m hm=>by
 unfold Kc;rw[if_neg or];exact s m hm
theorem aW{n0 n:Nat}{h h':Hp}(s:Hp.same n0 h h')(hn:n0≤n):Hp.same n0 h (h'.del n):=fun m hm=>by
 unfold Kd;rw[if_neg or];exact s m hm
theorem eY{n0:Nat}{h h':Hp}{o:Own}(s:Hp.same n0 h h')(ho:∀id,o= .tok id→n0≤id):Hp.same n0 h (h'.aAb o):=by
 cases o with
 |tok id=>exact aW s (ho id rfl)
 |_=>exact s
theorem Acc.ge{h:Hp}{n0:Nat}{o:Own}{es:List V}(a:Acc h n0 o es)(id:Nat)(e:o= .tok id):n0≤id:=by
 rcases a with⟨_,rfl⟩|⟨_,id',hge,rfl,_⟩
 ·cases e
 injection e with e;omega
theorem kE.ge{h:Hp}{n0:Nat}{o:Own}(a:kE h n0 o)(id:Nat)(e:o= .tok id):n0≤id:=by
 obtain⟨id',hge,rfl,_⟩:=a;injection e with e;omega
theorem Hp.same.le{n0:Nat}{h h':Hp}(s:Hp.same n0 h h'){h0:Hp}(hd:aK h0 n0)(hle:h0.le h):h0.le h':=fun m b e=>by rw[s m (hd m b e)];exact hle m b e
theorem aK.aAb{h:Hp}{nx:Nat}(hd:aK h nx)(o:Own):aK (h.aAb o) nx:=by
 cases o<;>first|exact hd|exact hd.del
theorem y9{h:Hp}{o:Own}{m:Nat}(hn:∀id,o= .tok id→m≠id):h.aAb o m=h m:=by
 cases o with
 |tok id=>show(h.del id) m=h m;unfold Kd;rw[if_neg (hn id rfl)]
 |_=>rfl
theorem Acc.set{h:Hp}{n0 n:Nat}{o:Own}{es:List V}(a:Acc h n0 o es)(hn:h n≠some .tip)(b:Blk):Acc (h.set n b) n0 o es:=by
 rcases a with⟨e,eo⟩|⟨e,id,hge,eo,ht⟩
 ·exact .inl ⟨e,eo⟩
 refine .inr ⟨e,id,hge,eo,?_⟩;unfold Kc;rw[if_neg (fun e2=>hn (by rw[←e2];exact ht))];exact ht
theorem Acc.del{h:Hp}{n0 n:Nat}{o:Own}{es:List V}(a:Acc h n0 o es)(hn:o≠ .tok n):Acc (h.del n) n0 o es:=by
 rcases a with⟨e,eo⟩|⟨e,id,hge,eo,ht⟩
 ·exact .inl ⟨e,eo⟩
 refine .inr ⟨e,id,hge,eo,?_⟩;unfold Kd;rw[if_neg (fun e=>hn (by rw[eo,e]))];exact ht
theorem Acc.aAb{h:Hp}{n0:Nat}{o o':Own}{es:List V}(a:Acc h n0 o es)(hn:∀id,o'= .tok id→o≠ .tok id):Acc (h.aAb o') n0 o es:=by
 cases o' with
 |tok id=>exact a.del (hn id rfl)
 |_=>exact a
theorem kE.set{h:Hp}{n0 n:Nat}{o:Own}(a:kE h n0 o)(hn:h n≠some .tip)(b:Blk):kE (h.set n b) n0 o:=by
 obtain⟨id,hge,eo,ht⟩:=a;refine⟨id,hge,eo,?_⟩;unfold Kc;rw[if_neg (fun e2=>hn (by rw[←e2];exact ht))];exact ht
theorem Acc.up{h:Hp}{n0 n1:Nat}{o:Own}{es:List V}(a:Acc h n1 o es)(hn:n0≤n1):Acc h n0 o es:=by
 rcases a with⟨e,eo⟩|⟨e,id,hge,eo,ht⟩
 ·exact .inl ⟨e,eo⟩
 exact .inr ⟨e,id,or,eo,ht⟩
theorem aK.aEJ{h:Hp}{nx n:Nat}(hd:aK h nx)(hn:nx≤n):h n≠some .tip:=fun e=>absurd (hd n _ e) or
theorem gJ{h:Hp}{n:Nat}{k:Sh}{es:List V}:h.set n (.arr k es) n≠some .tip:=by unfold Kc;rw[if_pos rfl];exact(fun e=>by cases e)
theorem jU{h:Hp}{n:Nat}{k:Sh}{es:List V}(e:h n=some (.arr k es)):h n≠some .tip:=by rw[e];exact(fun e=>by cases e)
theorem gH{h:Hp}{n m:Nat}{b:Blk}(hn:m≠n)(hm:h m≠some .tip):h.set n b m≠some .tip:=by unfold Kc;rw[if_neg hn];exact hm
theorem gI{h:Hp}{n m:Nat}(hm:h m≠some .tip):h.del n m≠some .tip:=by unfold Kd;split<;>first|exact hm|exact(fun e=>by cases e)
theorem Acc.new{h:Hp}{n0 n:Nat}(es:List V)(hne:es≠ [])(hn:n0≤n):Acc (h.set n .tip) n0 (.tok n) es:= .inr ⟨hne,n,hn,rfl,by unfold Kc;rw[if_pos rfl]⟩
theorem kE.new{h:Hp}{n0 n:Nat}(hn:n0≤n):kE (h.set n .tip) n0 (.tok n):=⟨n,hn,rfl,by unfold Kc;rw[if_pos rfl]⟩
theorem Acc.nil{h:Hp}{n0:Nat}:Acc h n0 .nil []:= .inl ⟨rfl,rfl⟩
theorem Acc.loose{h:Hp}{n0:Nat}{o:Own}{k:Sh}{es:List V}(a:Acc h n0 o es):(V.sl k o es).loose=(if es.isEmpty=true then .sl k .nil [] else .sl k .free es):=by
 rcases a with⟨rfl,rfl⟩|⟨hne,id,_,rfl,_⟩
 ·rfl
 cases es with
 |nil=>exact absurd rfl hne
 |cons=>rfl
theorem Acc.ok{h:Hp}{n0:Nat}{o:Own}{es:List V}(a:Acc h n0 o es):tI h o:=by
 rcases a with⟨_,rfl⟩|⟨_,id,_,rfl,ht⟩
 ·trivial
 exact ht
theorem kE.ok{h:Hp}{n0:Nat}{o:Own}(a:kE h n0 o):tI h o:=by
 obtain⟨id,_,rfl,ht⟩:=a;exact ht
section
variable{P:Program}{r:List aA}{Qs:St→Prop}{s:St}{dst:Option Nat}
theorem Al{k:Sh}{bs:Nat}{x y:aO}{o:Own}{es ys:List V}(hx:x.ev s.sl= .sl k o es)(ha:tI s.h o)(hy:eJ s.h (y.ev s.sl)=some (k,ys))(hne:ys≠ [])(hb:(es.length+ys.length)*bs≤140737488355328)
 (hq:bB P r Qs ⟨bN s.sl dst (.sl k (.tok s.nx) (es++ys)),(s.h.aAb o).set s.nx .tip,s.nx+1⟩):bB P (⟨dst,none, .append k bs x y⟩::r) Qs s:=by
 have hys:ys.isEmpty=false:=by cases ys with|nil=>exact absurd rfl hne|cons=>rfl
 unfold bB;simp only[LOp.run,LOp.sem,hy,hx,true_and];refine⟨hb, .inl ⟨ha,?_⟩⟩;cases o with
 |free=>exact ha.elim
 |nil=>simpa only[fW,fE,hys,Hp.aAb,Kp,if_false] using hq
 |full=>simpa only[fW,fE,hys,Hp.aAb,Kp,if_false] using hq
 |tok id=>exact hq
theorem rD{k:Sh}{bs:Nat}{x y:aO}{o:Own}{es ys:List V}{n0:Nat}(hx:x.ev s.sl= .sl k o es)(ha:Acc s.h n0 o es)(hy:eJ s.h (y.ev s.sl)=some (k,ys))(hne:ys≠ [])(hb:(es.length+ys.length)*bs≤140737488355328)
 (hq:bB P r Qs ⟨bN s.sl dst (.sl k (.tok s.nx) (es++ys)),(s.h.aAb o).set s.nx .tip,s.nx+1⟩):bB P (⟨dst,none, .append k bs x y⟩::r) Qs s:=
 Al hx ha.ok hy hne hb hq
end
def LOp.isApp:LOp→Bool
 | .append .. =>true
 |_=>false
def aA.aBv(o:aA):Bool:=o.plain&& !o.op.isApp
def rH:List aA→List aA
 | []=>[]
 |o::r=>match o.aBv with
  |true=>o::rH r
  |false=>[]
def sL:List aA→List aA
 | []=>[]
 |o::r=>match o.aBv with
  |true=>sL r
  |false=>o::r
theorem yq{P:Program}{Q:St→Prop}:∀(l:List aA) (s:St),qE (rH l) s→bB P (sL l) Q (jV (rH l) s)→bB P l Q s
 | [],s,_,h=>h
 |o::r,s,ho,h=>by
  cases hc:o.aBv with
  |false=>simp only[rH,sL,hc] at ho h;exact h
  |true=>
   simp only[rH,sL,hc] at ho h;have aEk:o.op.aAn=false:=by
    simp only[aA.aBv,Kt] at hc;have hc:=hc.1;unfold aA.plain at hc;split at hc
    ·simpa using hc
    cases hc
   exact sH aEk ho.1 (yq r _ ho.2 h)
theorem eH{P:Program}{Q:St→Prop}{o:aA}{r:List aA}{s:St}(_:o.aBv=true)(ho:qE (rH (o::r)) s)(h:bB P (sL (o::r)) Q (jV (rH (o::r)) s)):bB P (o::r) Q s:=yq _ s ho h
theorem rC{P:Program}{Q:St→Prop}{o:aA}{r:List aA}{s:St}(hp:o.op.isApp=true)(hg:o.g=none)(ho:o.ok s)(h:bB P r Q (o.next s)):bB P (o::r) Q s:=by
 refine sH ?_ ho h;cases e:o.op<;>rw[e] at hp<;>first|rfl|cases hp
theorem El{a b:Nat}(h:a<b):(a=b)=False:=zB or
theorem DY{a b k:Nat}(h:a<b):(a=b+k)=False:=zB or
theorem DZ{a b:Nat}(h:a<b):(b=a)=False:=zB or
theorem Dt{a b k:Nat}(h:a<b):(b+k=a)=False:=zB or
class Stp(A:Prop)(B:outParam Prop):Prop where
 go:B→A
theorem stp{A B:Prop} [i:Stp A B](h:B):A:=i.go h
variable{P:Program}{Q:cK→St→Prop}{s:St}
instance EH{a b:bF}:Stp (lwp P (.seq a b) Q s) (lwp P a (pB (lwp P b) Q) s):=⟨bH⟩
instance EG{l:List aA}:Stp (lwp P (.ops l) Q s) (bB P l (Q .normal) s):=⟨bM⟩
instance EF{b:(cK→St→Prop)→St→Prop}:Stp (pB b Q .normal s) (b Q s):=⟨aM⟩
instance EE{R:St→Prop}:Stp (bB P [] R s) (R s):=⟨eN⟩
instance ED{id:Nat}:Stp (gF id Q .normal s) (Q .normal s):=⟨cC⟩
instance EC{id:Nat}{c:bF}:Stp (lwp P (.block id c) Q s) (lwp P c (gF id Q) s):=⟨dN⟩
instance EB:Stp (lwp P .skip Q s) (Q .normal s):=⟨eG⟩
instance EA:Stp (lwp P .ret Q s) (Q .ret s):=⟨bT⟩
instance Ez{b:(cK→St→Prop)→St→Prop}:Stp (pB b Q .ret s) (Q .ret s):=⟨gV⟩
instance Ey{id:Nat}:Stp (gF id Q .ret s) (Q .ret s):=⟨eS⟩
instance Ex{ι:Type}{sl:ι→List V}{C:ι→Hp→Nat→Prop}{m:ι→Nat}{n:Nat}:Stp (bO sl C m n Q .ret s) (Q .ret s):=⟨gA⟩
instance Ew{id:Nat}:Stp (lwp P (.exit id) Q s) (Q (.exit id) s):=⟨fT⟩
instance Ev{b:(cK→St→Prop)→St→Prop}{id:Nat}:Stp (pB b Q (.exit id) s) (Q (.exit id) s):=⟨eC⟩
instance Eu{ι:Type}{sl:ι→List V}{C:ι→Hp→Nat→Prop}{m:ι→Nat}{n id:Nat}:Stp (bO sl C m n Q (.exit id) s) (Q (.exit id) s):=⟨dG⟩
instance Et{id:Nat}:Stp (gF id Q (.exit id) s) (Q .normal s):=⟨cZ⟩
instance Es{A B:Prop}:Stp (tK true A B) A:=⟨CU⟩
instance Er{A B:Prop}:Stp (tK false A B) B:=⟨CV⟩
theorem ee2{p0 p1:Prop}(x0:p0)(x1:p1):p0∧p1:=⟨x0,x1⟩
theorem ee3{p0 p1 p2:Prop}(x0:p0)(x1:p1)(x2:p2):p0∧p1∧p2:=⟨x0,x1,x2⟩
theorem ee4{p0 p1 p2 p3:Prop}(x0:p0)(x1:p1)(x2:p2)(x3:p3):p0∧p1∧p2∧p3:=⟨x0,x1,x2,x3⟩
theorem ee5{p0 p1 p2 p3 p4:Prop}(x0:p0)(x1:p1)(x2:p2)(x3:p3)(x4:p4):p0∧p1∧p2∧p3∧p4:=⟨x0,x1,x2,x3,x4⟩
theorem ee6{p0 p1 p2 p3 p4 p5:Prop}(x0:p0)(x1:p1)(x2:p2)(x3:p3)(x4:p4)(x5:p5):p0∧p1∧p2∧p3∧p4∧p5:=⟨x0,x1,x2,x3,x4,x5⟩
theorem ee7{p0 p1 p2 p3 p4 p5 p6:Prop}(x0:p0)(x1:p1)(x2:p2)(x3:p3)(x4:p4)(x5:p5)(x6:p6):p0∧p1∧p2∧p3∧p4∧p5∧p6:=⟨x0,x1,x2,x3,x4,x5,x6⟩
theorem ee8{p0 p1 p2 p3 p4 p5 p6 p7:Prop}(x0:p0)(x1:p1)(x2:p2)(x3:p3)(x4:p4)(x5:p5)(x6:p6)(x7:p7):p0∧p1∧p2∧p3∧p4∧p5∧p6∧p7:=⟨x0,x1,x2,x3,x4,x5,x6,x7⟩
theorem ee9{p0 p1 p2 p3 p4 p5 p6 p7 p8:Prop}(x0:p0)(x1:p1)(x2:p2)(x3:p3)(x4:p4)(x5:p5)(x6:p6)(x7:p7)(x8:p8):p0∧p1∧p2∧p3∧p4∧p5∧p6∧p7∧p8:=⟨x0,x1,x2,x3,x4,x5,x6,x7,x8⟩
theorem ta{p0 p1 p2 p3 p4 p5 p6 p7 p8 p9:Prop}(x0:p0)(x1:p1)(x2:p2)(x3:p3)(x4:p4)(x5:p5)(x6:p6)(x7:p7)(x8:p8)(x9:p9):p0∧p1∧p2∧p3∧p4∧p5∧p6∧p7∧p8∧p9:=⟨x0,x1,x2,x3,x4,x5,x6,x7,x8,x9⟩
theorem ei{p0 p1 p2 p3 p4 p5 p6 p7 p8 p9 p10:Prop}(x0:p0)(x1:p1)(x2:p2)(x3:p3)(x4:p4)(x5:p5)(x6:p6)(x7:p7)(x8:p8)(x9:p9)(x10:p10):p0∧p1∧p2∧p3∧p4∧p5∧p6∧p7∧p8∧p9∧p10:=⟨x0,x1,x2,x3,x4,x5,x6,x7,x8,x9,x10⟩
theorem Ec{p0 p1 p2 p3 p4 p5 p6 p7 p8 p9 p10 p11:Prop}(x0:p0)(x1:p1)(x2:p2)(x3:p3)(x4:p4)(x5:p5)(x6:p6)(x7:p7)(x8:p8)(x9:p9)(x10:p10)(x11:p11):p0∧p1∧p2∧p3∧p4∧p5∧p6∧p7∧p8∧p9∧p10∧p11:=⟨x0,x1,x2,x3,x4,x5,x6,x7,x8,x9,x10,x11⟩
theorem CO{p0 p1 p2 p3 p4 p5 p6 p7 p8 p9 p10 p11 p12:Prop}(x0:p0)(x1:p1)(x2:p2)(x3:p3)(x4:p4)(x5:p5)(x6:p6)(x7:p7)(x8:p8)(x9:p9)(x10:p10)(x11:p11)(x12:p12):p0∧p1∧p2∧p3∧p4∧p5∧p6∧p7∧p8∧p9∧p10∧p11∧p12:=⟨x0,x1,x2,x3,x4,x5,x6,x7,x8,x9,x10,x11,x12⟩
theorem BV{p0 p1 p2 p3 p4 p5 p6 p7 p8 p9 p10 p11 p12 p13:Prop}(x0:p0)(x1:p1)(x2:p2)(x3:p3)(x4:p4)(x5:p5)(x6:p6)(x7:p7)(x8:p8)(x9:p9)(x10:p10)(x11:p11)(x12:p12)(x13:p13):p0∧p1∧p2∧p3∧p4∧p5∧p6∧p7∧p8∧p9∧p10∧p11∧p12∧p13:=⟨x0,x1,x2,x3,x4,x5,x6,x7,x8,x9,x10,x11,x12,x13⟩
theorem Em{p0 p1 p2 p3 p4 p5 p6 p7 p8 p9 p10 p11 p12 p13 p14:Prop}(x0:p0)(x1:p1)(x2:p2)(x3:p3)(x4:p4)(x5:p5)(x6:p6)(x7:p7)(x8:p8)(x9:p9)(x10:p10)(x11:p11)(x12:p12)(x13:p13)(x14:p14):p0∧p1∧p2∧p3∧p4∧p5∧p6∧p7∧p8∧p9∧p10∧p11∧p12∧p13∧p14:=⟨x0,x1,x2,x3,x4,x5,x6,x7,x8,x9,x10,x11,x12,x13,x14⟩
theorem xg{p0 p1 p2 p3 p4 p5 p6 p7 p8 p9 p10 p11 p12 p13 p14 p15:Prop}(x0:p0)(x1:p1)(x2:p2)(x3:p3)(x4:p4)(x5:p5)(x6:p6)(x7:p7)(x8:p8)(x9:p9)(x10:p10)(x11:p11)(x12:p12)(x13:p13)(x14:p14)(x15:p15):p0∧p1∧p2∧p3∧p4∧p5∧p6∧p7∧p8∧p9∧p10∧p11∧p12∧p13∧p14∧p15:=⟨x0,x1,x2,x3,x4,x5,x6,x7,x8,x9,x10,x11,x12,x13,x14,x15⟩
theorem Dz{p0 p1 p2 p3 p4 p5 p6 p7 p8 p9 p10 p11 p12 p13 p14 p15 p16:Prop}(x0:p0)(x1:p1)(x2:p2)(x3:p3)(x4:p4)(x5:p5)(x6:p6)(x7:p7)(x8:p8)(x9:p9)(x10:p10)(x11:p11)(x12:p12)(x13:p13)(x14:p14)(x15:p15)(x16:p16):p0∧p1∧p2∧p3∧p4∧p5∧p6∧p7∧p8∧p9∧p10∧p11∧p12∧p13∧p14∧p15∧p16:=⟨x0,x1,x2,x3,x4,x5,x6,x7,x8,x9,x10,x11,x12,x13,x14,x15,x16⟩
theorem Eb{p0 p1 p2 p3 p4 p5 p6 p7 p8 p9 p10 p11 p12 p13 p14 p15 p16 p17 p18 p19:Prop}(x0:p0)(x1:p1)(x2:p2)(x3:p3)(x4:p4)(x5:p5)(x6:p6)(x7:p7)(x8:p8)(x9:p9)(x10:p10)(x11:p11)(x12:p12)(x13:p13)(x14:p14)(x15:p15)(x16:p16)(x17:p17)(x18:p18)(x19:p19):p0∧p1∧p2∧p3∧p4∧p5∧p6∧p7∧p8∧p9∧p10∧p11∧p12∧p13∧p14∧p15∧p16∧p17∧p18∧p19:=⟨x0,x1,x2,x3,x4,x5,x6,x7,x8,x9,x10,x11,x12,x13,x14,x15,x16,x17,x18,x19⟩
theorem wl{G B:Prop}(k:B)(h:PLift B→G:=by
 intro k
 (repeat (first|with_reducible refine bH ?_|with_reducible refine dN ?_|with_reducible refine eG ?_|with_reducible refine aM ?_|with_reducible refine cC ?_|with_reducible refine bM ?_|(refine fV rfl (by simp only[go_sem,reduceIte,Nat.reduceAdd,Nat.reduceSub,Nat.reduceLT,Nat.reduceLeDiff,reduceCtorEq,Nat.reduceEqDiff,Int.reduceToNat];try omega) ?_;simp only[go_sem,reduceIte,Nat.reduceAdd,Nat.reduceSub,Nat.reduceLT,Nat.reduceLeDiff,reduceCtorEq,Nat.reduceEqDiff,Int.reduceToNat])|(with_reducible refine eN ?_)))
 exact k.down):G:=h ⟨k⟩
theorem wle{G B p:Prop}(E:p)(k:B)(h:p→PLift B→G:=by
 intro E k
 (repeat (first|with_reducible refine bH ?_|with_reducible refine dN ?_|with_reducible refine eG ?_|with_reducible refine aM ?_|with_reducible refine cC ?_|with_reducible refine bM ?_|(refine fV rfl (by simp only[E,List.length_map,go_sem,reduceIte,Nat.reduceAdd,Nat.reduceSub,Nat.reduceLT,Nat.reduceLeDiff,reduceCtorEq,Nat.reduceEqDiff,Int.reduceToNat];try omega) ?_;simp only[E,List.length_map,go_sem,reduceIte,Nat.reduceAdd,Nat.reduceSub,Nat.reduceLT,Nat.reduceLeDiff,reduceCtorEq,Nat.reduceEqDiff,Int.reduceToNat])|(with_reducible refine eN ?_)))
 exact k.down):G:=h E ⟨k⟩
attribute [go_sem] Option.some.injEq Prod.mk.injEq false_and and_false Bool.true_eq_false oM tE tq pV mN if_true KI ia mV ed qE jV aA.ok aA.next LOp.ok LOp.next bL.ok bL.out aO.ev bN kv lZ kZ sC Ka Sh.size oU pT dZ aA.dok aA.aDx LOp.dok LOp.aFr nm fi iP iQ List.take_succ_cons List.take_zero List.take_nil List.drop_succ_cons List.drop_zero List.drop_nil List.set_cons_succ List.set_cons_zero List.getD_cons_succ Km List.length_cons List.length_nil List.map_cons List.map_nil List.all_cons List.all_nil Ks List.not_mem_nil List.replicate_succ List.replicate_zero Kh List.nil_append Kw List.isEmpty_cons List.isEmpty_nil fW fE tI Ku Option.isSome_some Option.isSome_none Nat.add_eq KC Nat.add_zero true_and and_true and_self true_implies implies_true false_implies forall_const forall_eq forall_eq_or_imp ne_eq not_false_eq_true not_true_eq_false Bool.not_true Bool.not_false decide_true decide_false Bool.and_true KI Bool.and_false Bool.false_and true_or or_true false_or or_false eq_self Kp CD yk mF aB eA fB iC rM oO rL iZ kP eJ Int.toNat_natCast Int.toNat_zero List.take_length Hp.aAQ Hp.aCF wO uT aA.plain LOp.aAn aA.aCj LOp.aCb rn ab wP AP nV V.aEl V.aCE yh qr qt yg gY gQ cG nX pU beq_true beq_false jd je jf dc de vL vM sN sw dh sI jv wJ jw jx ru rv wK yD tB dg rx zD ju zF rE A8 A6 A7 A5 kq uZ rN sP pc pb pa o9 o7 aw av iw iv iu bc ba az pg pf pd iz iy ix sO fj cU zS Hp.aBO iN Option.isNone_some Option.isNone_none Ek rH sL aA.aBv LOp.isApp El DY DZ Dt B0 BZ
theorem dmo{h H:Hp}{nx n:Nat}(q:aK h nx)(k:aK h nx→aK H n:=by
 intro q;(try dsimp only);repeat (first|exact aK.up q (by omega)|refine aK.aAh ?_ (by omega) _|refine aK.del ?_|refine aK.aAb ?_ _)):aK H n:=k q
theorem kep{h h1 H:Hp}{m n:Nat}(q:Hp.same m h h1)(k:Hp.same m h h1→Hp.same n h H:=by
 intro q;(try dsimp only);repeat (first|exact q|refine aV ?_ (by omega) _|refine aW ?_ (by omega))):Hp.same n h H:=k q
theorem BD{h h1 H:Hp}{m n n0:Nat}{o:Own}{es:List V}(q:Hp.same m h h1)(a:Acc h1 n0 o es)(k:Hp.same m h h1→Acc h1 n0 o es→Hp.same n h H:=by
 intro q a;(try dsimp only);repeat (first|exact q|refine aV ?_ (by omega) _|refine aW ?_ (by omega)|refine eY ?_ (fun id e=>by have:=a.ge id e;omega))):Hp.same n h H:=k q a
theorem acc{h H:Hp}{nx n0:Nat}{o:Own}{es:List V}(a:Acc h n0 o es)(d:aK h nx)(k:Acc h n0 o es→aK h nx→Acc H n0 o es:=by
 intro a d;(try dsimp only);repeat' (first|exact a|exact aK.aEJ d (by omega)|exact gJ|exact jU (by assumption)|refine gH (by omega) ?_|refine gI ?_|refine Acc.set ?_ ?_ _)):Acc H n0 o es:=k a d
theorem lef{h h1 H:Hp}{nx:Nat}(d:aK h nx)(q:h.le h1)(k:aK h nx→h.le h1→h.le H:=by
 intro d q;(try dsimp only);repeat (first|exact q|refine aH d ?_ (by omega) _|refine aL d ?_ (by omega))):h.le H:=k d q
theorem leo{h H:Hp}{nx:Nat}(d:aK h nx)(k:aK h nx→h.le H:=by
 intro d;(try dsimp only);repeat (first|exact Hp.le_refl _|refine aH d ?_ (by omega) _|refine aL d ?_ (by omega))):h.le H:=k d
theorem fls{p:Prop}(h:¬p:=by omega):p=False:=eq_false h
theorem dct{p:Prop} [Decidable p](h:p:=by omega):decide p=true:=decide_eq_true h
theorem dcf{p:Prop} [Decidable p](h:¬p:=by omega):decide p=false:=decide_eq_false h
theorem bqf{a b:Int}(h:a≠b:=by omega):(a==b)=false:=by simpa using h
theorem bqt{a b:Int}(h:a=b:=by omega):(a==b)=true:=by simpa using h
theorem bnt{a b:Int}(h:a≠b:=by omega):(a != b)=true:=by simpa using h
theorem bnf{a b:Int}(h:a=b:=by omega):(a != b)=false:=by simpa using h
theorem wrp{a b:Int}(h:a=b:=by omega)(h1:-9223372036854775808≤b:=by omega)(h2:b<9223372036854775808:=by omega):IntKind.i64.wrap a=b:=by rw[h];exact aY (by omega) (by omega)
theorem wke{a b:List V}{p:Prop}(E:p)(h:p→WkL a b:=by intro E;simp only[WkL,aB,Int.natCast_add,Int.natCast_one,Int.natCast_zero,E,go_sem,reduceIte,Nat.reduceAdd,Nat.reduceSub,Nat.reduceLT,Nat.reduceLeDiff,reduceCtorEq,Nat.reduceEqDiff,Int.reduceToNat]):WkL a b:=h E
theorem e2{A B:Prop}(a:A)(b:B):A∧B:=⟨a,b⟩
theorem e3{A B C:Prop}(a:A)(b:B)(c:C):A∧B∧C:=⟨a,b,c⟩
theorem e4{A B C D:Prop}(a:A)(b:B)(c:C)(d:D):A∧B∧C∧D:=⟨a,b,c,d⟩
theorem e5{A B C D E:Prop}(a:A)(b:B)(c:C)(d:D)(e:E):A∧B∧C∧D∧E:=⟨a,b,c,d,e⟩
theorem e6{A B C D E F:Prop}(a:A)(b:B)(c:C)(d:D)(e:E)(f:F):A∧B∧C∧D∧E∧F:=⟨a,b,c,d,e,f⟩
theorem e7{A B C D E F G:Prop}(a:A)(b:B)(c:C)(d:D)(e:E)(f:F)(g:G):A∧B∧C∧D∧E∧F∧G:=⟨a,b,c,d,e,f,g⟩
theorem e8{A B C D E F G H:Prop}(a:A)(b:B)(c:C)(d:D)(e:E)(f:F)(g:G)(h:H):A∧B∧C∧D∧E∧F∧G∧H:=⟨a,b,c,d,e,f,g,h⟩
theorem e9{A B C D E F G H I:Prop}(a:A)(b:B)(c:C)(d:D)(e:E)(f:F)(g:G)(h:H)(i:I):A∧B∧C∧D∧E∧F∧G∧H∧I:=⟨a,b,c,d,e,f,g,h,i⟩
theorem e10{A B C D E F G H I J:Prop}(a:A)(b:B)(c:C)(d:D)(e:E)(f:F)(g:G)(h:H)(i:I)(j:J):A∧B∧C∧D∧E∧F∧G∧H∧I∧J:=⟨a,b,c,d,e,f,g,h,i,j⟩
theorem e11{A B C D E F G H I J K:Prop}(a:A)(b:B)(c:C)(d:D)(e:E)(f:F)(g:G)(h:H)(i:I)(j:J)(k:K):A∧B∧C∧D∧E∧F∧G∧H∧I∧J∧K:=⟨a,b,c,d,e,f,g,h,i,j,k⟩
theorem e13{A B C D E F G H I J K L M:Prop}(a:A)(b:B)(c:C)(d:D)(e:E)(f:F)(g:G)(h:H)(i:I)(j:J)(k:K)(l:L)(m:M):A∧B∧C∧D∧E∧F∧G∧H∧I∧J∧K∧L∧M:=⟨a,b,c,d,e,f,g,h,i,j,k,l,m⟩
theorem e14{A B C D E F G H I J K L M N:Prop}(a:A)(b:B)(c:C)(d:D)(e:E)(f:F)(g:G)(h:H)(i:I)(j:J)(k:K)(l:L)(m:M)(n:N):A∧B∧C∧D∧E∧F∧G∧H∧I∧J∧K∧L∧M∧N:=⟨a,b,c,d,e,f,g,h,i,j,k,l,m,n⟩
theorem au{G B:Prop}(k:B)(h:PLift B→G:=by
 intro k
 (repeat' (first|(with_reducible first|refine stp ?_|refine bG (by decide) ?_)|((first|(with_reducible refine fO ?_;first|refine eH rfl ?_ ?_|refine aQ (C1 _) rfl (aU _) ?_|refine aQ (C2 _) rfl (aU _) ?_|refine aQ (C3 _) rfl (aU _) ?_|refine aQ (C4 _) rfl (aU _) ?_|refine aQ C5 rfl (aU _) ?_|refine aQ C6 rfl (aU _) ?_|(first|refine cV rfl ?_|refine cW rfl ?_)|refine cA rfl ?_)|(with_reducible refine fP ?_;first|refine bY rfl ?_ ?_|refine bJ (D1 _) rfl (bK _) ?_|refine bJ (D2 _) rfl (bK _) ?_|refine bJ (D3 _) rfl (bK _) ?_|refine bJ (D4 _) rfl (bK _) ?_|refine bJ (D5 _) rfl (bK _) ?_|refine bJ (D6 _) rfl (bK _) ?_|(first|refine cX rfl ?_|refine cY rfl ?_)|refine cB rfl ?_|refine cD (cQ ?_)|refine cD (dY ?_))|(with_reducible refine fQ ?_;refine dP rfl ?_))<;>try simp only[go_sem,reduceIte,Nat.reduceAdd,Nat.reduceSub,Nat.reduceLT,Nat.reduceLeDiff,reduceCtorEq,Nat.reduceEqDiff,Int.reduceToNat])|(with_reducible refine gE ?_;refine dJ rfl ?_)|omega))
 exact k.down):G:=h ⟨k⟩
theorem aus{G B:Prop}(k:B)(h:PLift B→G:=by
 intro k
 (repeat' (first|(with_reducible first|refine stp ?_|refine bG (by decide) ?_)|((first|(with_reducible refine fO ?_;first|refine eH rfl ?_ ?_|refine aQ (C1 _) rfl (aU _) ?_|refine aQ (C2 _) rfl (aU _) ?_|refine aQ (C3 _) rfl (aU _) ?_|refine aQ (C4 _) rfl (aU _) ?_|refine aQ C5 rfl (aU _) ?_|refine aQ C6 rfl (aU _) ?_|(first|refine cV rfl ?_|refine cW rfl ?_)|refine cA rfl ?_)|(with_reducible refine fP ?_;first|refine bY rfl ?_ ?_|refine bJ (D1 _) rfl (bK _) ?_|refine bJ (D2 _) rfl (bK _) ?_|refine bJ (D3 _) rfl (bK _) ?_|refine bJ (D4 _) rfl (bK _) ?_|refine bJ (D5 _) rfl (bK _) ?_|refine bJ (D6 _) rfl (bK _) ?_|(first|refine cX rfl ?_|refine cY rfl ?_)|refine cB rfl ?_|refine cD (cQ ?_)|refine cD (dY ?_))|(with_reducible refine fQ ?_;refine dP rfl ?_))<;>try simp only[go_sem,reduceIte,Nat.reduceAdd,Nat.reduceSub,Nat.reduceLT,Nat.reduceLeDiff,reduceCtorEq,Nat.reduceEqDiff,Int.reduceToNat])|omega))
 exact k.down):G:=h ⟨k⟩
theorem aue{G B p:Prop}(E:p)(k:B)(h:p→PLift B→G:=by
 intro E k
 (repeat' (first|(with_reducible first|refine stp ?_|refine bG (by decide) ?_)|((first|(with_reducible refine fO ?_;first|refine eH rfl ?_ ?_|refine aQ (C1 _) rfl (aU _) ?_|refine aQ (C2 _) rfl (aU _) ?_|refine aQ (C3 _) rfl (aU _) ?_|refine aQ (C4 _) rfl (aU _) ?_|refine aQ C5 rfl (aU _) ?_|refine aQ C6 rfl (aU _) ?_|refine rD rfl (acc aAl hdm) rfl (by simp) (by simp only[E,List.length_map,go_sem,reduceIte,Nat.reduceAdd,Nat.reduceSub,Nat.reduceLT,Nat.reduceLeDiff,reduceCtorEq,Nat.reduceEqDiff,Int.reduceToNat];try omega) ?_|refine rC rfl rfl (by simp only[E,List.length_map,go_sem,reduceIte,Nat.reduceAdd,Nat.reduceSub,Nat.reduceLT,Nat.reduceLeDiff,reduceCtorEq,Nat.reduceEqDiff,Int.reduceToNat];try omega) ?_|(first|refine cV rfl ?_|refine cW rfl ?_)|refine cA rfl ?_)|(with_reducible refine fP ?_;first|refine bY rfl ?_ ?_|refine bJ (D1 _) rfl (bK _) ?_|refine bJ (D2 _) rfl (bK _) ?_|refine bJ (D3 _) rfl (bK _) ?_|refine bJ (D4 _) rfl (bK _) ?_|refine bJ (D5 _) rfl (bK _) ?_|refine bJ (D6 _) rfl (bK _) ?_|refine mU rfl rfl (by decide) (by(simp only[cU,go_sem,reduceIte,Nat.reduceAdd,Nat.reduceSub,Nat.reduceLT,Nat.reduceLeDiff,reduceCtorEq,Nat.reduceEqDiff,Int.reduceToNat])<;>try omega) (by simp only[go_sem,reduceIte,Nat.reduceAdd,Nat.reduceSub,Nat.reduceLT,Nat.reduceLeDiff,reduceCtorEq,Nat.reduceEqDiff,Int.reduceToNat]) (by simp only[go_sem,reduceIte,Nat.reduceAdd,Nat.reduceSub,Nat.reduceLT,Nat.reduceLeDiff,reduceCtorEq,Nat.reduceEqDiff,Int.reduceToNat]) (by simp only[E,go_sem,reduceIte,Nat.reduceAdd,Nat.reduceSub,Nat.reduceLT,Nat.reduceLeDiff,reduceCtorEq,Nat.reduceEqDiff,Int.reduceToNat]) ?_|(first|refine cX rfl ?_|refine cY rfl ?_)|refine cB rfl ?_|refine cD (cQ ?_)|refine cD (dY ?_))|(with_reducible refine fQ ?_;refine dP rfl ?_))<;>try simp only[E,List.length_map,go_sem,reduceIte,Nat.reduceAdd,Nat.reduceSub,Nat.reduceLT,Nat.reduceLeDiff,reduceCtorEq,Nat.reduceEqDiff,Int.reduceToNat])|(with_reducible refine gE ?_;refine dJ rfl ?_)|omega))
 exact k.down):G:=h E ⟨k⟩
theorem Zn{G B:Prop}(k:B)(h:PLift B→G:=by intro k;simp only[go_sem,reduceIte,Nat.reduceAdd,Nat.reduceSub,Nat.reduceLT,Nat.reduceLeDiff,reduceCtorEq,Nat.reduceEqDiff,Int.reduceToNat];exact k.down):G:=h ⟨k⟩
theorem ZN{P:Prop}(h:P:=by first|omega|(dsimp only;omega)):P:=h
theorem Zw{P:Prop}(h:P:=by dsimp only;omega):P:=h
theorem ZW{G B:Prop}(k:B)(h:PLift B→G:=by intro k;(with_reducible first|refine stp ?_|refine bG (by decide) ?_);exact k.down):G:=h ⟨k⟩
theorem Zx{G B:Prop}(k:B)(h:PLift B→G:=by intro k;(first|refine cV rfl ?_|refine cW rfl ?_|refine cA rfl ?_);exact k.down):G:=h ⟨k⟩
theorem ZX{G B:Prop}(k:B)(h:PLift B→G:=by intro k;(first|refine cX rfl ?_|refine cY rfl ?_|refine cB rfl ?_|refine cD (cQ ?_)|refine cD (dY ?_));exact k.down):G:=h ⟨k⟩
theorem Zy{G B:Prop}(k:B)(h:PLift B→G:=by intro k;(with_reducible refine fQ ?_;refine dP rfl ?_);exact k.down):G:=h ⟨k⟩
theorem ZY{G B:Prop}(k:B)(h:PLift B→G:=by intro k;(with_reducible refine gE ?_;refine dJ rfl ?_);exact k.down):G:=h ⟨k⟩
end Go.Proofs.YtecepaehmojpgaaGreat
