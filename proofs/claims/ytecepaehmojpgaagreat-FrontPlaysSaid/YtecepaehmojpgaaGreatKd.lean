/-
Texts of this proof,one behind the other. No conditions.
-/
import Derived.Test.YtecepaehmojpgaaGreatKcb
open Go.Proofs.YtecepaehmojpgaaGreat.V renaming undef→Ka,aAD→Kb,fits→Ke,pick→Kg
open Go.Proofs.YtecepaehmojpgaaGreat.Hp renaming set→Kc,del→Kd
open List renaming getD_eq_getElem?_getD→Kf,cons_append→Kh,getElem?_set_ne→Ki,getElem?_eq_getElem→Kj,filterMap_cons→Kk,getD_cons_zero→Km,mem_cons→Ks,append_nil→Kw,getElem?_eq_none→Ky,filterMap_nil→Kz,all_eq_true→KE
open Array renaming getD_eq_getD_getElem?→Ko,getElem?_eq_getElem→Kq,getElem?_eq_none→Kv
open Bool renaming false_eq_true→Kp,and_eq_true→Kt,true_and→KI
open Option renaming getD_some→Ku
open Nat renaming zero_le→Kx,lt_or_ge→KB,zero_add→KC,le_refl→KD,lt_irrefl→KH
open Go renaming undef→KF
open Go.World renaming cell?→KG
set_option linter.unusedSimpArgs false
set_option linter.unusedVariables false
set_option linter.unusedSectionVars false
namespace Go.Proofs.YtecepaehmojpgaaGreat
open Go.RowKit
theorem DG{K:Ker}{h:Hp}(hr:Rel K h){n a:Nat}{k:Sh}{es:List V}{cv:Value}(hn:h n=some (.arr k es))(ha:¬K.live a)(hv:VR K (.rs n k 0 es.length) cv):
 ∃K',K'.w=K.w∧K.le K'∧(∀m,K'.live m→K.live m∨m=a)∧VR K' (.sl k (.tok a) es) cv∧Rel K' ((h.del n).set a .tip):=by
 have hb:=hr.blk n _ hn;cases hb with
 |arr _ _ c T hh hcs aBN aAG hcv=>
  cases hv with
  |rs _ _ _ _ cap hl aAa hm=>
   obtain⟨T',m,hm1,hm2⟩:=hm;have hcm:m=c.size:=by simp[World.shape?,hh] at hm1;exact hm1.2.symm
   subst hcm;have hblk:K.mu n<K.w.heap.size:=by
    rcases KB (K.mu n) K.w.heap.size with hlt|hge
    ·exact hlt
    rw[Kv hge] at hh;exact absurd hh Zm
   have hle:K.le (K.aAI a (K.mu n) (es.length*k.size)):=K.aAn ha (by rw[aBN];exact Kx _);have hmu:(K.aAI a (K.mu n) (es.length*k.size)).mu a=K.mu n:=by simp[Ker.aAI]
   refine⟨K.aAI a (K.mu n) (es.length*k.size),rfl,hle,fun m hm=>hm.symm,?_,hr.aAI hn ha (by rw[aBN];exact Kx _) (.tip c T (by rw[hmu];exact hh) (by simp[Ker.aAI]) (by simp only[Ker.aAI,if_true];exact hcs))⟩;have:=VR.sl (K:=K.aAI a (K.mu n) (es.length*k.size)) k (.tok a) es (K.mu n) 0 cap (fun j=>c.getD j KF) hblk aAG
    (fun j hj=>by
      show K.w.cell? _=_;simp only[KG,hh,KC];rw[Ko,Kq or];rfl)
    (fun j hj=> .inr (by simp only[Ker.aAI,if_true];omega))
    (fun i hi j hj=>(hcv i hi j hj).mono hle) aAa Zm Zm
    (fun m hm=>by
      injection hm with hm;subst hm;refine⟨.inl rfl, .inr ⟨hmu,by simp[Ker.aAI],T',c.size,?_,by simpa using Nat.le_of_eq hm2⟩⟩;exact hm1)
   simpa using this
theorem mb{P:Program}{f:FuncId}{args:List V}{h:Hp}{nx:Nat}{k:Sh}{G:List V→Prop}
 (c:bD P f args h nx fun v h' _=>∃n es,nx≤n∧v= .rs n k 0 es.length∧h'=h.set n (.arr k es)∧G es):
 bD P f args h nx fun v h' _=>∃id es,nx≤id∧v= .sl k (.tok id) es∧h'=h.set id .tip∧G es:=by
 refine⟨c.1,fun K aAK hl hr hv=>(c.2 K aAK hl hr hv).mono ?_⟩;rintro e w' ⟨K',v,cv,h',nx',rfl,he,hle,hvr,aAV,hlv,hnx,n,es,hn,rfl,rfl,hG⟩;have hfr:¬K'.live nx':=fun hh=>KH _ (hlv nx' hh).1;have aAT:(h.set n (.arr k es)) n=some (.arr k es):=by simp[Kc]
 obtain⟨K'',q1,q2,q3,q4,q5⟩:=DG aAV aAT hfr hvr;have aBO:h n=none:=by
  cases hd:h n with
  |none=>rfl
  |some b=>exact absurd (hl n (hr.lt n b hd)) or
 have hh:((h.set n (.arr k es)).del n).set nx' .tip=h.set nx' .tip:=by
  funext x;unfold Kc Kd;by_cases e1:x=nx'
  ·simp[e1]
  by_cases e2:x=n
  ·subst e2;simp[e1,aBO]
  simp[e1,e2]
 rw[hh] at q5;refine⟨K'',_,cv,_,nx'+1,q1,he,hle.trans q2,q4,q5,fun m hm=>?_,or,nx',es,hnx,rfl,rfl,hG⟩;rcases q3 m hm with hm|rfl
 ·exact⟨by have:=(hlv m hm).1;omega,(hlv m hm).2⟩
 exact⟨or, .inr hnx⟩
theorem Hp.aAH(h:Hp)(n:Nat)(b:Blk)(m:Nat):(h.set n b) m=if m=n then some b else h m:=rfl
theorem Hp.aBm(h:Hp)(n m:Nat):(h.del n) m=if m=n then Option.none else h m:=rfl
def aI(h:Hp)(nx:Nat):Prop:=∀m b,h m=some b→m<nx
theorem bD.dom{P:Program}{f:FuncId}{args:List V}{h:Hp}{nx:Nat}{R:V→Hp→Nat→Prop}(c:bD P f args h nx R):bD P f args h nx fun v h' nx'=>R v h' nx'∧aI h' nx'∧nx≤nx':=
 ⟨c.1,fun K aAK hl aAV hv=>(c.2 K aAK hl aAV hv).mono fun _ _ ⟨K',v,cv,h',nx',a,b,c,d,e,g,i,j⟩=>⟨K',v,cv,h',nx',a,b,c,d,e,g,i,j,fun m b hm=>(g m (e.lt m b hm)).1,i⟩⟩
theorem gA.dom{P:Program}{n:Nat}{args:List V}{h:Hp}{nx:Nat}{R:V→Hp→Nat→Prop}(c:gA P n args h nx R):gA P n args h nx fun v h' nx'=>R v h' nx'∧aI h' nx'∧nx≤nx':=
 fun m K aAK hl hn aAV hv=>(c m K aAK hl hn aAV hv).mono fun _ _ ⟨K',v,cv,h',nx',a,b,c,d,e,g,i,j⟩=>⟨K',v,cv,h',nx',a,b,c,d,e,g,i,j,fun m b hm=>(g m (e.lt m b hm)).1,i⟩
theorem aI.set{h:Hp}{nx nx' n:Nat}(hd:aI h nx)(hn:n<nx')(hle:nx≤nx')(b:Blk):aI (h.set n b) nx':=fun m c e=>by
 unfold Kc at e;split at e
 ·omega
 have:=hd m c e;omega
theorem aI.del{h:Hp}{nx n:Nat}(hd:aI h nx):aI (h.del n) nx:=fun m c e=>by
 unfold Kd at e;split at e
 ·cases e
 exact hd m c e
theorem aI.up{h:Hp}{nx nx':Nat}(hd:aI h nx)(hle:nx≤nx'):aI h nx':=fun m c e=>by have:=hd m c e;omega
theorem aI.le{h h':Hp}{nx:Nat}(hd:aI h' nx)(hle:h.le h'):aI h nx:=fun m c e=>hd m c (hle m c e)
theorem m8{h h':Hp}{n:Nat}{b:Blk}(hle:h.le h')(hn:h' n=some b):(h.set n b).le h':=fun m c e=>by
 unfold Kc at e;split at e
 ·rename_i em;subst em;injection e with e;subst e;exact hn
 exact hle m c e
theorem eV{h h':Hp}{n:Nat}(hle:h.le h')(hn:h n=none)(b:Blk):h.le (h'.set n b):=fun m c e=>by
 unfold Kc;split
 ·rename_i em;subst em;rw[hn] at e;cases e
 exact hle m c e
theorem oS{h h':Hp}{n:Nat}(hle:h.le h')(hn:h n=none):h.le (h'.del n):=fun m c e=>by
 unfold Kd;split
 ·rename_i em;subst em;rw[hn] at e;cases e
 exact hle m c e
theorem aI.none{h:Hp}{nx n:Nat}(hd:aI h nx)(hn:nx≤n):h n= .none:=by
 cases e:h n with
 |none=>rfl
 |some b=>exact absurd (hd n b e) or
theorem Fq{h h':Hp}(hle:h.le h'):Hp.has h h':=fun n b e _=>hle n _ e
theorem Hp.le_trans{a b c:Hp}(h:a.le b)(h':b.le c):a.le c:=fun n x e=>h' n x (h n x e)
def AR(P:Program)(gf:Nat)(aAY:List V)(hb:Hp)(xs:List (List V)):Prop:=
 ∀(yn:Nat) (J:Nat→Hp→Nat→Prop) (D:Hp→Nat→Prop),
  (∀i h nx,J i h nx→hb.has h)→(∀i h nx nx',J i h nx→nx≤nx'→J i h nx')→(∀h nx nx',D h nx→nx≤nx'→D h nx')→
  (∀i (hi:i<xs.length) h nx,J i h nx→aI h nx→gA P yn xs[i] h nx fun v h' nx'=>(v= .bool true∧J (i+1) h' nx')∨(v= .bool false∧D h' nx'))→
  ∀h nx,J 0 h nx→aI h nx→bD P gf (.yld yn::aAY) h nx fun _ h' nx'=>J xs.length h' nx'∨D h' nx'
def FD(r:Nat)(X:Blk)(J:St→Prop):cM→St→Prop
 | .normal,s=>s.h r=some X∧J s
 |_,_=>False
def vM(r:Nat)(X:Blk)(I:Hp→Nat→Prop)(E:cM→Hp→Nat→Prop):cM→St→Prop
 | .normal,s=>s.h r=some X∧I s.h s.nx
 |e,s=>s.h r=some X∧E e s.h s.nx
theorem sU{r:Nat}{X:Blk}{J:St→Prop}{s:St}(h:s.h r=some X)(hj:J s):FD r X J .normal s:=⟨h,hj⟩
theorem oO{r:Nat}{X:Blk}{I:Hp→Nat→Prop}{E:cM→Hp→Nat→Prop}{s:St}(h:s.h r=some X)(hi:I s.h s.nx):vM r X I E .normal s:=⟨h,hi⟩
theorem sF{P:Program}{g:aP}{ps:List Nat}{as b:aZ}{Q:cM→St→Prop}{s:St}{gf:Nat}{aAY:List V}{hb:Hp}{xs:List (List V)}(hit:AR P gf aAY hb xs)(hg:g.ev s.sl= .fn (.func gf) [] aAY)
 (hlen:∀x∈xs,x.length=ps.length) (hd:aI s.h s.nx) (I:Nat→Hp→Nat→Prop) (E:cM→Hp→Nat→Prop)
 (hbI:∀i h nx,I i h nx→hb.has h) (hnI:∀i h nx nx',I i h nx→nx≤nx'→I i h nx') (hsI:∀i h nx b,I i h nx→I i (h.set s.nx b) nx)
 (hnE:∀e h nx nx',E e h nx→nx≤nx'→E e h nx') (hsE:∀e h nx b,E e h nx→E e (h.set s.nx b) nx)
 (h0:I 0 s.h (s.nx+1))
 (aCk:∀i (hi:i<xs.length) h nx X,I i h nx→s.nx<nx→h s.nx=some X→aI h nx→
   lwp P as (FD s.nx X fun s1=>∀X',lwp P b (vM s.nx X' (I (i+1)) E) ⟨s1.sl,s1.h.set s.nx X',s1.nx⟩) ⟨aAr s.sl ps xs[i],h,nx⟩)
 (aCo:∀h nx,I xs.length h nx→s.nx<nx→aI h nx→Q .normal ⟨s.sl,h.del s.nx,nx⟩)
 (hex:∀e h nx,E e h nx→s.nx<nx→aI h nx→(e= .ret∨∃id,e= .exit id)→Q e ⟨s.sl,h.del s.nx,nx⟩):lwp P (.range g ps as b) Q s:=by
 simp only[lwp,hg];intro rcd U hpl hY;have aAT:∀(h:Hp) (b:Blk),(h.set s.nx b) s.nx=some b:=fun h b=>by simp[Kc]
 refine((hit s.nx (fun i h nx=>I i h nx∧h s.nx=some (.obj (rcd .ready none) U))
  (fun h nx=>(h s.nx=some (.obj (rcd .done (some .ret)) U)∧E .ret h nx)∨∃id,h s.nx=some (.obj (rcd .done (some (.exit id))) U)∧E (.exit id) h nx)
  (fun i h nx hj=>hbI i h nx hj.1) (fun i h nx nx' hj hle=>⟨hnI i h nx nx' hj.1 hle,hj.2⟩)
  (fun h nx nx' hD hle=>hD.imp (fun hD=>⟨hD.1,hnE _ _ _ _ hD.2 hle⟩) (fun⟨id,hD⟩=>⟨id,hD.1,hnE _ _ _ _ hD.2 hle⟩)) ?_ _ (s.nx+1) ⟨hsI _ _ _ _ h0,aAT _ _⟩ ?_).dom).mono ?_
 ·rintro i hi h nx ⟨hI,hr⟩ aBO;refine hY xs[i] h nx _ (hlen _ (List.getElem_mem _)) hr ?_;refine nD ?_ (aCk i hi h nx _ hI (aBO _ _ hr) hr aBO);intro e s1 hq;cases e with
  |exit id=>exact hq.elim
  |ret=>exact hq.elim
  |normal=>
   refine⟨hq.1,nD ?_ (hq.2 (.obj (rcd .busy none) U))⟩;intro e s2 hq2;cases e with
   |normal=>exact⟨hq2.1, .inl ⟨rfl,hsI _ _ _ _ hq2.2,aAT _ _⟩⟩
   |ret=>exact⟨hq2.1, .inr ⟨rfl, .inl ⟨aAT _ _,hsE _ _ _ _ hq2.2⟩⟩⟩
   |exit id=>exact⟨hq2.1, .inr ⟨rfl, .inr ⟨id,aAT _ _,hsE _ _ _ _ hq2.2⟩⟩⟩
 ·intro m b hm;unfold Kc at hm;split at hm
  ·omega
  have:=hd m b hm;omega
 rintro v h' nx' _ ⟨(⟨hI,hr⟩|(⟨hr,hE⟩|⟨id,hr,hE⟩)),aBO,hle⟩
 ·exact .inl ⟨hr,aCo _ _ hI or aBO⟩
 ·exact .inr (.inl ⟨hr,hex _ _ _ hE or aBO (.inl rfl)⟩)
 exact .inr (.inr ⟨id,hr,hex _ _ _ hE or aBO (.inr ⟨id,rfl⟩)⟩)
def bH{ι:Type}(sl:ι→List V)(C:ι→Hp→Nat→Prop)(m:ι→Nat)(n:Nat)(Q:cM→St→Prop):cM→St→Prop
 | .normal,s=>∃s',af s s'∧∃i,m i<n∧WkL s'.sl (sl i)∧C i s'.h s'.nx
 |e,s=>Q e s
section
variable{P:Program}{Q:cM→St→Prop}{s:St}{ι:Type}{sl:ι→List V}{C:ι→Hp→Nat→Prop}{m:ι→Nat}{n:Nat}
theorem aD{sl0:List V}{h:Hp}{nx:Nat}(i:ι)(hm:m i<n)(hC:C i h nx)(hw:WkL sl0 (sl i)):bH sl C m n Q .normal ⟨sl0,h,nx⟩:=⟨_,(Wk.refl _).tell,i,hm,hw,hC⟩
theorem dC{id:Nat}(h:Q (.exit id) s):bH sl C m n Q (.exit id) s:=h
theorem gH(h:Q .ret s):bH sl C m n Q .ret s:=h
theorem aO{c:aZ}(sl:ι→List V)(C:ι→Hp→Nat→Prop)(m:ι→Nat)(i0:ι)(h0:C i0 s.h s.nx)(hw:WkL s.sl (sl i0))(hr:∀i h nx,C i h nx→lwp P c (bH sl C m (m i) Q) ⟨sl i,h,nx⟩):lwp P (.loop c) Q s:=by
 refine nE (fun p:ι×Hp×Nat=>C p.1 p.2.1 p.2.2) (fun p=>⟨sl p.1,p.2.1,p.2.2⟩) (fun p=>m p.1) (i0,s.h,s.nx) h0 ⟨hw,Hp.le_refl _,KD _⟩ ?_;rintro⟨i,h,nx⟩ hC;refine nD ?_ (hr i h nx hC);intro e s' hq;cases e with
 |normal=>
  obtain⟨s2,h0,j,h1,h2,h3⟩:=hq;exact⟨(j,s2.h,s2.nx),h3,h1,h0.trans (Wk.tell ⟨h2,Hp.le_refl _,KD _⟩)⟩
 |exit id=>exact hq
 |ret=>exact hq
end
theorem aI.aAh{h:Hp}{nx n:Nat}(hd:aI h nx)(hn:n<nx)(b:Blk):aI (h.set n b) nx:=hd.set hn (KD _) b
def aA.plain(o:aA):Bool:=match o.g with
 |none=> !o.op.aAs
 |some _=>false
def xU:List aA→List aA
 | []=>[]
 |o::r=>match o.plain with
  |true=>o::xU r
  |false=>[]
def vY:List aA→List aA
 | []=>[]
 |o::r=>match o.plain with
  |true=>vY r
  |false=>o::r
theorem Bg{P:Program}{Q:St→Prop}:∀(l:List aA) (s:St),rJ (xU l) s→bF P (vY l) Q (kD (xU l) s)→bF P l Q s
 | [],s,_,h=>h
 |o::r,s,ho,h=>by
  cases hc:o.plain with
  |false=>simp only[xU,vY,hc] at ho h;exact h
  |true=>
   simp only[xU,vY,hc] at ho h;have aEy:o.op.aAs=false:=by
    unfold aA.plain at hc;split at hc
    ·simpa using hc
    cases hc
   exact tL aEy ho.1 (Bg r _ ho.2 h)
theorem wc{P:Program}{Q:St→Prop}{s:St}:bF P [] Q s=Q s:=rfl
theorem dZ{P:Program}{Q:St→Prop}{s:St}(h:Q s):bF P [] Q s:=h
theorem eU{P:Program}{Q:St→Prop}{o:aA}{r:List aA}{s:St}(_:o.plain=true)(ho:rJ (xU (o::r)) s)(h:bF P (vY (o::r)) Q (kD (xU (o::r)) s)):bF P (o::r) Q s:=Bg _ s ho h
theorem mA{P:Program}{Q:St→Prop}{s:St}{dst:Option Nat}{k:Sh}{bs:Nat}{x y:aP}{r:List aA}{ys:List V}(hx:x.ev s.sl= .sl k .nil [])(hy:eL s.h (y.ev s.sl)=some (k,ys))(hne:ys≠ [])(hb:ys.length*bs≤140737488355328)
 (h:bF P r Q ⟨bQ s.sl dst (.rs s.nx k 0 ys.length),s.h.set s.nx (.arr k ys),s.nx+1⟩):bF P (⟨dst,none, .append k bs x y⟩::r) Q s:=by
 unfold bF;simp only[LOp.run,LOp.sem,hy,hx];exact⟨trivial,trivial,by simpa using hb, .inr ⟨trivial,trivial,hne,h⟩⟩
theorem c8{P:Program}{Q:St→Prop}{s:St}{dst:Option Nat}{k:Sh}{bs n len:Nat}{x y:aP}{r:List aA}{es ys:List V}(hx:x.ev s.sl= .rs n k 0 len)(hn:s.h n=some (.arr k es))(hl:len≤es.length)(hy:eL s.h (y.ev s.sl)=some (k,ys))(hne:ys≠ [])(hb:(len+ys.length)*bs≤140737488355328)
 (h:bF P r Q ⟨bQ s.sl dst (.rs s.nx k 0 (len+ys.length)),(s.h.del n).set s.nx (.arr k (es.take len++ys)),s.nx+1⟩):bF P (⟨dst,none, .append k bs x y⟩::r) Q s:=by
 unfold bF;simp only[LOp.run,LOp.sem,hy,hx,hn];exact⟨trivial,trivial, .inr ⟨trivial,trivial,hl,hne,hb,h⟩⟩
theorem rL{P:Program}{Q:St→Prop}{s:St}{dst:Option Nat}{k:Sh}{xs:List aP}{r:List aA}(hf:∀e∈xs,(e.ev s.sl).fits k=true)
 (h:bF P r Q ⟨bQ s.sl dst (.rs s.nx k 0 xs.length),s.h.set s.nx (.arr k (xs.map (aP.ev s.sl))),s.nx+1⟩):bF P (⟨dst,none, .aAi k xs⟩::r) Q s:=by
 unfold bF;exact⟨hf, .inr h⟩
theorem ab{a b:Nat}(h:a≤1000000000)(h':b≤140737):a*b≤140737488355328:=Nat.le_trans (Nat.mul_le_mul h h') ZM
def LOp.aCj:LOp→Bool
 | .call _ _=>true
 | .aAe _ _=>true
 | .aAc _ _ _=>true
 | .store _ _ _=>true
 |_=>false
def aA.aCs(o:aA):Bool:=match o.g with
 |none=> !o.op.aCj
 |some _=>false
def oY:List (aA×List Nat)→List (aA×List Nat)
 | []=>[]
 |o::r=>match o.1.aCs with
  |true=>o::oY r
  |false=>[]
def qY:List (aA×List Nat)→List (aA×List Nat)
 | []=>[]
 |o::r=>match o.1.aCs with
  |true=>qY r
  |false=>o::r
def lw:List (aA×List Nat)→List (aA×List Nat)
 | []=>[]
 |o::r=>match o.1.op.aCj with
  |true=>[]
  |false=>o::lw r
def nO:List (aA×List Nat)→List (aA×List Nat)
 | []=>[]
 |o::r=>match o.1.op.aCj with
  |true=>o::r
  |false=>nO r
theorem bt:∀l:List (aA×List Nat),lw l++nO l=l
 | []=>rfl
 |o::r=>by
  unfold lw nO;split
  ·rfl
  rw[Kh,bt r]
theorem xv{P:Program}{h0:Hp}{nx0:Nat}{Q:List V→List (Option Blk)→List (Option Con)→Prop}{l:List (aA×List Nat)}{sl:List V}{aAL:List (Option Blk)}{cons:List (Option Con)}(ho:qX h0 nx0 (lw l) ⟨sl,aAL,cons⟩)
 (h:dI P h0 nx0 (nO l) (eG h0 nx0 (lw l) ⟨sl,aAL,cons⟩).sl (eG h0 nx0 (lw l) ⟨sl,aAL,cons⟩).aAL (eG h0 nx0 (lw l) ⟨sl,aAL,cons⟩).cons Q):dI P h0 nx0 l sl aAL cons Q:=by
 have:=yB (P:=P) (Q:=Q) (r:=nO l) (lw l) ⟨sl,aAL,cons⟩ ho h;rwa [bt] at this
theorem jb:∀l:List (aA×List Nat),oY l++qY l=l
 | []=>rfl
 |o::r=>by
  unfold oY qY;split
  ·rw[Kh,jb r]
  rfl
theorem cB{P:Program}{h0:Hp}{nx0:Nat}{Q:List V→List (Option Blk)→List (Option Con)→Prop}{o:aA×List Nat}{r:List (aA×List Nat)}{sl:List V}{aAL:List (Option Blk)}{cons:List (Option Con)}(_:o.1.aCs=true)(ho:qX h0 nx0 (oY (o::r)) ⟨sl,aAL,cons⟩)
 (h:dI P h0 nx0 (qY (o::r)) (eG h0 nx0 (oY (o::r)) ⟨sl,aAL,cons⟩).sl (eG h0 nx0 (oY (o::r)) ⟨sl,aAL,cons⟩).aAL (eG h0 nx0 (oY (o::r)) ⟨sl,aAL,cons⟩).cons Q):dI P h0 nx0 (o::r) sl aAL cons Q:=by
 have:=yB (P:=P) (Q:=Q) (r:=qY (o::r)) (oY (o::r)) ⟨sl,aAL,cons⟩ ho h;rwa [jb] at this
theorem gF(k:Sh):dA k k 0:=by cases k<;>simp[dA]
theorem gZ{k:Sh}{v:V}(h:v.fits k=true):cK k 0 v=v:=by
 cases k with
 |leaf=>cases v<;>first|rfl|(simp[Ke,Kb] at h)
 |agg m=>
  cases v with
  |agg cs=>
   simp only[Ke,Kt,decide_eq_true_eq] at h;simp[cK,V.cells,h.1]
  |_=>simp[Ke] at h
theorem og(o:Nat):dA .leaf .leaf o=(o=0):=rfl
theorem oh(n o:Nat):dA (.agg n) .leaf o=(o<n):=rfl
theorem oi(n m o:Nat):dA (.agg n) (.agg m) o=(o+m≤n):=rfl
theorem ia(o:Nat)(v:V):cK .leaf o v=v.cell o:=rfl
theorem ib(m o:Nat)(cs:List V):cK (.agg m) o (.agg cs)=if o=0∧cs.length=m then .agg cs else .agg ((cs.drop o).take m):=rfl
theorem wN(o:Nat)(cs:List V)(v:V):bW .leaf o (.agg cs) v= .agg (cs.set o v):=rfl
theorem wO(m o:Nat)(cs:List V)(v:V):bW (.agg m) o (.agg cs) v=if o=0∧cs.length=m then v else .agg (cs.take o++v.cells++cs.drop (o+m)):=rfl
theorem CU(n:Nat)(ks:List LK)(xs ys:List V):veq (.plain (.agg n) ks) (.agg xs) (.agg ys)=if ((V.agg xs).fits (.agg n)&&(V.agg ys).fits (.agg n))=true then iY ks xs ys else none:=rfl
theorem CR(ks:List LK)(k k':IntKind)(a b:Int):veq (.plain .leaf ks) (.int k a) (.int k' b)=iY ks [.int k a] [.int k' b]:=rfl
theorem CT(ks:List LK)(a b:Bool):veq (.plain .leaf ks) (.bool a) (.bool b)=iY ks [.bool a] [.bool b]:=rfl
theorem CQ(ks:List LK)(a b:ByteArray):veq (.plain .leaf ks) (.str a) (.str b)=iY ks [.str a] [.str b]:=rfl
theorem qf(cs:List V):(V.agg cs).cells=cs:=rfl
theorem wB{v:V}(h:v.aAD=true):v.cells=[v]:=by cases v<;>first|rfl|(simp[Kb] at h)
theorem yJ(cs:List V)(j:Nat):(V.agg cs).cell j=cs.getD j Ka:=rfl
theorem tT{v:V}(h:v.aAD=true):v.cell 0=v:=by cases v<;>first|rfl|(simp[Kb] at h)
theorem th:veq .ptr .aAJ .aAJ=some true:=rfl
theorem tf(n:Nat)(k:Sh)(i o:Nat):veq .ptr .aAJ (.ptr n k i o)=some false:=rfl
theorem te(n:Nat)(k:Sh)(i o:Nat):veq .ptr (.ptr n k i o) .aAJ=some false:=rfl
theorem tc(k:Sh)(es:List V)(i o:Nat):veq .ptr .aAJ (.ept k es i o)=some false:=rfl
theorem ta(k:Sh)(es:List V)(i o:Nat):veq .ptr (.ept k es i o) .aAJ=some false:=rfl
theorem dz(k k':Sh)(o:Own)(es es':List V):veq .slice (.sl k o es) (.sl k' .nil es')=some (o== .nil):=rfl
theorem dy(n:Nat)(k k':Sh)(o l:Nat)(es':List V):veq .slice (.rs n k o l) (.sl k' .nil es')=some false:=rfl
theorem ml:veq .func .aAv .aAv=some true:=rfl
theorem mj(f:Fn)(a b:List V):veq .func .aAv (.fn f a b)=some false:=rfl
theorem mi(f:Fn)(a b:List V):veq .func (.fn f a b) .aAv=some false:=rfl
theorem ei:veq (.iface true) .nilIface .nilIface=some true:=rfl
theorem ef(c:Bool)(t:Nat)(v:V):veq (.iface c) .nilIface (.iface t v)=some false:=by cases c<;>rfl
theorem ed(c:Bool)(t:Nat)(v:V):veq (.iface c) (.iface t v) .nilIface=some false:=by cases c<;>rfl
theorem tq:veq .map .aAW .aAW=some true:=rfl
theorem tj(n:Nat):veq .map .aAW (.map n)=some false:=rfl
theorem ti(n:Nat):veq .map (.map n) .aAW=some false:=rfl
theorem mr:veq .chan .aAX .aAX=some true:=rfl
theorem mq(n:Nat):veq .chan .aAX (.chan n)=some false:=rfl
theorem mn(n:Nat):veq .chan (.chan n) .aAX=some false:=rfl
theorem xj(n:Nat)(cs:List V):Ke (.agg n) (.agg cs)=(decide (cs.length=n)&&cs.all Kb):=by simp only[Ke]
theorem ig(b:Bool):Kb (.bool b)=true:=by simp only[Kb]
theorem tM(k:IntKind)(n:Int):Kb (.int k n)=true:=by simp only[Kb]
theorem pg(s:ByteArray):Kb (.str s)=true:=by simp only[Kb]
theorem xP:Kb (.aAJ)=true:=by simp only[Kb]
theorem ph(n:Nat)(k:Sh)(i o:Nat):Kb (.ptr n k i o)=true:=by simp only[Kb]
theorem pi(k:Sh)(es:List V)(i o:Nat):Kb (.ept k es i o)=true:=by simp only[Kb]
theorem wh(k:Sh)(own:Own)(es:List V):Kb (.sl k own es)=true:=by simp only[Kb]
theorem wi(n:Nat)(k:Sh)(off len:Nat):Kb (.rs n k off len)=true:=by simp only[Kb]
theorem xQ:Kb (.aAW)=true:=by simp only[Kb]
theorem zO(n:Nat):Kb (.map n)=true:=by simp only[Kb]
theorem uY:Kb (.aAX)=true:=by simp only[Kb]
theorem ie(n:Nat):Kb (.chan n)=true:=by simp only[Kb]
theorem wj(f:Fn)(a b:List V):Kb (.fn f a b)=true:=by simp only[Kb]
theorem bi:Kb (.aAv)=true:=by simp only[Kb]
theorem pf(n:Nat):Kb (.yld n)=true:=by simp only[Kb]
theorem bj(t:Nat)(v:V):Kb (.iface t v)=true:=by simp only[Kb]
theorem sJ:Kb (.nilIface)=true:=by simp only[Kb]
theorem tR(v:V):v.fits .leaf=v.aAD:=by cases v<;>rfl
theorem cD{k:Sh}{e v:V}(he:e.fits k=true)(hv:v.fits k=true):bW k 0 e v=v:=by
 cases k with
 |leaf=>cases e<;>first|rfl|(simp[Ke,Kb] at he)
 |agg m=>
  cases e with
  |agg cs=>
   simp only[Ke,Kt,decide_eq_true_eq] at he;simp[bW,he.1]
  |_=>simp[Ke] at he
def V.gd(c:Bool)(v:V):V:=if c=true then v else Ka
theorem V.aEz(v:V):V.gd true v=v:=rfl
theorem V.aCL(v:V):V.gd false v=Ka:=rfl
theorem A7(c:Bool)(x y:V):Kg c (V.gd c x) y=Kg c x y:=by cases c<;>simp[V.gd,mP,lL]
theorem u9(c:Bool)(x y:V):Kg c x (V.gd (!c) y)=Kg c x y:=by cases c<;>simp[V.gd,mP,lL]
theorem vd(t x:Bool):Kg t (.bool x) (.bool false)= .bool (t&&x):=by cases t<;>rfl
theorem A6(t y:Bool):Kg t (.bool true) (.bool y)= .bool (t||y):=by cases t<;>rfl
def c9(g:Option (Nat×Bool)):List aA→List aA
 | []=>[]
 |o::r=>if o.g=g then o::c9 g r else []
def xW(g:Option (Nat×Bool)):List aA→List aA
 | []=>[]
 |o::r=>if o.g=g then xW g r else o::r
def Cz(l:List aA):List aA:=l.map fun o=>⟨o.dst,none,o.op⟩
def oW(c:Bool)(sl':List V):List aA→List V→List V
 | [],sl=>sl
 |o::r,sl=>oW c sl' r (match o.dst with|some d=>sl.set d (V.gd c (sl'.getD d Ka))|none=>sl)
def pA(ds:List Nat)(a b:List V):Prop:=a.length=b.length∧∀t,t∉ds→a.getD t Ka=b.getD t Ka
theorem wg{P:Program}{Q:St→Prop}:∀(l:List aA) (s:St),bF P l Q s→bF P l (fun s'=>Q s'∧pA (l.filterMap (·.dst)) s.sl s'.sl) s:=by
 have key:∀(l:List aA) (s0 s:St) (ds:List Nat),pA ds s0.sl s.sl→bF P l Q s→bF P l (fun s'=>Q s'∧pA (ds++l.filterMap (·.dst)) s0.sl s'.sl) s:=by
  intro l;induction l with
  |nil=>intro s0 s ds hb h;exact⟨h,by simpa using hb⟩
  |cons o r ih=>
   intro s0 s ds hb h;have step:∀(v:V) (h':Hp) (nx':Nat),bF P r Q ⟨bQ s.sl o.dst v,h',nx'⟩→bF P r (fun s'=>Q s'∧pA (ds++(o::r).filterMap (·.dst)) s0.sl s'.sl) ⟨bQ s.sl o.dst v,h',nx'⟩:=by
    intro v h' nx' hq;have hb':pA (ds++[o].filterMap (·.dst)) s0.sl (bQ s.sl o.dst v):=by
     obtain⟨h1,h2⟩:=hb;cases hd:o.dst with
     |none=>simp only[bQ,Kk,hd,Kz,Kw];exact⟨h1,h2⟩
     |some d=>
      refine⟨by simp[bQ,h1],fun t ht=>?_⟩;simp[hd] at ht;rw[h2 t ht.1];simp only[bQ,Kf];rw[Ki (fun e=>ht.2 e.symm)]
    have:=ih s0 ⟨bQ s.sl o.dst v,h',nx'⟩ _ hb' hq;have e:(ds++[o].filterMap (·.dst))++r.filterMap (·.dst)=ds++(o::r).filterMap (·.dst):=by
     cases hd:o.dst<;>simp[hd]
    rw[e] at this;exact this
   have one:=gY (P:=P) (Q:=fun s'=>bF P r Q s') (Q':=fun s'=>bF P r Q s') (fun _ x=>x) [o] s;revert h;unfold bF;split
   ·rename_i hg;intro h;have:=gY (P:=P) (Q:=fun s'=>bF P r Q s'∧∃v h' nx',s'=⟨bQ s.sl o.dst v,h',nx'⟩) (Q':=fun s'=>bF P r (fun s'=>Q s'∧pA (ds++(o::r).filterMap (·.dst)) s0.sl s'.sl) s') (by rintro s' ⟨hq,v,h',nx',rfl⟩;exact step v h' nx' hq) [o] s (by
     unfold bF;rw[hg];show o.op.run P s.sl s.h s.nx fun v h' nx'=>bF P r Q ⟨bQ s.sl o.dst v,h',nx'⟩∧_;exact LOp.aAz (fun v h' nx' hq=>⟨hq,v,h',nx',rfl⟩) h)
    unfold bF at this;rw[hg] at this;exact this
   rename_i t want hg;split
   ·split
    ·intro h;exact LOp.aAz (fun v h' nx' hq=>step v h' nx' hq) h
    exact step _ _ _
   ·exact step _ _ _
   exact id
 intro l s h;have:=key l s s [] ⟨rfl,fun _ _=>rfl⟩ h;simpa using this
theorem oG{sl':List V}:∀(l:List aA) (sl:List V),sl.length=sl'.length→(∀t,t∉l.filterMap (·.dst)→sl.getD t Ka=sl'.getD t Ka)→oW true sl' l sl=sl'
 | [],sl,hl,h=>by
  apply List.ext_getElem hl;intro i h1 h2;have:=h i Zm;rwa [Kf,Kf,Kj h1,Kj h2] at this
 |o::r,sl,hl,h=>by
  unfold oW;cases hd:o.dst with
  |none=>exact oG r sl hl (by simpa [hd] using h)
  |some d=>
   refine oG r _ (by simpa using hl) fun t ht=>?_;by_cases e:d=t
   ·subst e;simp only[Kf];by_cases hdl:d<sl.length
    ·rw[List.getElem?_set_self hdl];simp[V.gd]
    rw[Ky (by simp;omega),Ky or]
   have:=h t (by
    rw[Kk,hd];simp only[Ks,not_or];exact⟨fun e'=>e e'.symm,ht⟩)
   simp only[Kf] at this⊢;rw[Ki e,this]
theorem xX{P:Program}{Q:St→Prop}{sl':List V}{t:Nat}{want b:Bool}(hne:b≠want){r:List aA}:∀(l:List aA) (s:St),(∀o∈l,o.g=some (t,want))→(∀o∈l,o.dst≠some t)→s.sl.getD t Ka= .bool b→
 bF P r Q ⟨oW false sl' l s.sl,s.h,s.nx⟩→bF P (l++r) Q s
 | [],s,_,_,_,h=>h
 |o::l,s,hg,hd,hb,h=>by
  rw[Kh];unfold bF;rw[hg o Zm];simp only[hb];rw[if_neg hne];refine xX (sl':=sl') hne l _ (fun o' ho'=>hg o' (by simp[ho'])) (fun o' ho'=>hd o' (by simp[ho'])) ?_ ?_
  ·cases hdo:o.dst with
   |none=>exact hb
   |some d=>
    have:d≠t:=fun e=>hd o Zm (by rw[hdo,e]);simp only[bQ,Kf] at hb⊢;rw[Ki this];exact hb
  unfold oW at h;cases hdo:o.dst with
  |none=>rw[hdo] at h;simpa [bQ] using h
  |some d=>rw[hdo] at h;simpa [bQ,V.gd] using h
theorem bo(g:Option (Nat×Bool)):∀l:List aA,c9 g l++xW g l=l
 | []=>rfl
 |o::r=>by
  unfold c9 xW;split
  ·rw[Kh,bo g r]
  rfl
theorem Ax(g:Option (Nat×Bool)):∀(l:List aA),∀o∈c9 g l,o.g=g
 | [],o,h=>by cases h
 |o'::r,o,h=>by
  unfold c9 at h;split at h
  ·rename_i e;rcases Ks.1 h with rfl|h
   ·exact e
   exact Ax g r o h
  cases h
theorem EE{P:Program}{Q:St→Prop}{s:St}{t:Nat}{want:Bool}{dst:Option Nat}{op:LOp}{r:List aA}(b:Bool)(hb:s.sl.getD t Ka= .bool b)(hd:((c9 (some (t,want)) (⟨dst,some (t,want),op⟩::r)).all fun o=>decide (o.dst≠some t))=true)(sl':List V)
 (h1:b=want→bF P (Cz (c9 (some (t,want)) (⟨dst,some (t,want),op⟩::r))) (fun s1=>s1=⟨sl',s.h,s.nx⟩) s)
 (h2:bF P (xW (some (t,want)) (⟨dst,some (t,want),op⟩::r)) Q ⟨oW (b==want) sl' (c9 (some (t,want)) (⟨dst,some (t,want),op⟩::r)) s.sl,s.h,s.nx⟩):
 bF P (⟨dst,some (t,want),op⟩::r) Q s:=by
 generalize (⟨dst,some (t,want),op⟩::r)=l at*;rw[←bo (some (t,want)) l];have hd':∀o∈c9 (some (t,want)) l,o.dst≠some t:=fun o ho=>by simpa using KE.1 hd o ho
 by_cases e:b=want
 ·subst e;have h1':=h1 rfl;rw[show(b==b)=true by simp] at h2;have app:∀(a:List aA) (s:St),(∀o∈a,o.g=some (t,b))→(∀o∈a,o.dst≠some t)→s.sl.getD t Ka= .bool b→bF P (Cz a) (fun s1=>bF P (xW (some (t,b)) l) Q s1) s→bF P (a++xW (some (t,b)) l) Q s:=by
   intro a;induction a with
   |nil=>exact fun s _ _ _ h=>h
   |cons o a ih=>
    intro s hg hdd hb h;rw[Kh];unfold bF;rw[hg o Zm];simp only[hb,if_true];have h':o.op.run P s.sl s.h s.nx fun v h' nx'=>bF P (Cz a) (fun s1=>bF P (xW (some (t,b)) l) Q s1) ⟨bQ s.sl o.dst v,h',nx'⟩:=h;refine LOp.aAz (fun v h' nx' hq=>ih _ (fun o' ho'=>hg o' (by simp[ho'])) (fun o' ho'=>hdd o' (by simp[ho'])) ?_ hq) h';cases hdo:o.dst with
    |none=>exact hb
    |some d=>
     have:d≠t:=fun e=>hdd o Zm (by rw[hdo,e]);simp only[bQ,Kf] at hb⊢;rw[Ki this];exact hb
  refine app _ s (Ax _ _) hd' hb (gY ?_ _ _ (wg _ _ h1'));rintro s1 ⟨rfl,hbs⟩;have e:oW true sl' (c9 (some (t,b)) l) s.sl=sl':=by
   refine oG _ _ hbs.1 fun t' ht'=>hbs.2 t' ?_;simpa [Cz,List.filterMap_map] using ht'
  rw[e] at h2;exact h2
 rw[show(b==want)=false by simpa using e] at h2;exact xX e _ s (Ax _ _) hd' hb h2
theorem Ci{K:Ker}{h:Hp}(hr:Rel K h){n a:Nat}{k:Sh}{es:List V}{i o:Nat}{cv:Value}(hn:h n=some (.arr k es))(ha:¬K.live a)(hv:VR K (.ptr n k i o) cv):
 ∃K',K'.w=K.w∧K.le K'∧(∀m,K'.live m→K.live m∨m=a)∧VR K' (.ept k es i o) cv∧Rel K' (h.del n):=by
 have hb:=hr.blk n _ hn;cases hb with
 |arr _ _ c T hh hcs aBN aAG hcv=>
  cases hv with
  |ptr _ _ _ _ hl=>
   have hblk:K.mu n<K.w.heap.size:=by
    rcases KB (K.mu n) K.w.heap.size with hlt|hge
    ·exact hlt
    rw[Kv hge] at hh;exact absurd hh Zm
   have hle:K.le (K.aAI a (K.mu n) (es.length*k.size)):=K.aAn ha (by rw[aBN];exact Kx _);have hmu:(K.aAI a (K.mu n) (es.length*k.size)).mu a=K.mu n:=by simp[Ker.aAI]
   have aAV:=hr.aAI hn (a:=a) (m:=es.length*k.size) ha (by rw[aBN];exact Kx _) (b1:= .tip) (.tip c T (by rw[hmu];exact hh) (by simp[Ker.aAI]) (by simp only[Ker.aAI,if_true];exact hcs));refine⟨K.aAI a (K.mu n) (es.length*k.size),rfl,hle,fun m hm=>hm.symm,?_,aAV.weaken ?_⟩
   ·have:=VR.ept (K:=K.aAI a (K.mu n) (es.length*k.size)) k es i o (K.mu n) 0 (fun j=>c.getD j KF) hblk aAG
     (fun j hj=>by
       show K.w.cell? _=_;simp only[KG,hh,KC];rw[Ko,Kq or];rfl)
     (fun j hj=> .inr (by simp only[Ker.aAI,if_true];omega))
     (fun i hi j hj=>(hcv i hi j hj).mono hle)
    simpa using this
   intro m b e;unfold Kd at e;split at e
   ·cases e
   rename_i hm;have hma:m≠a:=fun e2=>ha (e2▸hr.lt m b e);unfold Kc Kd;rw[if_neg hma,if_neg hm];exact e
def V.loose:V→V
 | .sl k .nil es=> .sl k .nil es
 | .sl k _ es=> .sl k .free es
 | .agg cs=> .agg (cs.map fun c=>match c with
  | .sl k .nil es=> .sl k .nil es
  | .sl k _ es=> .sl k .free es
  |v=>v)
 |v=>v
theorem VR.loose{K:Ker}{v:V}{cv:Value}(r:VR K v cv):VR K v.loose cv:=by
 have one:∀{k:Sh} {own:Own} {es:List V} {cv:Value},VR K (.sl k own es) cv→VR K (match V.sl k own es with| .sl k .nil es=> .sl k .nil es| .sl k _ es=> .sl k .free es|v=>v) cv:=by
  intro k own es cv r;cases own with
  |nil=>exact r
  |full=>exact r.free Zm
  |tok n=>exact r.free Zm
  |free=>exact r.free Zm
 cases v with
 |sl k own es=>cases own<;>first|exact r|exact r.free Zm
 |agg cs=>
  cases r with
  |agg _ ccs hl hv=>
   refine .agg _ ccs (by simpa using hl) fun i hi=>?_;have hi':i<cs.length:=by simpa using hi
   have:=hv i hi';simp only[Kf,List.getElem?_map,Kj hi',Option.map_some,Ku] at this⊢;generalize cs[i]=c at this⊢;cases c<;>first|exact this|exact one this
 |_=>exact r
theorem jy{P:Program}{f:FuncId}{args:List V}{h:Hp}{nx:Nat}{g:Fn}{v0:V}
 (c:bD P f args h nx fun v h' _=>∃n,nx≤n∧v= .fn g [] [.ptr n .leaf 0 0]∧h'=h.set n (.arr .leaf [v0])):
 bD P f args h nx fun v h' _=>v= .fn g [] [.ept .leaf [v0.loose] 0 0]∧h'=h:=by
 refine⟨c.1,fun K aAK hl hr hv=>(c.2 K aAK hl hr hv).mono ?_⟩;rintro e w' ⟨K',v,cv,h',nx',rfl,he,hle,hvr,aAV,hlv,hnx,n,hn,rfl,rfl⟩;have hfr:¬K'.live nx':=fun hh=>KH _ (hlv nx' hh).1;have aAT:(h.set n (.arr .leaf [v0])) n=some (.arr .leaf [v0]):=by simp[Kc]
 cases hvr with
 |fn _ _ _ cf cc h1 h2 v1 v2=>
 have vp:=v2 0 Zm;simp only[Km] at vp;obtain⟨K'',q1,q2,q3,q4,q5⟩:=Ci aAV aAT hfr vp;have aBO:h n=none:=by
  cases hd:h n with
  |none=>rfl
  |some b=>exact absurd (hl n (hr.lt n b hd)) or
 have hh:(h.set n (.arr .leaf [v0])).del n=h:=by
  funext x;unfold Kc Kd;by_cases e2:x=n
  ·subst e2;simp[aBO]
  simp[e2]
 rw[hh] at q5;have q4':VR K'' (.ept .leaf [v0.loose] 0 0) (cc.getD 0 KF):=by
  generalize cc.getD 0 KF=x at q4⊢;cases q4 with
  |ept _ _ _ _ b off f hb aAG aAM hst hvv=>
   have aCI:v0.aAD=true:=by simpa [Ke] using aAG v0 Zm
   have hll:v0.loose.aAD=true:=by
    cases v0<;>first|rfl|(simp[Kb] at aCI)|skip
    rename_i own es;cases own<;>rfl
   have hc1:∀v:V,v.aAD=true→v.cell 0=v:=fun v hv=>by cases v<;>first|rfl|(simp[Kb] at hv)
   refine .ept _ _ _ _ b off f hb (by simpa [Ke] using hll) aAM hst ?_;intro i hi j hj;have hi0:i=0:=by simpa using hi
   have hj0:j=0:=by simpa [Sh.size] using hj
   subst hi0 hj0;have:=hvv 0 Zm 0 (by simp[Sh.size]);simp only[Km,hc1 _ aCI,hc1 _ hll] at this⊢;exact this.loose
 refine⟨K'',_,_,h,nx'+1,q1,he,hle.trans q2, .fn g [] [.ept .leaf [v0.loose] 0 0] cf cc h1 h2 (fun i hi=>absurd hi Zm) (fun i hi=>?_),q5,fun m hm=>?_,or,rfl,rfl⟩
 ·have hi0:i=0:=by simpa using hi
  subst hi0;exact q4'
 rcases q3 m hm with hm|rfl
 ·exact⟨by have:=(hlv m hm).1;omega,(hlv m hm).2⟩
 exact⟨or, .inr hnx⟩
section
variable{P:Program}{h0:Hp}{nx0:Nat}
theorem py{Q:List V→List (Option Blk)→List (Option Con)→Prop}{o:aA}{aAR:List Nat}{r:List (aA×List Nat)}{sl:List V}{aAL:List (Option Blk)}{cons:List (Option Con)}(d:gE)(h1:fB P (iV h0 cons) (nx0+aAL.length) o sl (·=d))(h2:∀c,d.con=some c→iW h0 nx0 aAR aAL cons c.n c.old)
 (h3:dI P h0 nx0 r (bQ sl o.dst d.v) (aAL++[d.add]) (cons++[d.con]) Q):dI P h0 nx0 ((o,aAR)::r) sl aAL cons Q:=by
 unfold dI;exact yC h1 ⟨h2,h3⟩
theorem xu{Q:List V→List (Option Blk)→List (Option Con)→Prop}{o:aA}{aAR:List Nat}{r:List (aA×List Nat)}{sl:List V}{aAL:List (Option Blk)}{cons:List (Option Con)}(h:dI P h0 nx0 ((o,aAR)::r) sl aAL cons Q):
 ∃d,fB P (iV h0 cons) (nx0+aAL.length) o sl (·=d)∧(∀c,d.con=some c→iW h0 nx0 aAR aAL cons c.n c.old)∧dI P h0 nx0 r (bQ sl o.dst d.v) (aAL++[d.add]) (cons++[d.con]) Q:=by
 unfold dI at h;obtain⟨d,h1,h2,h3⟩:=zX h;exact⟨d,h1,h2,h3⟩
theorem eF{tl:List aA}{n:Nat}{Q:cM→St→Prop}{s:St}{sl:List V}{aAL:List (Option Blk)}{cons:List (Option Con)}(h:bF P tl (Q .normal) ⟨sl,cj (pW s.h s.nx aAL) cons,s.nx+n⟩):DP P tl n Q s sl aAL cons:=h
abbrev DL:=List (aA×List Nat)
def pQ(g:Option (Nat×Bool)):DL→DL
 | []=>[]
 |o::r=>if o.1.g=g then o::pQ g r else []
def vB(g:Option (Nat×Bool)):DL→DL
 | []=>[]
 |o::r=>if o.1.g=g then vB g r else o::r
def xz(l:DL):DL:=l.map fun o=>(⟨o.1.dst,none,o.1.op⟩,o.2)
def qZ(c:Bool)(sl':List V):DL→List V→List V
 | [],sl=>sl
 |o::r,sl=>qZ c sl' r (match o.1.dst with|some d=>sl.set d (V.gd c (sl'.getD d Ka))|none=>sl)
def nB{α:Type}:DL→List (Option α)
 | []=>[]
 |_::r=>none::nB r
theorem qb(c:Bool)(sl':List V):∀(l:DL) (sl:List V),qZ c sl' l sl=oW c sl' (l.map (·.1)) sl
 | [],sl=>rfl
 |o::r,sl=>qb c sl' r _
theorem bu(g:Option (Nat×Bool)):∀l:DL,pQ g l++vB g l=l
 | []=>rfl
 |o::r=>by
  unfold pQ vB;split
  ·rw[Kh,bu g r]
  rfl
theorem DV(g:Option (Nat×Bool)):∀(l:DL),∀o∈pQ g l,o.1.g=g
 | [],o,h=>by cases h
 |o'::r,o,h=>by
  unfold pQ at h;split at h
  ·rename_i e;rcases Ks.1 h with rfl|h
   ·exact e
   exact DV g r o h
  cases h
theorem u0{sl:List V}{o:aA}{v:V}{s0:List V}{ds:List Nat}(hb:pA ds s0 sl):pA (ds++[o].filterMap (·.dst)) s0 (bQ sl o.dst v):=by
 obtain⟨h1,h2⟩:=hb;cases hd:o.dst with
 |none=>simp only[bQ,Kk,hd,Kz,Kw];exact⟨h1,h2⟩
 |some d=>
  refine⟨by simp[bQ,h1],fun t ht=>?_⟩;simp[hd] at ht;rw[h2 t ht.1];simp only[bQ,Kf];rw[Ki (fun e=>ht.2 e.symm)]
theorem zC{sl:List V}{dst:Option Nat}{v u:V}{t:Nat}(hd:dst≠some t)(h:sl.getD t Ka=u):(bQ sl dst v).getD t Ka=u:=by
 cases dst with
 |none=>exact h
 |some d=>
  have:d≠t:=fun e=>hd (by rw[e]);simp only[bQ,Kf] at h⊢;rw[Ki this];exact h
theorem yA{Q:List V→List (Option Blk)→List (Option Con)→Prop}{t:Nat}{want:Bool}{dst:Option Nat}{op:LOp}{aAR:List Nat}{r:DL}{sl:List V}{aAL:List (Option Blk)}{cons:List (Option Con)}(c0 b:Bool)(hb:sl.getD t Ka=V.gd c0 (.bool b))
 (hd:((pQ (some (t,want)) ((⟨dst,some (t,want),op⟩,aAR)::r)).all fun o=>decide (o.1.dst≠some t))=true) (sl':List V)
 (h1:c0=true→b=want→dI P h0 nx0 (xz (pQ (some (t,want)) ((⟨dst,some (t,want),op⟩,aAR)::r))) sl aAL cons (fun sl1 a1 c1=>sl1=sl'∧a1=aAL++nB (pQ (some (t,want)) ((⟨dst,some (t,want),op⟩,aAR)::r))∧c1=cons++nB (pQ (some (t,want)) ((⟨dst,some (t,want),op⟩,aAR)::r))))
 (h2:dI P h0 nx0 (vB (some (t,want)) ((⟨dst,some (t,want),op⟩,aAR)::r)) (qZ (c0&&(b==want)) sl' (pQ (some (t,want)) ((⟨dst,some (t,want),op⟩,aAR)::r)) sl) (aAL++nB (pQ (some (t,want)) ((⟨dst,some (t,want),op⟩,aAR)::r))) (cons++nB (pQ (some (t,want)) ((⟨dst,some (t,want),op⟩,aAR)::r))) Q):
 dI P h0 nx0 ((⟨dst,some (t,want),op⟩,aAR)::r) sl aAL cons Q:=by
 generalize ((⟨dst,some (t,want),op⟩,aAR)::r)=l at*;rw[←bu (some (t,want)) l];have hd':∀o∈pQ (some (t,want)) l,o.1.dst≠some t:=fun o ho=>by simpa using KE.1 hd o ho
 have hg':=DV (some (t,want)) l;by_cases hc:c0=true∧b=want
 ·obtain⟨rfl,rfl⟩:=hc;have h1':=h1 rfl rfl;rw[show(true&&(b==b))=true by simp] at h2;have hb':sl.getD t Ka= .bool b:=hb;have key:∀(a:DL) (s0 s:List V) (ds:List Nat) (ad:List (Option Blk)) (co:List (Option Con)),(∀o∈a,o.1.g=some (t,b))→(∀o∈a,o.1.dst≠some t)→s.getD t Ka= .bool b→pA ds s0 s→
   dI P h0 nx0 (xz a) s ad co (fun sl1 a1 c1=>sl1=sl'∧a1=aAL++nB (pQ (some (t,b)) l)∧c1=cons++nB (pQ (some (t,b)) l))→
   (pA (ds++(a.map (·.1)).filterMap (·.dst)) s0 sl'→dI P h0 nx0 (vB (some (t,b)) l) sl' (aAL++nB (pQ (some (t,b)) l)) (cons++nB (pQ (some (t,b)) l)) Q)→dI P h0 nx0 (a++vB (some (t,b)) l) s ad co Q:=by
   intro a;induction a with
   |nil=>
    rintro s0 s ds ad co _ _ _ hbs ⟨rfl,rfl,rfl⟩ hq;exact hq (by simpa using hbs)
   |cons o a ih=>
    intro s0 s ds ad co hg hdd hbt hbs aIQ hq;obtain⟨o,dp⟩:=o;have aIQ:dI P h0 nx0 ((⟨o.dst,none,o.op⟩,dp)::xz a) s ad co _:=aIQ;obtain⟨d,e1,e2,e3⟩:=xu aIQ;rw[Kh];refine py d ?_ e2 ?_
    ·have hgo:o.g=some (t,b):=hg (o,dp) Zm;unfold fB at e1⊢;rw[hgo];simp only[hbt,if_true];exact e1
    refine ih s0 _ (ds++[o].filterMap (·.dst)) _ _ (fun x hx=>hg x (by simp[hx])) (fun x hx=>hdd x (by simp[hx])) (zC (hdd (o,dp) Zm) hbt) (u0 hbs) e3 (fun hb2=>hq ?_);have e:(ds++[o].filterMap (·.dst))++(a.map (·.1)).filterMap (·.dst)=ds++(((o,dp)::a).map (·.1)).filterMap (·.dst):=by
     cases hdo:o.dst<;>simp[hdo]
    rw[e] at hb2;exact hb2
  refine key _ sl sl [] aAL cons hg' hd' hb' ⟨rfl,fun _ _=>rfl⟩ h1' (fun hbs=>?_);have e:qZ true sl' (pQ (some (t,b)) l) sl=sl':=by
   rw[qb];exact oG _ _ hbs.1 fun t' ht'=>hbs.2 t' (by simpa using ht')
  rwa [e] at h2
 have hcf:(c0&&(b==want))=false:=by
  cases c0 with
  |false=>rfl
  |true=>simpa using fun e=>hc ⟨rfl,e⟩
 rw[hcf] at h2;have aGO:sl.getD t Ka= .tup []∨(sl.getD t Ka= .bool b∧b≠want):=by
  cases c0 with
  |false=>exact .inl hb
  |true=>exact .inr ⟨hb,fun e=>hc ⟨rfl,e⟩⟩
 have key:∀(a:DL) (s:List V) (ad:List (Option Blk)) (co:List (Option Con)),(∀o∈a,o.1.g=some (t,want))→(∀o∈a,o.1.dst≠some t)→(s.getD t Ka= .tup []∨(s.getD t Ka= .bool b∧b≠want))→
  dI P h0 nx0 (vB (some (t,want)) l) (qZ false sl' a s) (ad++nB a) (co++nB a) Q→dI P h0 nx0 (a++vB (some (t,want)) l) s ad co Q:=by
  intro a;induction a with
  |nil=>intro s ad co _ _ _ h;simpa [nB,qZ] using h
  |cons o a ih=>
   intro s ad co hg hdd hs h;obtain⟨o,dp⟩:=o;rw[Kh];refine py ⟨Ka,none,none⟩ ?_ (fun n hn=>by cases hn) ?_
   ·have hgo:o.g=some (t,want):=hg (o,dp) Zm;unfold fB;rw[hgo];rcases hs with hs|⟨hs,hne⟩
    ·simp only[hs]
    simp only[hs,if_neg hne]
   refine ih _ _ _ (fun x hx=>hg x (by simp[hx])) (fun x hx=>hdd x (by simp[hx])) ?_ ?_
   ·have hdo:=hdd (o,dp) Zm;exact hs.imp (fun hs=>zC hdo hs) (fun hs=>⟨zC hdo hs.1,hs.2⟩)
   simp only[nB] at h;unfold qZ at h;cases hdo:o.dst with
   |none=>simp only[hdo] at h;simpa [bQ,hdo] using h
   |some d=>simp only[hdo,V.aCL] at h;simpa [bQ,hdo] using h
 exact key _ sl aAL cons hg' hd' aGO h2
end
theorem Gd{a j k:Nat}:a+(j+1)+(k+1)=a+(j+k+2):=or
theorem wS{sl:List V}{t:Nat}{v:V}(h:sl.getD t Ka=v):sl.set t v=sl:=by
 rcases KB t sl.length with ht|ht
 ·rw[Kf,Kj ht] at h;simp only[Ku] at h;rw[←h];exact List.set_getElem_self ht
 exact List.set_eq_of_length_le ht
section
variable{P:Program}{r:List aA}{Qs:St→Prop}{s:St}{dst:Option Nat}
theorem gy{t:Nat}{want b:Bool}{op:LOp}(hb:s.sl.getD t Ka= .bool b)
 (h1:b=want→bF P (⟨dst,none,op⟩::r) Qs ⟨s.sl.set t (.bool want),s.h,s.nx⟩) (h2:b= !want→bF P r Qs ⟨bQ (s.sl.set t (.bool !want)) dst Ka,s.h,s.nx⟩):
 bF P (⟨dst,some (t,want),op⟩::r) Qs s:=by
 refine qO hb (fun e=>?_) (fun e=>?_)
 ·have:=h1 e;rw[←e,wS hb] at this;exact this
 have e':b= !want:=by cases b<;>cases want<;>simp at e⊢
 have:=h2 e';rw[←e',wS hb] at this;exact this
theorem ED{t:Nat}{want:Bool}{op:LOp}(hb:s.sl.getD t Ka= .bool want)(h1:bF P (⟨dst,none,op⟩::r) Qs s):bF P (⟨dst,some (t,want),op⟩::r) Qs s:=
 qO hb (fun _=>h1) (fun e=>absurd rfl e)
end
section
variable{P:Program}{h0:Hp}{nx0:Nat}{Q:List V→List (Option Blk)→List (Option Con)→Prop}{sl:List V}{aAL:List (Option Blk)}{cons:List (Option Con)}{r:List (aA×List Nat)}{dst:Option Nat}{aAR:List Nat}
theorem i9{t:Nat}{want b:Bool}{op:LOp}(hb:sl.getD t Ka= .bool b)(h1:b=want→dI P h0 nx0 ((⟨dst,none,op⟩,aAR)::r) (sl.set t (.bool want)) aAL cons Q)
 (h2:b= !want→dI P h0 nx0 r (bQ (sl.set t (.bool !want)) dst Ka) (aAL++[none]) (cons++[none]) Q):dI P h0 nx0 ((⟨dst,some (t,want),op⟩,aAR)::r) sl aAL cons Q:=by
 refine ja hb (fun e=>?_) (fun e=>?_)
 ·have:=h1 e;rw[←e,wS hb] at this;exact this
 have e':b= !want:=by cases b<;>cases want<;>simp at e⊢
 have:=h2 e';rw[←e',wS hb] at this;exact this
end
section
variable{P:Program}{h0:Hp}{nx0:Nat}{Q:List V→List (Option Blk)→List (Option Con)→Prop}{sl:List V}{aAL:List (Option Blk)}{cons:List (Option Con)}{r:List (aA×List Nat)}{dst:Option Nat}{aAR:List Nat}{t:Nat}{op:LOp}
end
theorem nN{P:Program}{h0:Hp}{nx0:Nat}{Q:List V→List (Option Blk)→List (Option Con)→Prop}{sl:List V}{aAL:List (Option Blk)}{cons:List (Option Con)}{r:List (aA×List Nat)}{dst:Option Nat}{aAR:List Nat}{t:Sh}{x v:aP}{j i o:Nat}{k:Sh}{es:List V}
 (hx:x.ev sl= .ptr (nx0+j) k i o) (ha:aAL.getD j none=some (.arr k es)) (hd:j∈aAR) (hu:cS (nx0+j) cons) (hi:i<es.length) (hp:dA k t o) (hf:(v.ev sl).fits t=true)
 (h:dI P h0 nx0 r (bQ sl dst Ka) (aAL++[none]) (cons++[some ⟨nx0+j, .arr k es,some (.arr k (es.set i (bW t o (es.getD i Ka) (v.ev sl))))⟩]) Q):dI P h0 nx0 ((⟨dst,none, .store t x v⟩,aAR)::r) sl aAL cons Q:=
 nM hx (by rw[tS];exact⟨hu,hd,ha⟩) hi hp hf h
def vF(b:Bool)(A B:Prop):Prop:=(b=true→A)∧(b=false→B)
theorem EQ{A B:Prop}(h:A):vF true A B:=⟨(fun _=>h),(fun h=>by cases h)⟩
theorem ER{A B:Prop}(h:B):vF false A B:=⟨(fun h=>by cases h),(fun _=>h)⟩
theorem iQ{b:Bool}{A B:Prop}(h1:b=true→A)(h2:b=false→B):vF b A B:=⟨h1,h2⟩
theorem fX{P:Program}{c:aP}{a b:aZ}{Q:cM→St→Prop}{s:St}(h:lwp P (.cond c a b) Q s):lwp P (.cond c a b) Q s:=h
theorem gM{P:Program}{n:Nat}{hd:List (aA×List Nat)}{tl:List aA}{Q:cM→St→Prop}{s:St}(h:lwp P (.draw n hd tl) Q s):lwp P (.draw n hd tl) Q s:=h
theorem fV{P:Program}{o:aA}{r:List aA}{Q:St→Prop}{s:St}(h:bF P (o::r) Q s):bF P (o::r) Q s:=h
theorem fW{P:Program}{h0:Hp}{nx0:Nat}{Q:List V→List (Option Blk)→List (Option Con)→Prop}{sl:List V}{aAL:List (Option Blk)}{cons:List (Option Con)}{l:List (aA×List Nat)}(h:dI P h0 nx0 l sl aAL cons Q):dI P h0 nx0 l sl aAL cons Q:=h
theorem dW{P:Program}{c:aP}{a b:aZ}{Q:cM→St→Prop}{s:St}{t:Bool}(hc:c.ev s.sl= .bool t)(h:vF t (lwp P a Q s) (lwp P b Q s)):lwp P (.cond c a b) Q s:=cJ t hc h.1 h.2
theorem dD{P:Program}{r:List aA}{Qs:St→Prop}{s:St}{dst:Option Nat}{t:Nat}{b:Bool}{op:LOp}(hb:s.sl.getD t Ka= .bool b)
 (h:vF b (bF P (⟨dst,none,op⟩::r) Qs ⟨s.sl.set t (.bool true),s.h,s.nx⟩) (bF P r Qs ⟨bQ (s.sl.set t (.bool false)) dst Ka,s.h,s.nx⟩)):bF P (⟨dst,some (t,true),op⟩::r) Qs s:=
 gy hb h.1 h.2
theorem dE{P:Program}{r:List aA}{Qs:St→Prop}{s:St}{dst:Option Nat}{t:Nat}{b:Bool}{op:LOp}(hb:s.sl.getD t Ka= .bool b)
 (h:vF b (bF P r Qs ⟨bQ (s.sl.set t (.bool true)) dst Ka,s.h,s.nx⟩) (bF P (⟨dst,none,op⟩::r) Qs ⟨s.sl.set t (.bool false),s.h,s.nx⟩)):bF P (⟨dst,some (t,false),op⟩::r) Qs s:=
 gy hb h.2 h.1
section
variable{P:Program}{h0:Hp}{nx0:Nat}{Q:List V→List (Option Blk)→List (Option Con)→Prop}{sl:List V}{aAL:List (Option Blk)}{cons:List (Option Con)}{r:List (aA×List Nat)}{dst:Option Nat}{aAR:List Nat}{t:Nat}{op:LOp}
theorem dF{b:Bool}(hb:sl.getD t Ka= .bool b)(h:vF b (dI P h0 nx0 ((⟨dst,none,op⟩,aAR)::r) (sl.set t (.bool true)) aAL cons Q) (dI P h0 nx0 r (bQ (sl.set t (.bool false)) dst Ka) (aAL++[none]) (cons++[none]) Q)):
 dI P h0 nx0 ((⟨dst,some (t,true),op⟩,aAR)::r) sl aAL cons Q:=i9 hb h.1 h.2
theorem dG{b:Bool}(hb:sl.getD t Ka= .bool b)(h:vF b (dI P h0 nx0 r (bQ (sl.set t (.bool true)) dst Ka) (aAL++[none]) (cons++[none]) Q) (dI P h0 nx0 ((⟨dst,none,op⟩,aAR)::r) (sl.set t (.bool false)) aAL cons Q)):
 dI P h0 nx0 ((⟨dst,some (t,false),op⟩,aAR)::r) sl aAL cons Q:=i9 hb h.2 h.1
end
theorem cN{t u:Nat}{k:Sh}{R:V→Hp→Nat→Prop}{s:St}(ho:(bR.load k (.slot t)).ok s.sl s.h)(h':Hp)(hle:h'.le s.h)(hR:R (.tup [(bR.load k (.slot t)).out s.sl s.h,s.sl.getD u Ka]) h' s.nx):iB [.cell t k, .slot u] R .ret s:=by
 have:=bR.aBR (R:=fun v=>∃h',h'.le s.h∧R (mV [v,s.sl.getD u Ka]) h' s.nx) ho ⟨h',hle,by generalize (bR.load k (.slot t)).out s.sl s.h=x at hR;exact hR⟩;exact this
theorem uq{R:V→Hp→Nat→Prop}{s:St}(h':Hp)(hle:h'.le s.h)(hR:R (.tup []) h' s.nx):iB [] R .ret s:=⟨h',hle,hR⟩
def Acc(h:Hp)(n0:Nat)(o:Own)(es:List V):Prop:=(es=[]∧o= .nil)∨(es≠ []∧∃id,n0≤id∧o= .tok id∧h id=some .tip)
def lS(h:Hp)(n0:Nat)(o:Own):Prop:=∃id,n0≤id∧o= .tok id∧h id=some .tip
def Hp.aAb(h:Hp):Own→Hp
 | .tok n=>h.del n
 |_=>h
theorem DU(h:Hp):h.aAb .nil=h:=rfl
theorem DT(h:Hp)(n:Nat):h.aAb (.tok n)=h.del n:=rfl
def Hp.same(n0:Nat)(h h':Hp):Prop:=∀m,m<n0→h' m=h m
theorem Hp.same.aBG{n0:Nat}{h:Hp}:Hp.same n0 h h:=fun _ _=>rfl
theorem aW{n0 n:Nat}{h h':Hp}(s:Hp.same n0 h h')(hn:n0≤n)(b:Blk):Hp.same n0 h (h'.set n b):=fun m hm=>by
 unfold Kc;rw[if_neg or];exact s m hm
theorem aX{n0 n:Nat}{h h':Hp}(s:Hp.same n0 h h')(hn:n0≤n):Hp.same n0 h (h'.del n):=fun m hm=>by
 unfold Kd;rw[if_neg or];exact s m hm
theorem fE{n0:Nat}{h h':Hp}{o:Own}(s:Hp.same n0 h h')(ho:∀id,o= .tok id→n0≤id):Hp.same n0 h (h'.aAb o):=by
 cases o with
 |tok id=>exact aX s (ho id rfl)
 |_=>exact s
theorem Acc.ge{h:Hp}{n0:Nat}{o:Own}{es:List V}(a:Acc h n0 o es)(id:Nat)(e:o= .tok id):n0≤id:=by
 rcases a with⟨_,rfl⟩|⟨_,id',hge,rfl,_⟩
 ·cases e
 injection e with e;omega
theorem Hp.same.le{n0:Nat}{h h':Hp}(s:Hp.same n0 h h'){h0:Hp}(hd:aI h0 n0)(hle:h0.le h):h0.le h':=fun m b e=>by rw[s m (hd m b e)];exact hle m b e
theorem aI.aAb{h:Hp}{nx:Nat}(hd:aI h nx)(o:Own):aI (h.aAb o) nx:=by
 cases o<;>first|exact hd|exact hd.del
theorem Bo{h:Hp}{o:Own}{m:Nat}(hn:∀id,o= .tok id→m≠id):h.aAb o m=h m:=by
 cases o with
 |tok id=>show(h.del id) m=h m;unfold Kd;rw[if_neg (hn id rfl)]
 |_=>rfl
theorem Acc.set{h:Hp}{n0 n:Nat}{o:Own}{es:List V}(a:Acc h n0 o es)(hn:h n≠some .tip)(b:Blk):Acc (h.set n b) n0 o es:=by
 rcases a with⟨e,eo⟩|⟨e,id,hge,eo,ht⟩
 ·exact .inl ⟨e,eo⟩
 refine .inr ⟨e,id,hge,eo,?_⟩;unfold Kc;rw[if_neg (fun e2=>hn (by rw[←e2];exact ht))];exact ht
theorem Acc.del{h:Hp}{n0 n:Nat}{o:Own}{es:List V}(a:Acc h n0 o es)(hn:o≠ .tok n):Acc (h.del n) n0 o es:=by
 rcases a with⟨e,eo⟩|⟨e,id,hge,eo,ht⟩
 ·exact .inl ⟨e,eo⟩
 refine .inr ⟨e,id,hge,eo,?_⟩;unfold Kd;rw[if_neg (fun e=>hn (by rw[eo,e]))];exact ht
theorem Acc.aAb{h:Hp}{n0:Nat}{o o':Own}{es:List V}(a:Acc h n0 o es)(hn:∀id,o'= .tok id→o≠ .tok id):Acc (h.aAb o') n0 o es:=by
 cases o' with
 |tok id=>exact a.del (hn id rfl)
 |_=>exact a
theorem lS.set{h:Hp}{n0 n:Nat}{o:Own}(a:lS h n0 o)(hn:h n≠some .tip)(b:Blk):lS (h.set n b) n0 o:=by
 obtain⟨id,hge,eo,ht⟩:=a;refine⟨id,hge,eo,?_⟩;unfold Kc;rw[if_neg (fun e2=>hn (by rw[←e2];exact ht))];exact ht
theorem aI.aEU{h:Hp}{nx n:Nat}(hd:aI h nx)(hn:nx≤n):h n≠some .tip:=fun e=>absurd (hd n _ e) or
theorem gQ{h:Hp}{n:Nat}{k:Sh}{es:List V}:h.set n (.arr k es) n≠some .tip:=by unfold Kc;rw[if_pos rfl];exact(fun e=>by cases e)
theorem kC{h:Hp}{n:Nat}{k:Sh}{es:List V}(e:h n=some (.arr k es)):h n≠some .tip:=by rw[e];exact(fun e=>by cases e)
theorem gN{h:Hp}{n m:Nat}{b:Blk}(hn:m≠n)(hm:h m≠some .tip):h.set n b m≠some .tip:=by unfold Kc;rw[if_neg hn];exact hm
theorem gO{h:Hp}{n m:Nat}(hm:h m≠some .tip):h.del n m≠some .tip:=by unfold Kd;split<;>first|exact hm|exact(fun e=>by cases e)
theorem Acc.new{h:Hp}{n0 n:Nat}(es:List V)(hne:es≠ [])(hn:n0≤n):Acc (h.set n .tip) n0 (.tok n) es:= .inr ⟨hne,n,hn,rfl,by unfold Kc;rw[if_pos rfl]⟩
theorem lS.new{h:Hp}{n0 n:Nat}(hn:n0≤n):lS (h.set n .tip) n0 (.tok n):=⟨n,hn,rfl,by unfold Kc;rw[if_pos rfl]⟩
theorem Acc.nil{h:Hp}{n0:Nat}:Acc h n0 .nil []:= .inl ⟨rfl,rfl⟩
theorem Acc.loose{h:Hp}{n0:Nat}{o:Own}{k:Sh}{es:List V}(a:Acc h n0 o es):(V.sl k o es).loose=(if es.isEmpty=true then .sl k .nil [] else .sl k .free es):=by
 rcases a with⟨rfl,rfl⟩|⟨hne,id,_,rfl,_⟩
 ·rfl
 cases es with
 |nil=>exact absurd rfl hne
 |cons=>rfl
theorem Acc.ok{h:Hp}{n0:Nat}{o:Own}{es:List V}(a:Acc h n0 o es):yM h o:=by
 rcases a with⟨_,rfl⟩|⟨_,id,_,rfl,ht⟩
 ·trivial
 exact ht
section
variable{P:Program}{r:List aA}{Qs:St→Prop}{s:St}{dst:Option Nat}
theorem pc{k:Sh}{bs:Nat}{x y:aP}{o:Own}{es ys:List V}(hx:x.ev s.sl= .sl k o es)(ha:yM s.h o)(hy:eL s.h (y.ev s.sl)=some (k,ys))(hne:ys≠ [])(hb:(es.length+ys.length)*bs≤140737488355328)
 (hq:bF P r Qs ⟨bQ s.sl dst (.sl k (.tok s.nx) (es++ys)),(s.h.aAb o).set s.nx .tip,s.nx+1⟩):bF P (⟨dst,none, .append k bs x y⟩::r) Qs s:=by
 have hys:ys.isEmpty=false:=by cases ys with|nil=>exact absurd rfl hne|cons=>rfl
 unfold bF;simp only[LOp.run,LOp.sem,hy,hx,true_and];refine⟨hb, .inl ⟨ha,?_⟩⟩;cases o with
 |free=>exact ha.elim
 |nil=>simpa only[gD,fK,hys,Hp.aAb,Kp,if_false] using hq
 |full=>simpa only[gD,fK,hys,Hp.aAb,Kp,if_false] using hq
 |tok id=>exact hq
theorem sI{k:Sh}{bs:Nat}{x y:aP}{o:Own}{es ys:List V}{n0:Nat}(hx:x.ev s.sl= .sl k o es)(ha:Acc s.h n0 o es)(hy:eL s.h (y.ev s.sl)=some (k,ys))(hne:ys≠ [])(hb:(es.length+ys.length)*bs≤140737488355328)
 (hq:bF P r Qs ⟨bQ s.sl dst (.sl k (.tok s.nx) (es++ys)),(s.h.aAb o).set s.nx .tip,s.nx+1⟩):bF P (⟨dst,none, .append k bs x y⟩::r) Qs s:=
 pc hx ha.ok hy hne hb hq
end
def LOp.isApp:LOp→Bool
 | .append .. =>true
 |_=>false
def aA.aBz(o:aA):Bool:=o.plain&& !o.op.isApp
def sM:List aA→List aA
 | []=>[]
 |o::r=>match o.aBz with
  |true=>o::sM r
  |false=>[]
def tP:List aA→List aA
 | []=>[]
 |o::r=>match o.aBz with
  |true=>tP r
  |false=>o::r
theorem Bh{P:Program}{Q:St→Prop}:∀(l:List aA) (s:St),rJ (sM l) s→bF P (tP l) Q (kD (sM l) s)→bF P l Q s
 | [],s,_,h=>h
 |o::r,s,ho,h=>by
  cases hc:o.aBz with
  |false=>simp only[sM,tP,hc] at ho h;exact h
  |true=>
   simp only[sM,tP,hc] at ho h;have aEy:o.op.aAs=false:=by
    simp only[aA.aBz,Kt] at hc;have hc:=hc.1;unfold aA.plain at hc;split at hc
    ·simpa using hc
    cases hc
   exact tL aEy ho.1 (Bh r _ ho.2 h)
theorem eJ{P:Program}{Q:St→Prop}{o:aA}{r:List aA}{s:St}(_:o.aBz=true)(ho:rJ (sM (o::r)) s)(h:bF P (tP (o::r)) Q (kD (sM (o::r)) s)):bF P (o::r) Q s:=Bh _ s ho h
theorem sH{P:Program}{Q:St→Prop}{o:aA}{r:List aA}{s:St}(hp:o.op.isApp=true)(hg:o.g=none)(ho:o.ok s)(h:bF P r Q (o.next s)):bF P (o::r) Q s:=by
 refine tL ?_ ho h;cases e:o.op<;>rw[e] at hp<;>first|rfl|cases hp
theorem Ge{a b:Nat}(h:a<b):(a=b)=False:=bd or
theorem FT{a b k:Nat}(h:a<b):(a=b+k)=False:=bd or
theorem FU{a b:Nat}(h:a<b):(b=a)=False:=bd or
theorem Fp{a b k:Nat}(h:a<b):(b+k=a)=False:=bd or
class Stp(A:Prop)(B:outParam Prop):Prop where
 go:B→A
theorem stp{A B:Prop} [i:Stp A B](h:B):A:=i.go h
variable{P:Program}{Q:cM→St→Prop}{s:St}
instance Gy{a b:aZ}:Stp (lwp P (.seq a b) Q s) (lwp P a (nW (lwp P b) Q) s):=⟨bI⟩
instance Gx{l:List aA}:Stp (lwp P (.ops l) Q s) (bF P l (Q .normal) s):=⟨bL⟩
instance Gw{b:(cM→St→Prop)→St→Prop}:Stp (nW b Q .normal s) (b Q s):=⟨aM⟩
instance Gv{R:St→Prop}:Stp (bF P [] R s) (R s):=⟨dZ⟩
instance Gu{id:Nat}:Stp (fP id Q .normal s) (Q .normal s):=⟨bZ⟩
instance Gt{id:Nat}{c:aZ}:Stp (lwp P (.block id c) Q s) (lwp P c (fP id Q) s):=⟨dJ⟩
instance Gs:Stp (lwp P .skip Q s) (Q .normal s):=⟨eD⟩
instance Gr:Stp (lwp P .ret Q s) (Q .ret s):=⟨bT⟩
instance Gq{b:(cM→St→Prop)→St→Prop}:Stp (nW b Q .ret s) (Q .ret s):=⟨iD⟩
instance Gp{id:Nat}:Stp (fP id Q .ret s) (Q .ret s):=⟨eY⟩
instance Gn{ι:Type}{sl:ι→List V}{C:ι→Hp→Nat→Prop}{m:ι→Nat}{n:Nat}:Stp (bH sl C m n Q .ret s) (Q .ret s):=⟨gH⟩
instance Gm{id:Nat}:Stp (lwp P (.exit id) Q s) (Q (.exit id) s):=⟨gC⟩
instance Gl{b:(cM→St→Prop)→St→Prop}{id:Nat}:Stp (nW b Q (.exit id) s) (Q (.exit id) s):=⟨eH⟩
instance Gk{ι:Type}{sl:ι→List V}{C:ι→Hp→Nat→Prop}{m:ι→Nat}{n id:Nat}:Stp (bH sl C m n Q (.exit id) s) (Q (.exit id) s):=⟨dC⟩
instance Gj{id:Nat}:Stp (fP id Q (.exit id) s) (Q .normal s):=⟨cR⟩
instance Gi{A B:Prop}:Stp (vF true A B) A:=⟨EQ⟩
instance Gh{A B:Prop}:Stp (vF false A B) B:=⟨ER⟩
theorem ee2{p0 p1:Prop}(x0:p0)(x1:p1):p0∧p1:=⟨x0,x1⟩
theorem ee3{p0 p1 p2:Prop}(x0:p0)(x1:p1)(x2:p2):p0∧p1∧p2:=⟨x0,x1,x2⟩
theorem ee4{p0 p1 p2 p3:Prop}(x0:p0)(x1:p1)(x2:p2)(x3:p3):p0∧p1∧p2∧p3:=⟨x0,x1,x2,x3⟩
theorem ee5{p0 p1 p2 p3 p4:Prop}(x0:p0)(x1:p1)(x2:p2)(x3:p3)(x4:p4):p0∧p1∧p2∧p3∧p4:=⟨x0,x1,x2,x3,x4⟩
theorem ee6{p0 p1 p2 p3 p4 p5:Prop}(x0:p0)(x1:p1)(x2:p2)(x3:p3)(x4:p4)(x5:p5):p0∧p1∧p2∧p3∧p4∧p5:=⟨x0,x1,x2,x3,x4,x5⟩
theorem ee7{p0 p1 p2 p3 p4 p5 p6:Prop}(x0:p0)(x1:p1)(x2:p2)(x3:p3)(x4:p4)(x5:p5)(x6:p6):p0∧p1∧p2∧p3∧p4∧p5∧p6:=⟨x0,x1,x2,x3,x4,x5,x6⟩
theorem ee8{p0 p1 p2 p3 p4 p5 p6 p7:Prop}(x0:p0)(x1:p1)(x2:p2)(x3:p3)(x4:p4)(x5:p5)(x6:p6)(x7:p7):p0∧p1∧p2∧p3∧p4∧p5∧p6∧p7:=⟨x0,x1,x2,x3,x4,x5,x6,x7⟩
theorem ee9{p0 p1 p2 p3 p4 p5 p6 p7 p8:Prop}(x0:p0)(x1:p1)(x2:p2)(x3:p3)(x4:p4)(x5:p5)(x6:p6)(x7:p7)(x8:p8):p0∧p1∧p2∧p3∧p4∧p5∧p6∧p7∧p8:=⟨x0,x1,x2,x3,x4,x5,x6,x7,x8⟩
theorem xp{p0 p1 p2 p3 p4 p5 p6 p7 p8 p9:Prop}(x0:p0)(x1:p1)(x2:p2)(x3:p3)(x4:p4)(x5:p5)(x6:p6)(x7:p7)(x8:p8)(x9:p9):p0∧p1∧p2∧p3∧p4∧p5∧p6∧p7∧p8∧p9:=⟨x0,x1,x2,x3,x4,x5,x6,x7,x8,x9⟩
theorem i5{p0 p1 p2 p3 p4 p5 p6 p7 p8 p9 p10:Prop}(x0:p0)(x1:p1)(x2:p2)(x3:p3)(x4:p4)(x5:p5)(x6:p6)(x7:p7)(x8:p8)(x9:p9)(x10:p10):p0∧p1∧p2∧p3∧p4∧p5∧p6∧p7∧p8∧p9∧p10:=⟨x0,x1,x2,x3,x4,x5,x6,x7,x8,x9,x10⟩
theorem F7{p0 p1 p2 p3 p4 p5 p6 p7 p8 p9 p10 p11:Prop}(x0:p0)(x1:p1)(x2:p2)(x3:p3)(x4:p4)(x5:p5)(x6:p6)(x7:p7)(x8:p8)(x9:p9)(x10:p10)(x11:p11):p0∧p1∧p2∧p3∧p4∧p5∧p6∧p7∧p8∧p9∧p10∧p11:=⟨x0,x1,x2,x3,x4,x5,x6,x7,x8,x9,x10,x11⟩
theorem EL{p0 p1 p2 p3 p4 p5 p6 p7 p8 p9 p10 p11 p12:Prop}(x0:p0)(x1:p1)(x2:p2)(x3:p3)(x4:p4)(x5:p5)(x6:p6)(x7:p7)(x8:p8)(x9:p9)(x10:p10)(x11:p11)(x12:p12):p0∧p1∧p2∧p3∧p4∧p5∧p6∧p7∧p8∧p9∧p10∧p11∧p12:=⟨x0,x1,x2,x3,x4,x5,x6,x7,x8,x9,x10,x11,x12⟩
theorem DK{p0 p1 p2 p3 p4 p5 p6 p7 p8 p9 p10 p11 p12 p13:Prop}(x0:p0)(x1:p1)(x2:p2)(x3:p3)(x4:p4)(x5:p5)(x6:p6)(x7:p7)(x8:p8)(x9:p9)(x10:p10)(x11:p11)(x12:p12)(x13:p13):p0∧p1∧p2∧p3∧p4∧p5∧p6∧p7∧p8∧p9∧p10∧p11∧p12∧p13:=⟨x0,x1,x2,x3,x4,x5,x6,x7,x8,x9,x10,x11,x12,x13⟩
theorem Gf{p0 p1 p2 p3 p4 p5 p6 p7 p8 p9 p10 p11 p12 p13 p14:Prop}(x0:p0)(x1:p1)(x2:p2)(x3:p3)(x4:p4)(x5:p5)(x6:p6)(x7:p7)(x8:p8)(x9:p9)(x10:p10)(x11:p11)(x12:p12)(x13:p13)(x14:p14):p0∧p1∧p2∧p3∧p4∧p5∧p6∧p7∧p8∧p9∧p10∧p11∧p12∧p13∧p14:=⟨x0,x1,x2,x3,x4,x5,x6,x7,x8,x9,x10,x11,x12,x13,x14⟩
theorem EK{p0 p1 p2 p3 p4 p5 p6 p7 p8 p9 p10 p11 p12 p13 p14 p15:Prop}(x0:p0)(x1:p1)(x2:p2)(x3:p3)(x4:p4)(x5:p5)(x6:p6)(x7:p7)(x8:p8)(x9:p9)(x10:p10)(x11:p11)(x12:p12)(x13:p13)(x14:p14)(x15:p15):p0∧p1∧p2∧p3∧p4∧p5∧p6∧p7∧p8∧p9∧p10∧p11∧p12∧p13∧p14∧p15:=⟨x0,x1,x2,x3,x4,x5,x6,x7,x8,x9,x10,x11,x12,x13,x14,x15⟩
theorem Fw{p0 p1 p2 p3 p4 p5 p6 p7 p8 p9 p10 p11 p12 p13 p14 p15 p16:Prop}(x0:p0)(x1:p1)(x2:p2)(x3:p3)(x4:p4)(x5:p5)(x6:p6)(x7:p7)(x8:p8)(x9:p9)(x10:p10)(x11:p11)(x12:p12)(x13:p13)(x14:p14)(x15:p15)(x16:p16):p0∧p1∧p2∧p3∧p4∧p5∧p6∧p7∧p8∧p9∧p10∧p11∧p12∧p13∧p14∧p15∧p16:=⟨x0,x1,x2,x3,x4,x5,x6,x7,x8,x9,x10,x11,x12,x13,x14,x15,x16⟩
theorem F6{p0 p1 p2 p3 p4 p5 p6 p7 p8 p9 p10 p11 p12 p13 p14 p15 p16 p17 p18 p19:Prop}(x0:p0)(x1:p1)(x2:p2)(x3:p3)(x4:p4)(x5:p5)(x6:p6)(x7:p7)(x8:p8)(x9:p9)(x10:p10)(x11:p11)(x12:p12)(x13:p13)(x14:p14)(x15:p15)(x16:p16)(x17:p17)(x18:p18)(x19:p19):p0∧p1∧p2∧p3∧p4∧p5∧p6∧p7∧p8∧p9∧p10∧p11∧p12∧p13∧p14∧p15∧p16∧p17∧p18∧p19:=⟨x0,x1,x2,x3,x4,x5,x6,x7,x8,x9,x10,x11,x12,x13,x14,x15,x16,x17,x18,x19⟩
theorem wl{G B:Prop}(k:B)(h:PLift B→G:=by
 intro k
 (repeat (first|with_reducible refine bI ?_|with_reducible refine dJ ?_|with_reducible refine eD ?_|with_reducible refine aM ?_|with_reducible refine bZ ?_|with_reducible refine bL ?_|(refine eU rfl (by simp only[go_sem,reduceIte,Nat.reduceAdd,Nat.reduceSub,Nat.reduceLT,Nat.reduceLeDiff,reduceCtorEq,Nat.reduceEqDiff,Int.reduceToNat];try omega) ?_;simp only[go_sem,reduceIte,Nat.reduceAdd,Nat.reduceSub,Nat.reduceLT,Nat.reduceLeDiff,reduceCtorEq,Nat.reduceEqDiff,Int.reduceToNat])|(with_reducible refine dZ ?_)))
 exact k.down):G:=h ⟨k⟩
theorem wle{G B p:Prop}(E:p)(k:B)(h:p→PLift B→G:=by
 intro E k
 (repeat (first|with_reducible refine bI ?_|with_reducible refine dJ ?_|with_reducible refine eD ?_|with_reducible refine aM ?_|with_reducible refine bZ ?_|with_reducible refine bL ?_|(refine eU rfl (by simp only[E,List.length_map,go_sem,reduceIte,Nat.reduceAdd,Nat.reduceSub,Nat.reduceLT,Nat.reduceLeDiff,reduceCtorEq,Nat.reduceEqDiff,Int.reduceToNat];try omega) ?_;simp only[E,List.length_map,go_sem,reduceIte,Nat.reduceAdd,Nat.reduceSub,Nat.reduceLT,Nat.reduceLeDiff,reduceCtorEq,Nat.reduceEqDiff,Int.reduceToNat])|(with_reducible refine dZ ?_)))
 exact k.down):G:=h E ⟨k⟩
attribute [go_sem] Option.some.injEq Prod.mk.injEq false_and and_false Bool.true_eq_false pQ vB xz qZ nB if_true KI lw nO iz rJ kD aA.ok aA.next LOp.ok LOp.next bR.ok bR.out aP.ev bQ qh mP lL tG Ka Sh.size pW qX eG aA.dok aA.aD8 LOp.dok LOp.aGG rz jh iY iZ List.take_succ_cons List.take_zero List.take_nil List.drop_succ_cons List.drop_zero List.drop_nil List.set_cons_succ List.set_cons_zero List.getD_cons_succ Km List.length_cons List.length_nil List.map_cons List.map_nil List.all_cons List.all_nil Ks List.not_mem_nil List.replicate_succ List.replicate_zero Kh List.nil_append Kw List.isEmpty_cons List.isEmpty_nil gD fK yM Ku Option.isSome_some Option.isSome_none Nat.add_eq KC Nat.add_zero true_and and_true and_self true_implies implies_true false_implies forall_const forall_eq forall_eq_or_imp ne_eq not_false_eq_true not_true_eq_false Bool.not_true Bool.not_false decide_true decide_false Bool.and_true KI Bool.and_false Bool.false_and true_or or_true false_or or_false eq_self Kp Ez Bd mV aB eM fI iJ sR pR sQ jW kX eL Int.toNat_natCast Int.toNat_zero List.take_length Hp.aAH Hp.aBm xU vY aA.plain LOp.aAs aA.aCs LOp.aCj wc c9 xW Cz oW V.aEz V.aCL A7 u9 vd A6 gF gZ cD oY qY beq_true beq_false og oh oi ia ib wN wO tR xj ig tM pg xP ph pi wh wi xQ zO uY ie wj bi pf bj sJ CU CR CT CQ qf wB yJ tT th tf te tc ta dz dy ml mj mi ei ef ed tq tj ti mr mq mn tS ji cS cj Hp.aBX iV Option.isNone_some Option.isNone_none Gd sM tP aA.aBz LOp.isApp Ge FT FU Fp DU DT
theorem dmo{h H:Hp}{nx n:Nat}(q:aI h nx)(k:aI h nx→aI H n:=by
 intro q;(try dsimp only);repeat (first|exact aI.up q (by omega)|refine aI.aAh ?_ (by omega) _|refine aI.del ?_|refine aI.aAb ?_ _)):aI H n:=k q
theorem kep{h h1 H:Hp}{m n:Nat}(q:Hp.same m h h1)(k:Hp.same m h h1→Hp.same n h H:=by
 intro q;(try dsimp only);repeat (first|exact q|refine aW ?_ (by omega) _|refine aX ?_ (by omega))):Hp.same n h H:=k q
theorem kv{h h1 H:Hp}{m n n0:Nat}{o:Own}{es:List V}(q:Hp.same m h h1)(a:Acc h1 n0 o es)(k:Hp.same m h h1→Acc h1 n0 o es→Hp.same n h H:=by
 intro q a;(try dsimp only);repeat (first|exact q|refine aW ?_ (by omega) _|refine aX ?_ (by omega)|refine fE ?_ (fun id e=>by have:=a.ge id e;omega))):Hp.same n h H:=k q a
theorem acc{h H:Hp}{nx n0:Nat}{o:Own}{es:List V}(a:Acc h n0 o es)(d:aI h nx)(k:Acc h n0 o es→aI h nx→Acc H n0 o es:=by
 intro a d;(try dsimp only);repeat' (first|exact a|exact aI.aEU d (by omega)|exact gQ|exact kC (by assumption)|refine gN (by omega) ?_|refine gO ?_|refine Acc.set ?_ ?_ _)):Acc H n0 o es:=k a d
theorem lef{h h1 H:Hp}{nx:Nat}(d:aI h nx)(q:h.le h1)(k:aI h nx→h.le h1→h.le H:=by
 intro d q;(try dsimp only);repeat (first|exact q|refine aJ d ?_ (by omega) _|refine aL d ?_ (by omega))):h.le H:=k d q
theorem leo{h H:Hp}{nx:Nat}(d:aI h nx)(k:aI h nx→h.le H:=by
 intro d;(try dsimp only);repeat (first|exact Hp.le_refl _|refine aJ d ?_ (by omega) _|refine aL d ?_ (by omega))):h.le H:=k d
theorem fls{p:Prop}(h:¬p:=by omega):p=False:=eq_false h
theorem dct{p:Prop} [Decidable p](h:p:=by omega):decide p=true:=decide_eq_true h
theorem dcf{p:Prop} [Decidable p](h:¬p:=by omega):decide p=false:=decide_eq_false h
theorem bqf{a b:Int}(h:a≠b:=by omega):(a==b)=false:=by simpa using h
theorem bqt{a b:Int}(h:a=b:=by omega):(a==b)=true:=by simpa using h
theorem bnt{a b:Int}(h:a≠b:=by omega):(a != b)=true:=by simpa using h
theorem bnf{a b:Int}(h:a=b:=by omega):(a != b)=false:=by simpa using h
theorem wrp{a b:Int}(h:a=b:=by omega)(h1:-9223372036854775808≤b:=by omega)(h2:b<9223372036854775808:=by omega):IntKind.i64.wrap a=b:=by rw[h];exact bB (by omega) (by omega)
theorem wkl{a b:List V}(E:True)(h:WkL a b:=by simp only[WkL,aB,Int.natCast_add,Int.natCast_one,Int.natCast_zero,go_sem,reduceIte,Nat.reduceAdd,Nat.reduceSub,Nat.reduceLT,Nat.reduceLeDiff,reduceCtorEq,Nat.reduceEqDiff,Int.reduceToNat]):WkL a b:=h
theorem wke{a b:List V}{p:Prop}(E:p)(h:p→WkL a b:=by intro E;simp only[WkL,aB,Int.natCast_add,Int.natCast_one,Int.natCast_zero,E,go_sem,reduceIte,Nat.reduceAdd,Nat.reduceSub,Nat.reduceLT,Nat.reduceLeDiff,reduceCtorEq,Nat.reduceEqDiff,Int.reduceToNat]):WkL a b:=h E
theorem e2{A B:Prop}(a:A)(b:B):A∧B:=⟨a,b⟩
theorem e3{A B C:Prop}(a:A)(b:B)(c:C):A∧B∧C:=⟨a,b,c⟩
theorem e4{A B C D:Prop}(a:A)(b:B)(c:C)(d:D):A∧B∧C∧D:=⟨a,b,c,d⟩
theorem e5{A B C D E:Prop}(a:A)(b:B)(c:C)(d:D)(e:E):A∧B∧C∧D∧E:=⟨a,b,c,d,e⟩
theorem e6{A B C D E F:Prop}(a:A)(b:B)(c:C)(d:D)(e:E)(f:F):A∧B∧C∧D∧E∧F:=⟨a,b,c,d,e,f⟩
theorem e7{A B C D E F G:Prop}(a:A)(b:B)(c:C)(d:D)(e:E)(f:F)(g:G):A∧B∧C∧D∧E∧F∧G:=⟨a,b,c,d,e,f,g⟩
theorem e8{A B C D E F G H:Prop}(a:A)(b:B)(c:C)(d:D)(e:E)(f:F)(g:G)(h:H):A∧B∧C∧D∧E∧F∧G∧H:=⟨a,b,c,d,e,f,g,h⟩
theorem e9{A B C D E F G H I:Prop}(a:A)(b:B)(c:C)(d:D)(e:E)(f:F)(g:G)(h:H)(i:I):A∧B∧C∧D∧E∧F∧G∧H∧I:=⟨a,b,c,d,e,f,g,h,i⟩
theorem e10{A B C D E F G H I J:Prop}(a:A)(b:B)(c:C)(d:D)(e:E)(f:F)(g:G)(h:H)(i:I)(j:J):A∧B∧C∧D∧E∧F∧G∧H∧I∧J:=⟨a,b,c,d,e,f,g,h,i,j⟩
theorem e11{A B C D E F G H I J K:Prop}(a:A)(b:B)(c:C)(d:D)(e:E)(f:F)(g:G)(h:H)(i:I)(j:J)(k:K):A∧B∧C∧D∧E∧F∧G∧H∧I∧J∧K:=⟨a,b,c,d,e,f,g,h,i,j,k⟩
theorem e12{A B C D E F G H I J K L:Prop}(a:A)(b:B)(c:C)(d:D)(e:E)(f:F)(g:G)(h:H)(i:I)(j:J)(k:K)(l:L):A∧B∧C∧D∧E∧F∧G∧H∧I∧J∧K∧L:=⟨a,b,c,d,e,f,g,h,i,j,k,l⟩
theorem e13{A B C D E F G H I J K L M:Prop}(a:A)(b:B)(c:C)(d:D)(e:E)(f:F)(g:G)(h:H)(i:I)(j:J)(k:K)(l:L)(m:M):A∧B∧C∧D∧E∧F∧G∧H∧I∧J∧K∧L∧M:=⟨a,b,c,d,e,f,g,h,i,j,k,l,m⟩
theorem e14{A B C D E F G H I J K L M N:Prop}(a:A)(b:B)(c:C)(d:D)(e:E)(f:F)(g:G)(h:H)(i:I)(j:J)(k:K)(l:L)(m:M)(n:N):A∧B∧C∧D∧E∧F∧G∧H∧I∧J∧K∧L∧M∧N:=⟨a,b,c,d,e,f,g,h,i,j,k,l,m,n⟩
theorem au{G B:Prop}(k:B)(h:PLift B→G:=by
 intro k
 (repeat' (first|(with_reducible first|refine stp ?_|refine bJ (by decide) ?_)|((first|(with_reducible refine fV ?_;first|refine eJ rfl ?_ ?_|refine aQ (C1 _) rfl (aT _) ?_|refine aQ (C2 _) rfl (aT _) ?_|refine aQ (C3 _) rfl (aT _) ?_|refine aQ (C4 _) rfl (aT _) ?_|refine aQ C5 rfl (aT _) ?_|refine aQ C6 rfl (aT _) ?_|(first|refine dD rfl ?_|refine dE rfl ?_)|refine cE rfl ?_)|(with_reducible refine fW ?_;first|refine cB rfl ?_ ?_|refine bK (D1 _) rfl (bM _) ?_|refine bK (D2 _) rfl (bM _) ?_|refine bK (D3 _) rfl (bM _) ?_|refine bK (D4 _) rfl (bM _) ?_|refine bK (D5 _) rfl (bM _) ?_|refine bK (D6 _) rfl (bM _) ?_|(first|refine dF rfl ?_|refine dG rfl ?_)|refine cF rfl ?_|refine cG (cW ?_)|refine cG (eF ?_))|(with_reducible refine fX ?_;refine dW rfl ?_))<;>try simp only[go_sem,reduceIte,Nat.reduceAdd,Nat.reduceSub,Nat.reduceLT,Nat.reduceLeDiff,reduceCtorEq,Nat.reduceEqDiff,Int.reduceToNat])|(with_reducible refine gM ?_;refine dO rfl ?_)|omega))
 exact k.down):G:=h ⟨k⟩
theorem aus{G B:Prop}(k:B)(h:PLift B→G:=by
 intro k
 (repeat' (first|(with_reducible first|refine stp ?_|refine bJ (by decide) ?_)|((first|(with_reducible refine fV ?_;first|refine eJ rfl ?_ ?_|refine aQ (C1 _) rfl (aT _) ?_|refine aQ (C2 _) rfl (aT _) ?_|refine aQ (C3 _) rfl (aT _) ?_|refine aQ (C4 _) rfl (aT _) ?_|refine aQ C5 rfl (aT _) ?_|refine aQ C6 rfl (aT _) ?_|(first|refine dD rfl ?_|refine dE rfl ?_)|refine cE rfl ?_)|(with_reducible refine fW ?_;first|refine cB rfl ?_ ?_|refine bK (D1 _) rfl (bM _) ?_|refine bK (D2 _) rfl (bM _) ?_|refine bK (D3 _) rfl (bM _) ?_|refine bK (D4 _) rfl (bM _) ?_|refine bK (D5 _) rfl (bM _) ?_|refine bK (D6 _) rfl (bM _) ?_|(first|refine dF rfl ?_|refine dG rfl ?_)|refine cF rfl ?_|refine cG (cW ?_)|refine cG (eF ?_))|(with_reducible refine fX ?_;refine dW rfl ?_))<;>try simp only[go_sem,reduceIte,Nat.reduceAdd,Nat.reduceSub,Nat.reduceLT,Nat.reduceLeDiff,reduceCtorEq,Nat.reduceEqDiff,Int.reduceToNat])|omega))
 exact k.down):G:=h ⟨k⟩
theorem aue{G B p:Prop}(E:p)(k:B)(h:p→PLift B→G:=by
 intro E k
 (repeat' (first|(with_reducible first|refine stp ?_|refine bJ (by decide) ?_)|((first|(with_reducible refine fV ?_;first|refine eJ rfl ?_ ?_|refine aQ (C1 _) rfl (aT _) ?_|refine aQ (C2 _) rfl (aT _) ?_|refine aQ (C3 _) rfl (aT _) ?_|refine aQ (C4 _) rfl (aT _) ?_|refine aQ C5 rfl (aT _) ?_|refine aQ C6 rfl (aT _) ?_|refine sI rfl (acc aAU hdm) rfl (by simp) (by simp only[E,List.length_map,go_sem,reduceIte,Nat.reduceAdd,Nat.reduceSub,Nat.reduceLT,Nat.reduceLeDiff,reduceCtorEq,Nat.reduceEqDiff,Int.reduceToNat];try omega) ?_|refine sH rfl rfl (by simp only[E,List.length_map,go_sem,reduceIte,Nat.reduceAdd,Nat.reduceSub,Nat.reduceLT,Nat.reduceLeDiff,reduceCtorEq,Nat.reduceEqDiff,Int.reduceToNat];try omega) ?_|(first|refine dD rfl ?_|refine dE rfl ?_)|refine cE rfl ?_)|(with_reducible refine fW ?_;first|refine cB rfl ?_ ?_|refine bK (D1 _) rfl (bM _) ?_|refine bK (D2 _) rfl (bM _) ?_|refine bK (D3 _) rfl (bM _) ?_|refine bK (D4 _) rfl (bM _) ?_|refine bK (D5 _) rfl (bM _) ?_|refine bK (D6 _) rfl (bM _) ?_|refine nN rfl rfl (by decide) (by(simp only[cS,go_sem,reduceIte,Nat.reduceAdd,Nat.reduceSub,Nat.reduceLT,Nat.reduceLeDiff,reduceCtorEq,Nat.reduceEqDiff,Int.reduceToNat])<;>try omega) (by simp only[go_sem,reduceIte,Nat.reduceAdd,Nat.reduceSub,Nat.reduceLT,Nat.reduceLeDiff,reduceCtorEq,Nat.reduceEqDiff,Int.reduceToNat]) (by simp only[go_sem,reduceIte,Nat.reduceAdd,Nat.reduceSub,Nat.reduceLT,Nat.reduceLeDiff,reduceCtorEq,Nat.reduceEqDiff,Int.reduceToNat]) (by simp only[E,go_sem,reduceIte,Nat.reduceAdd,Nat.reduceSub,Nat.reduceLT,Nat.reduceLeDiff,reduceCtorEq,Nat.reduceEqDiff,Int.reduceToNat]) ?_|(first|refine dF rfl ?_|refine dG rfl ?_)|refine cF rfl ?_|refine cG (cW ?_)|refine cG (eF ?_))|(with_reducible refine fX ?_;refine dW rfl ?_))<;>try simp only[E,List.length_map,go_sem,reduceIte,Nat.reduceAdd,Nat.reduceSub,Nat.reduceLT,Nat.reduceLeDiff,reduceCtorEq,Nat.reduceEqDiff,Int.reduceToNat])|(with_reducible refine gM ?_;refine dO rfl ?_)|omega))
 exact k.down):G:=h E ⟨k⟩
theorem Zn{G B:Prop}(k:B)(h:PLift B→G:=by intro k;simp only[go_sem,reduceIte,Nat.reduceAdd,Nat.reduceSub,Nat.reduceLT,Nat.reduceLeDiff,reduceCtorEq,Nat.reduceEqDiff,Int.reduceToNat];exact k.down):G:=h ⟨k⟩
theorem ZN{P:Prop}(h:P:=by first|omega|(dsimp only;omega)):P:=h
theorem Zw{P:Prop}(h:P:=by dsimp only;omega):P:=h
theorem ZW{G B:Prop}(k:B)(h:PLift B→G:=by intro k;(with_reducible first|refine stp ?_|refine bJ (by decide) ?_);exact k.down):G:=h ⟨k⟩
theorem Zx{G B:Prop}(k:B)(h:PLift B→G:=by intro k;(first|refine dD rfl ?_|refine dE rfl ?_|refine cE rfl ?_);exact k.down):G:=h ⟨k⟩
theorem ZX{G B:Prop}(k:B)(h:PLift B→G:=by intro k;(first|refine dF rfl ?_|refine dG rfl ?_|refine cF rfl ?_|refine cG (cW ?_)|refine cG (eF ?_));exact k.down):G:=h ⟨k⟩
theorem Zy{G B:Prop}(k:B)(h:PLift B→G:=by intro k;(with_reducible refine fX ?_;refine dW rfl ?_);exact k.down):G:=h ⟨k⟩
theorem ZY{G B:Prop}(k:B)(h:PLift B→G:=by intro k;(with_reducible refine gM ?_;refine dO rfl ?_);exact k.down):G:=h ⟨k⟩
end Go.Proofs.YtecepaehmojpgaaGreat
