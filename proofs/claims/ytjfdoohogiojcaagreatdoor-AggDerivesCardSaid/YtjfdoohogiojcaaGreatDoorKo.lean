/-
Texts of this proof,one behind the other. No conditions.
-/
import Derived.Test.YtjfdoohogiojcaaGreatDoorRows
import Derived.WalkKit
import Derived.ProofKit
import Derived.OpenShut
import Derived.ShutString
import Derived.ChangeOld
import Derived.Below
import Derived.SizedLaws
import Derived.Test.YtjfdoohogiojcaaGreatDoorKdb
import Derived.ChangeArms
import Derived.DataReads
import Derived.Test.YtjfdoohogiojcaaGreatDoorKl
import Derived.Test.YtjfdoohogiojcaaGreatDoorKd
import Derived.Test.YtjfdoohogiojcaaGreatDoorKn
open Go.Proofs.YtjfdoohogiojcaaGreatDoor.V renaming undef→Ka,fits→Ke
open List renaming getElem?_eq_getElem→Kb,getD_eq_getElem?_getD→Kc,take_succ_eq_append_getElem→Kd,take_of_length_le→Kf,drop_eq_getElem_cons→Kg,mem_append_left→Ki,getElem?_append_right→Kj,getElem?_append_left→Kk,mem_append_right→Ko,replicate→Kq,all_eq_true→Kt,getElem_mem→Ku,mem_map→Kw,drop_of_length_le→Kx,take_append_drop→Kz,getElem_of_mem→KB,length_append→KD,map_append→KF,mem_cons→KG,take_add→KH,map_cons→KI,length→KJ
open Bool renaming not_false→Kh,not_true→Km
open Nat renaming lt_or_ge→Kp,zero_le→Ky,le_refl→KE
open Array renaming getD_eq_getD_getElem?→Ks
open Option renaming bind_eq_some_iff→Kv
open Go.World renaming cells?_some→KA
open Go renaming undef→KC
set_option linter.unusedSimpArgs false
set_option linter.unusedVariables false
set_option linter.unusedSectionVars false
set_option maxHeartbeats 8000000
open Nat renaming reduceAdd→jA,reduceSub→jB,reduceLT→jC,reduceLeDiff→jD,reduceEqDiff→jE
open Int renaming reduceToNat→jF,toNat_natCast→jG,natCast_add→jH,natCast_one→jI,natCast_zero→jJ
open List renaming length_map→jK,length_cons→jL,length_nil→jM,replicate_succ→jN,replicate_zero→jO,cons_append→jP,nil_append→jQ
namespace Go.Proofs.YtjfdoohogiojcaaGreatDoor
open Go.ChangeShapes Go.WideShapes Go.ChangeAt Go.RowKit
theorem own:ownKnob Tryz.prog.godebug=none:=Zz
theorem Ag:laidOutB Tryz.prog=true:=Zz
section
variable{H:Type}{enc:TypeId×Value→H}{P:Program}
theorem qO(hl:laidOutB P=true){W W':World}(hb:Below W.heap.size W W'):∀{ts:List TypeId} {vs:List Value} {ds:List (DataW H)} {ps:List MemPlace},
 (∀t∈ts,P.readableRec t=true∧t<P.types.size)→DataW.TrodAll enc P W 0 (fun _=>true) true ts vs ds ps→(∀x∈ps,x.block<W.heap.size)→
 DataW.TrodAll enc P W' 0 (fun b=>decide (b<W.heap.size)) true ts vs ds ps
 | [],vs,ds,ps,_,h,_=>by
  obtain⟨rfl,rfl,rfl⟩:=trodAll_nil h;exact trodAll_mk0
 |t::ts,vs,ds,ps,ht,h,hlt=>by
  obtain⟨v,vs',d,ds',p,q,rfl,rfl,rfl,h1,h2⟩:=trodAll_cons h;obtain⟨hr,hs⟩:=ht t Zm;exact trodAll_cons_mk (Below.trod hl hr hs h1 hb (fun x hx=>hlt x (by simp[hx]))) (qO hl hb (fun t ht'=>ht t (by simp[ht'])) h2 (fun x hx=>hlt x (by simp[hx])))
theorem rN{W:World}{base:Nat}{spare:Nat→Bool}{held:Bool}:∀{ts:List TypeId} {vs:List Value} {ds:List (DataW H)} {ps:List MemPlace},
 DataW.TrodAll enc P W base spare held ts vs ds ps→vs.length=ts.length∧ds.length=ts.length
 | [],vs,ds,ps,h=>by obtain⟨rfl,rfl,rfl⟩:=trodAll_nil h;exact⟨rfl,rfl⟩
 |t::ts,vs,ds,ps,h=>by
  obtain⟨v,vs',d,ds',p,q,rfl,rfl,rfl,h1,h2⟩:=trodAll_cons h;obtain⟨e1,e2⟩:=rN h2;exact⟨by simp[e1],by simp[e2]⟩
end
inductive AT where
 |bool
 |int (k:IntKind)
 |str
 |sl (k:Sh) (es:List AT)
 |mu (k:Sh) (es:List AT)
 |self
 deriving Inhabited
def AT.un(k:Sh)(es:List AT):AT→AT
 | .self=> .mu k es
 |a=>a
inductive AT.ok:AT→V→Prop
 |bool (b:Bool):AT.ok .bool (.bool b)
 |int (k:IntKind) (n:Int) (h:(Lit.int k n).wf=true):AT.ok (.int k) (.int k n)
 |str (s:ByteArray) (h:s.size≤reachBytes):AT.ok .str (.str s)
 |nil (k:Sh) (es:List AT):AT.ok (.sl k es) (.sl k .nil [])
 |sl (k:Sh) (es:List AT) (vs:List V) (hl:es.length=k.size) (hf:∀v,v∈vs→v.fits k=true) (hc:∀v,v∈vs→∀i,i<es.length→AT.ok (es.getD i .bool) (v.cell i)):AT.ok (.sl k es) (.sl k .free vs)
 |aFr (k:Sh) (es:List AT):AT.ok (.mu k es) (.sl k .nil [])
 |mu (k:Sh) (es:List AT) (vs:List V) (hl:es.length=k.size) (hf:∀v,v∈vs→v.fits k=true) (hc:∀v,v∈vs→∀i,i<es.length→AT.ok ((es.getD i .bool).un k es) (v.cell i)):AT.ok (.mu k es) (.sl k .free vs)
theorem AT.ok.aAE{t:AT}{v:V}(h:t.ok v):v.aAE=true:=by cases h<;>rfl
def gW(P:Program)(g:TypeId→Option (List AT)):List Field→Nat→Option (List AT)
 | [],_=>some []
 |fd::r,off=>match g fd.type,gW P g r (off+P.cellsOf fd.type) with
  |some a,some b=>if fd.offset=off∧a.length=P.cellsOf fd.type then some (a++b) else none
  |_,_=>none
def nk(P:Program)(e:TypeId):Bool:=match P.underlying e with
 |some (.struct fs)=>fs.toList.any fun f=>match P.underlying f.type with
  |some (.slice e')=>e'==e
  |_=>false
 |_=>false
def rI(P:Program)(slf:Option TypeId):Nat→TypeId→Option (List AT)
 |0,_=>none
 |n+1,t=>match P.underlying t with
  |some .bool=>some [.bool]
  |some (.int k)=>some [.int k]
  |some .string=>some [.str]
  |some (.slice e)=>if slf=some e then some [.self] else match bX P e,rI P (if nk P e=true then some e else none) n e with
   |some k,some es=>if es.length=k.size∧P.cellsOf e=k.size∧0<k.size then some [if nk P e=true then .mu k es else .sl k es] else none
   |_,_=>none
  |some (.struct fs)=>match gW P (rI P slf n) fs.toList 0 with
   |some l=>if l.length=P.cellsOf t then some l else none
   |none=>none
  |some (.array m e)=>match rI P slf n e with
   |some a=>if a.length=P.cellsOf e∧m*a.length=P.cellsOf t then some (Kq m a).flatten else none
   |none=>none
  |_=>none
def sX(P:Program)(n:Nat)(t:TypeId):Option (List AT):=rI P none n t
def Ker.base(W:World):Ker:=⟨W,fun _=>0,fun _=>0,fun _=>0,fun _=>False,fun b=>b<W.heap.size⟩
theorem Rel.aQI(W:World)(hG:gX (Ker.base W)):Rel (Ker.base W) Hp.none:=⟨(fun n b e=>by cases e),(fun n b e=>by cases e),(fun n b e=>by cases e),(fun n n' b b' e=>by cases e),hG⟩
theorem wH{W:World}{a:Addr}{v:Value}(h:W.cell? a=some v):a.block<W.heap.size∧a.spot=none:=by
 unfold World.cell? at h;split at h
 ·rename_i hh;refine⟨(Array.getElem?_eq_some_iff.1 hh).1,?_⟩;split at h
  ·cases h
  rename_i hs;simpa using hs
 cases h
def mkV:Sh→List V→V
 | .leaf,vs=>vs.getD 0 Ka
 | .agg _,vs=> .agg vs
theorem jh{k:Sh}{vs:List V}(hl:vs.length=k.size)(h:∀i,i<vs.length→(vs.getD i Ka).aAE=true):(mkV k vs).fits k=true:=by
 cases k with
 |leaf=>
  have:=h 0 (by rw[hl];simp[Sh.size]);simpa [mkV,Ke] using this
 |agg n=>
  simp only[mkV,Ke,Bool.and_eq_true,decide_eq_true_eq,Kt];refine⟨hl,fun v hv=>?_⟩;obtain⟨i,hi,rfl⟩:=KB hv;have:=h i hi;rwa [Kc,Kb hi] at this
theorem xO{k:Sh}{vs:List V}(hl:vs.length=k.size)(h:∀i,i<vs.length→(vs.getD i Ka).aAE=true)(j:Nat)(hj:j<k.size):(mkV k vs).cell j=vs.getD j Ka:=by
 cases k with
 |leaf=>
  have hj0:j=0:=by simpa [Sh.size] using hj
  subst hj0;exact gV (h 0 (by rw[hl];simp[Sh.size]))
 |agg n=>rfl
section
variable{H:Type}{enc:TypeId×Value→H}{P:Program}{w:World}{held:Bool}
theorem kR{e:TypeId}{d:DataW H}{b:Nat}(hb:b∈d.weights P e):∀{ds:List (DataW H)},d∈ds→b∈DataW.weightsAll P e ds
 | [],h=>by cases h
 |x::r,h=>by
  unfold DataW.weightsAll;rcases KG.1 h with rfl|h
  ·exact Ki _ hb
  exact Ko _ (kR hb h)
theorem nI{b:Nat}:∀{ts:List TypeId} {ds:List (DataW H)} (i:Nat) (t:TypeId) (d:DataW H),ts[i]?=some t→ds[i]?=some d→b∈d.weights P t→b∈DataW.weightsEach P ts ds
 | [],_,i,t,d,h,_,_=>by simp at h
 |_::_,[],i,t,d,_,h,_=>by simp at h
 |t0::ts,d0::ds,i,t,d,h1,h2,hb=>by
  unfold DataW.weightsEach;cases i with
  |zero=>
   simp only[List.getElem?_cons_zero,Option.some.injEq] at h1 h2;subst h1 h2;exact Ki _ hb
  |succ i=>
   simp only[List.getElem?_cons_succ] at h1 h2;exact Ko _ (nI i t d h1 h2 hb)
def dh(P:Program)(t:TypeId)(d:DataW H):Prop:=∀b∈d.weights P t,b≤reachBytes
def Got(P:Program)(w:World)(ats:List AT)(cs:List Value):Prop:=
 cs.length=ats.length∧∃vs:List V,vs.length=ats.length∧∀i,i<ats.length→VR (Ker.base w) (vs.getD i Ka) (cs.getD i KC)∧(ats.getD i .bool).ok (vs.getD i Ka)
theorem pU{a:AT}{c:Value}{v:V}(h:VR (Ker.base w) v c)(ho:a.ok v):Got P w [a] [c]:=
 ⟨rfl,[v],rfl,fun i hi=>by
   have:i=0:=by simpa using hi
   subst this;exact⟨h,ho⟩⟩
theorem yM{a b:List AT}{ca cb:List Value}(h:Got P w a ca)(h':Got P w b cb):Got P w (a++b) (ca++cb):=by
 obtain⟨h1,vs,h2,h3⟩:=h;obtain⟨k1,us,k2,k3⟩:=h';refine⟨by simp[h1,k1],vs++us,by simp[h2,k2],fun i hi=>?_⟩;simp only[KD] at hi;by_cases e:i<a.length
 ·have:=h3 i e;simp only[Kc] at this⊢;rw[Kk or,Kk or,Kk or];exact this
 have:=k3 (i-a.length) or;simp only[Kc] at this⊢;rw[Kj or,Kj or,Kj or,h2,h1];exact this
theorem yR{slf:Option TypeId}{u:AT→AT}{n fuel:Nat}{cs:List Value}(ih:∀t cs x ats,DataW.trod enc P w 0 (fun _=>true) held fuel t cs=some x→dh P t x.1→rI P slf n t=some ats→Got P w (ats.map u) cs):
 ∀(fs:List Field) (off:Nat) (ats:List AT),gW P (rI P slf n) fs off=some ats→(∀fd∈fs,∃x,DataW.trod enc P w 0 (fun _=>true) held fuel fd.type ((cs.drop fd.offset).take (P.cellsOf fd.type))=some x∧dh P fd.type x.1)→off+ats.length≤cs.length→Got P w (ats.map u) ((cs.drop off).take ats.length)
 | [],off,ats,h,_,_=>by
  simp only[gW,Option.some.injEq] at h;subst h;exact⟨Zm,[],rfl,fun i hi=>by cases hi⟩
 |fd::r,off,ats,h,hx,hle=>by
  simp only[gW] at h;split at h
  ·rename_i a b ha hb;split at h
   ·rename_i hc;injection h with h;subst h;obtain⟨ho,hal⟩:=hc;subst ho;obtain⟨x,hxx,hxs⟩:=hx fd Zm;have g1:=ih _ _ _ _ hxx hxs ha;rw[←hal] at hb g1;simp only[KD] at hle⊢;have g2:=yR ih r _ b hb (fun f hf=>hx f (by simp[hf])) or;have e:(cs.drop fd.offset).take (a.length+b.length)=(cs.drop fd.offset).take a.length++(cs.drop (fd.offset+a.length)).take b.length:=by
     rw[KH,List.drop_drop]
    rw[e,KF];exact yM g1 g2
   cases h
  cases h
theorem j7{a:List AT}{ce:Nat}(hal:a.length=ce){cs:List Value}:∀(m:Nat),(∀i,i<m→Got P w a ((cs.drop (i*ce)).take ce))→Got P w (Kq m a).flatten (cs.take (m*ce))
 |0,_=>⟨Zm,[],Zm,fun i hi=>absurd hi Zm⟩
 |m+1,h=>by
  have g1:=j7 hal m (fun i hi=>h i or);have g2:=h m or;have e1:(Kq (m+1) a).flatten=(Kq m a).flatten++a:=by
   rw[List.replicate_succ',List.flatten_append];simp
  have e2:cs.take ((m+1)*ce)=cs.take (m*ce)++(cs.drop (m*ce)).take ce:=by
   rw[Nat.add_mul,Nat.one_mul,KH]
  rw[e1,e2];exact yM g1 g2
theorem Ay{k:Sh}{es:List AT}:∀{l:List AT},(∀a∈l,a≠ .self)→l.map (AT.un k es)=l
 | [],_=>rfl
 |a::l,h=>by
  rw[KI,Ay fun b hb=>h b (by simp[hb])];have:=h a Zm;cases a<;>first|rfl|exact absurd rfl this
theorem sY{f:TypeId→Option (List AT)}{q:AT→Prop}(hf:∀t l,f t=some l→∀a∈l,q a):∀(fs:List Field) (off:Nat) (l:List AT),gW P f fs off=some l→∀a∈l,q a
 | [],off,l,h=>by simp only[gW,Option.some.injEq] at h;subst h;intro a ha;cases ha
 |fd::r,off,l,h=>by
  simp only[gW] at h;split at h
  ·rename_i x y hx hy;split at h
   ·injection h with h;subst h;intro a ha;rcases List.mem_append.1 ha with k|k
    ·exact hf _ _ hx a k
    exact sY hf r _ y hy a k
   cases h
  cases h
theorem vB:∀(n:Nat) (t:TypeId) (l:List AT),rI P none n t=some l→∀a∈l,a≠ .self
 |0,t,l,h=>by simp[rI] at h
 |n+1,t,l,h=>by
  simp only[rI] at h;split at h
  ·injection h with h;subst h;simp
  ·injection h with h;subst h;simp
  ·injection h with h;subst h;simp
  ·rw[if_neg Zm] at h;split at h
   ·split at h
    ·injection h with h;subst h;simp;split<;>simp
    cases h
   cases h
  ·split at h
   ·rename_i l' hl;split at h
    ·injection h with h;subst h;exact sY (fun t l=>vB n t l) _ _ _ hl
    cases h
   cases h
  ·split at h
   ·rename_i a ha;split at h
    ·injection h with h;subst h;intro x hx;obtain⟨y,hy,hx⟩:=List.mem_flatten.1 hx;rw[(List.mem_replicate.1 hy).2] at hx;exact vB n _ _ ha x hx
    cases h
   cases h
  cases h
theorem vU{k:Sh}{es:List AT}{n:Nat}{t:TypeId}{l:List AT}(h:rI P none n t=some l):l.map (AT.un k es)=l:=Ay (vB n t l h)
theorem tM{fuel:Nat}{t e:TypeId}{cs:List Value}{x:DataW H×List MemPlace}(hu:P.underlying t=some (.slice e))(h:DataW.trod enc P w 0 (fun _=>true) held (fuel+1) t cs=some x){k:Sh}{es:List AT}(hel:es.length=k.size)(hce:P.cellsOf e=k.size)(aAi:0<k.size)
 (hsx:dh P t x.1) (ih:∀cs x,DataW.trod enc P w 0 (fun _=>true) held fuel e cs=some x→dh P e x.1→Got P w es cs):
 ∃c v,cs=[c]∧VR (Ker.base w) v c∧(v= .sl k .nil []∨∃vs,v= .sl k .free vs∧(∀v,v∈vs→v.fits k=true)∧∀v,v∈vs→∀i,i<es.length→(es.getD i .bool).ok (v.cell i)):=by
 rcases DataW.trod_slice hu h with⟨rfl,_⟩|⟨a,len,cap,elems,rest,m,hfu,rfl,hxe,_,hlc,hcm,hlen,aLQ,hsp,_⟩
 ·exact⟨_,_,rfl, .slnil k, .inl rfl⟩
 injection hfu with hfu;subst hfu;obtain⟨hrl,aG9⟩:=hsp rfl;rw[hce] at aLQ aG9;by_cases hcap:cap=0
 ·subst hcap;have:len=0:=or;subst this;refine⟨_, .sl k .free [],rfl, .slz k a, .inr ⟨[],rfl,?_,?_⟩⟩<;>intro v hv<;>cases hv
 have aHP:∃v,w.cell? a=some v:=by
  have key:∀y,(w.cells? 0 (a.add (0*k.size)) k.size).bind (DataW.trod enc P w 0 (fun _=>true) held fuel e)=some y→∃v,w.cell? a=some v:=by
   intro y hy;obtain⟨c,hc1,_⟩:=Kv.1 hy;obtain⟨_,hc2,hc3⟩:=KA hc1;have:=hc3 0 aAi;simp only[Nat.zero_mul,Addr.add,if_true] at this;rw[this,Kb or];exact⟨_,rfl⟩
  by_cases hl0:len=0
  ·have:=aG9 0 or;rw[hl0] at this;rw[Kb or] at this;exact key _ (by simpa using this)
  have:=aLQ 0 or;rw[Kb or] at this;exact key _ this
 obtain⟨v0,hv0⟩:=aHP;obtain⟨hblk,aG7⟩:=wH hv0;obtain⟨b,off,sp⟩:=a;simp only at hblk aG7;subst aG7;have aGx:∀j,(⟨b,off,none⟩:Addr).add j=⟨b,off+j,none⟩:=fun j=>by unfold Addr.add;split<;>simp_all
 have elem:∀i,i<len→∃vs:List V,vs.length=k.size∧∀j,j<k.size→(∃c,w.cell? ⟨b,off+(i*k.size+j),none⟩=some c∧VR (Ker.base w) (vs.getD j Ka) c)∧(es.getD j .bool).ok (vs.getD j Ka):=by
  intro i hi;have h1:=aLQ i hi;rw[Kb or] at h1;obtain⟨c,hc1,hc2⟩:=Kv.1 h1;obtain⟨_,hcl,hcc⟩:=KA hc1;obtain⟨g1,vs,g2,g3⟩:=ih c _ hc2 (fun b hb=>hsx b (by
   rw[hxe];show b∈DataW.weights P t (.slice _ _);unfold DataW.weights;rw[hu];exact List.mem_cons_of_mem _ (Ki _ (kR hb (Kw.2 ⟨elems[i]'or,Ku _,rfl⟩)))))
  refine⟨vs,or,fun j hj=>?_⟩;obtain⟨q1,q2⟩:=g3 j or;refine⟨⟨c.getD j KC,?_,q1⟩,q2⟩;have:=hcc j hj;rw[aGx] at this;have e2:(⟨b,off+i*k.size,none⟩:Addr).add j=⟨b,off+(i*k.size+j),none⟩:=by
   unfold Addr.add;split<;>simp_all [Nat.add_assoc]
  rw[e2] at this;rw[this,Kc,Kb or];rfl
 let g:Nat→List V:=fun i=>if hi:i<len then Classical.choose (elem i hi) else []
 have hg:∀i (hi:i<len),(g i).length=k.size∧∀j,j<k.size→(∃c,w.cell? ⟨b,off+(i*k.size+j),none⟩=some c∧VR (Ker.base w) ((g i).getD j Ka) c)∧(es.getD j .bool).ok ((g i).getD j Ka):=by
  intro i hi;have:=Classical.choose_spec (elem i hi);simp only[g,dif_pos hi];exact this
 have aBu:∀i (hi:i<len),∀j,j<(g i).length→((g i).getD j Ka).aAE=true:=fun i hi j hj=>((hg i hi).2 j (by rw[(hg i hi).1] at hj;exact hj)).2.aAE;let vs:List V:=(List.range len).map fun i=>mkV k (g i)
 have hvl:vs.length=len:=by simp[vs]
 have hvi:∀i,i<len→vs.getD i Ka=mkV k (g i):=fun i hi=>by
  simp[vs,Kc,hi]
 have aA4:∀v,v∈vs→∃i,i<len∧v=mkV k (g i):=fun v hv=>by
  obtain⟨i,hi,rfl⟩:=Kw.1 hv;exact⟨i,by simpa using hi,rfl⟩
 have aHO:∀v,v∈vs→v.fits k=true:=fun v hv=>by
  obtain⟨i,hi,rfl⟩:=aA4 v hv;exact jh (hg i hi).1 (aBu i hi)
 refine⟨_, .sl k .free vs,rfl,?_, .inr ⟨vs,rfl,aHO,fun v hv i hi=>?_⟩⟩
 ·have:=VR.sl (K:=Ker.base w) k .free vs b off cap (fun j=>(w.cell? ⟨b,off+j,none⟩).getD KC) hblk aHO
   (fun j hj=>by
     have hj':j<len*k.size:=by rw[hvl] at hj;exact hj
     obtain⟨q1,q2,q3⟩:=pW hj';obtain⟨⟨c,hc,_⟩,_⟩:=(hg _ q1).2 _ q2;rw[q3] at hc;show w.cell? _=_;rw[hc];rfl)
   (fun j hj=> .inl hblk)
   (fun i hi j hj=>by
     rw[hvl] at hi;rw[hvi i hi,xO (hg i hi).1 (aBu i hi) j hj];obtain⟨⟨c,hc,hv⟩,_⟩:=(hg i hi).2 j hj;rw[hc];exact hv)
   (by rw[hvl];exact hlc) Zm Zm (fun n e=>by cases e)
  rwa [hvl] at this
 obtain⟨i',hi',rfl⟩:=aA4 v hv;rw[xO (hg i' hi').1 (aBu i' hi') i or];exact((hg i' hi').2 i or).2
theorem wh{slf:Option TypeId}{k0:Sh}{es0:List AT}(aK4:∀e,slf=some e→bX P e=some k0∧es0.length=k0.size∧P.cellsOf e=k0.size∧0<k0.size∧∃n,rI P (some e) n e=some es0):∀(fuel n:Nat) (t:TypeId) (cs:List Value) (x:DataW H×List MemPlace) (ats:List AT),DataW.trod enc P w 0 (fun _=>true) held fuel t cs=some x→dh P t x.1→rI P slf n t=some ats→Got P w (ats.map (AT.un k0 es0)) cs:=by
 intro fuel;induction fuel generalizing slf k0 es0 with
 |zero=>intro n t cs x ats h _;simp[DataW.trod] at h
 |succ fuel ih=>
  intro n t cs x ats h hsx ha;cases n with
  |zero=>simp[rI] at ha
  |succ n=>
   simp only[rI] at ha;split at ha
   ·rename_i hu;injection ha with ha;subst ha;obtain⟨b,rfl,_⟩:=DataW.trod_bool hu h;exact pU (.bool b) (.bool b)
   ·rename_i k hu;injection ha with ha;subst ha;obtain⟨m,rfl,_,hwf⟩:=DataW.trod_int hu h;exact pU (.int k m) (.int k m hwf)
   ·rename_i hu;injection ha with ha;subst ha;unfold DataW.trod at h;rw[hu] at h;split at h<;>simp_all
    rename_i s;refine pU (.str s) (.str s ?_);have:=hsx s.data.toList.length (by rw[←h.2];show _∈DataW.weights P t (.lit (.string s.data.toList));unfold DataW.weights;exact List.mem_singleton.2 rfl);simpa using this
   ·rename_i e hu;split at ha
    ·rename_i hse;injection ha with ha;subst ha;obtain⟨q1,q2,q3,q4,n',q5⟩:=aK4 e hse;obtain⟨c,v,rfl,hv,aBv⟩:=tM (es:=es0.map (AT.un k0 es0)) hu h (by simpa using q2) q3 q4 hsx (fun cs x hx hxs=>ih (slf:=some e) (fun e' he=>by injection he with he;subst he;exact⟨q1,q2,q3,q4,n',q5⟩) n' e cs x es0 hx hxs q5);refine pU hv ?_;rcases aBv with rfl|⟨vs,rfl,h1,h2⟩
     ·exact .aFr k0 es0
     exact .mu k0 es0 vs q2 h1 fun v hv i hi=>by
      have:=h2 v hv i (by simpa using hi);simpa [Kc,Kb hi] using this
    split at ha
    ·rename_i k es hk hes;split at ha
     ·rename_i hc;injection ha with ha;subst ha;obtain⟨hel,hce,aAi⟩:=hc;by_cases aG8:nk P e=true
      ·rw[if_pos aG8] at hes⊢;obtain⟨c,v,rfl,hv,aBv⟩:=tM (es:=es.map (AT.un k es)) hu h (by simpa using hel) hce aAi hsx (fun cs x hx hxs=>ih (slf:=some e) (fun e' he=>by injection he with he;subst he;exact⟨hk,hel,hce,aAi,n,hes⟩) n e cs x es hx hxs hes);refine pU hv ?_;rcases aBv with rfl|⟨vs,rfl,h1,h2⟩
       ·exact .aFr k es
       exact .mu k es vs hel h1 fun v hv i hi=>by
        have:=h2 v hv i (by simpa using hi);simpa [Kc,Kb hi] using this
      rw[if_neg aG8] at hes⊢;obtain⟨c,v,rfl,hv,aBv⟩:=tM (es:=es) hu h hel hce aAi hsx (fun cs x hx hxs=>by
       have:=ih (slf:=none) (k0:= .leaf) (es0:=[]) (fun e' he=>by cases he) n e cs x es hx hxs hes;rwa [vU hes] at this)
      refine pU hv ?_;rcases aBv with rfl|⟨vs,rfl,h1,h2⟩
      ·exact .nil k es
      exact .sl k es vs hel h1 h2
     cases ha
    cases ha
   ·rename_i fs hu;split at ha
    ·rename_i l hl;split at ha
     ·rename_i hc;injection ha with ha;subst ha;obtain⟨xs,m,hfu,hxe,hcl,hxl,hf⟩:=DataW.trod_struct hu h;injection hfu with hfu;subst hfu;have:=yR (cs:=cs) (fun t cs x ats h1 h2 h3=>ih aK4 n t cs x ats h1 h2 h3) fs.toList 0 l hl (fun fd hfd=>by
       obtain⟨i,hi,rfl⟩:=KB hfd;have hi':i<fs.size:=by simpa using hi
       refine⟨xs[i]'or,?_,fun b hb=>hsx b ?_⟩
       ·have:=hf i fs[i] (Array.getElem?_eq_getElem hi');rw[Kb or] at this;simpa using this
       rw[hxe];show b∈DataW.weights P t (.agg _);unfold DataW.weights;rw[hu];refine nI i fs[i].type _ ?_ ?_ (by simpa using hb)
       ·simp[hi']
       simp[Kb (by omega:i<xs.length)]) or
      rw[List.drop_zero,Kf or] at this;exact this
     cases ha
    cases ha
   ·rename_i m e hu;split at ha
    ·rename_i a hae;split at ha
     ·rename_i hc;injection ha with ha;subst ha;obtain⟨xs,m',hfu,hxe,hcl,hxl,hf⟩:=DataW.trod_array hu h;injection hfu with hfu;subst hfu;have:=j7 (P:=P) (w:=w) (a:=a.map (AT.un k0 es0)) (ce:=P.cellsOf e) (by simpa using hc.1) (cs:=cs) m fun i hi=>by
       have:=hf i hi;rw[Kb or] at this;refine ih aK4 n e _ _ a this (fun b hb=>hsx b ?_) hae;rw[hxe];show b∈DataW.weights P t (.agg _);unfold DataW.weights;rw[hu];exact kR hb (Kw.2 ⟨xs[i]'or,Ku _,rfl⟩)
      rw[Kf (by rw[←hc.1];omega)] at this;rw[List.map_flatten,List.map_replicate];exact this
     cases ha
    cases ha
   cases ha
def l9(P:Program)(t:TypeId)(x:V):Prop:=∃k ats,bX P t=some k∧sX P 12 t=some ats∧x.fits k=true∧ats.length=k.size∧∀i,i<ats.length→(ats.getD i .bool).ok (x.cell i)
def qo(P:Program):List TypeId→List V→Prop
 | [],[]=>True
 |t::ts,x::xs=>l9 P t x∧qo P ts xs
 |_,_=>False
theorem Au{r:Reach}{base:Nat}{t:TypeId}{v:Value}{d:DataW H}{p:List MemPlace}(hval:Value.okWide P w r base t v)(h:DataW.Trod enc P w 0 (fun _=>true) held t v d p)(hsd:dh P t d){k:Sh}{ats:List AT}(hk:bX P t=some k)(ha:sX P 12 t=some ats)(hl:ats.length=k.size):
 ∃x:V,VR (Ker.base w) x v∧l9 P t x:=by
 obtain⟨fuel,h⟩:=h;have gg:=wh (slf:=none) (k0:= .leaf) (es0:=[]) (fun e he=>by cases he) fuel 12 t _ _ ats h hsd ha;rw[vU ha] at gg;obtain⟨g1,vs,g2,g3⟩:=gg;have aBu:∀i,i<vs.length→(vs.getD i Ka).aAE=true:=fun i hi=>(g3 i or).2.aAE;refine⟨mkV k vs,?_,k,ats,hk,ha,jh or aBu,hl,fun i hi=>by rw[xO or aBu i or];exact(g3 i hi).2⟩;have aQ5:∃u,P.underlying t=some u∧((k= .leaf∧(∀fs,u≠ .struct fs)∧∀n e,u≠ .array n e)∨((∃n,k= .agg n)∧((∃fs,u= .struct fs)∨∃n e,u= .array n e))):=by
  unfold bX at hk;split at hk
  ·cases hk
  split at hk
  ·rename_i fs hu;injection hk with hk;exact⟨_,hu, .inr ⟨⟨_,hk.symm⟩, .inl ⟨fs,rfl⟩⟩⟩
  ·rename_i n e hu;injection hk with hk;exact⟨_,hu, .inr ⟨⟨_,hk.symm⟩, .inr ⟨n,e,rfl⟩⟩⟩
  ·rename_i u h1 h2 hu;split at hk
   ·injection hk with hk;exact⟨u,hu, .inl ⟨hk.symm,fun fs e=>by subst e;exact h1 fs rfl,fun n e' e=>by subst e;exact h2 n e' rfl⟩⟩
   cases hk
  cases hk
 obtain⟨u,hu,aBv⟩:=aQ5;rcases aBv with⟨rfl,hn1,hn2⟩|⟨⟨n,rfl⟩,hag⟩
 ·have hv1:vs.length=1:=by simpa [Sh.size] using g2.trans hl
  have hc0:=(g3 0 or).1;have hcell:v.cells.toList.getD 0 KC=v:=by
   cases v<;>first|rfl|skip
   rename_i cs;exfalso;unfold Value.okWide at hval;rw[hu] at hval;unfold sX rI at ha;rw[hu] at ha;cases u<;>first|exact hn1 _ rfl|exact hn2 _ _ rfl|(simp only[Cell.okWide,Cell.ok,hu] at hval)|(simp at ha)
  rw[hcell] at hc0;exact hc0
 have hv:∃cs,v= .agg cs:=by
  unfold Value.okWide at hval;rw[hu] at hval;rcases hag with⟨fs,rfl⟩|⟨m,e,rfl⟩<;>obtain⟨cs,rfl,_⟩:=hval<;>exact⟨cs,rfl⟩
 obtain⟨cs,rfl⟩:=hv;refine .agg vs cs (by have:=g1;simp[Value.cells] at this;omega) fun i hi=>?_;have:=(g3 i or).1;simpa [Value.cells,Ks,Kc] using this
theorem lz{r:Reach}{base:Nat}:∀{ts:List TypeId} {vs:List Value} {ds:List (DataW H)} {ps:List MemPlace},(∀t∈ts,∃k ats,bX P t=some k∧sX P 12 t=some ats∧ats.length=k.size)→
 (∀(j:Nat) t v,ts[j]?=some t→vs[j]?=some v→Value.okWide P w r base t v)→DataW.TrodAll enc P w 0 (fun _=>true) held ts vs ds ps→(∀b∈DataW.weightsEach P ts ds,b≤reachBytes)→∃xs:List V,qo P ts xs∧xs.length=vs.length∧∀i,i<xs.length→VR (Ker.base w) (xs.getD i Ka) (vs.getD i KC)
 | [],vs,ds,ps,_,_,h,_=>by
  obtain⟨rfl,rfl,rfl⟩:=trodAll_nil h;exact⟨[],trivial,rfl,fun i hi=>by cases hi⟩
 |t::ts,vs,ds,ps,ht,hval,h,hsz=>by
  obtain⟨v,vs',d,ds',p,q,rfl,rfl,rfl,h1,h2⟩:=trodAll_cons h;obtain⟨k,ats,hk,ha,hl⟩:=ht t Zm;obtain⟨x,hx,ho⟩:=Au (hval 0 t v rfl rfl) h1 (fun b hb=>hsz b (by unfold DataW.weightsEach;exact Ki _ hb)) hk ha hl;obtain⟨xs,h3,h4,h5⟩:=lz (fun t ht'=>ht t (by simp[ht'])) (fun j t v hj hv=>hval (j+1) t v hj hv) h2 (fun b hb=>hsz b (by unfold DataW.weightsEach;exact Ko _ hb));refine⟨x::xs,⟨ho,h3⟩,by simp[h4],fun i hi=>?_⟩;cases i with
  |zero=>simpa using hx
  |succ i=>simpa using h5 i (by simpa using hi)
theorem fm{f:FuncId}{fn:Func}{ts:List TypeId}(hts:fn.params.toList=ts)(hat:(ts.all fun t=>match bX P t,sX P 12 t with|some k,some ats=>decide (ats.length=k.size)|_,_=>false)=true)
 (hp:∀xs:List V,qo P ts xs→aO P f xs Hp.none (.bool true)) (W:World) (base:Nat) (args:Array Value) (ds:List (DataW H)) (p:List MemPlace)
 (hval:∀(j:Nat) t v,fn.params[j]?=some t→args[j]?=some v→Value.okWide P W .any base t v) (hA:DataW.TrodAll enc P W 0 (fun _=>true) true fn.params.toList args.toList ds p) (hsz:(DataW.weightsEach P fn.params.toList ds).all (·≤reachBytes)=true) (hG:gX (Ker.base W)):
 Calls P f args W fun e W'=>e= .returned (.bool true)∧Below W.heap.size W W':=by
 have aRX:∀t∈ts,∃k ats,bX P t=some k∧sX P 12 t=some ats∧ats.length=k.size:=fun t ht=>by
  have:=Kt.1 hat t ht;split at this
  ·rename_i k ats h1 h2;exact⟨k,ats,h1,h2,by simpa using this⟩
  cases this
 rw[hts] at hA hsz;obtain⟨xs,h1,h2,h3⟩:=lz (P:=P) aRX (fun j t v hj hv=>hval j t v (by rw[←hts] at hj;simpa using hj) (by simpa using hv)) hA (fun b hb=>by simpa using Kt.1 hsz b hb);have c:=hp xs h1 Hp.none 0 (aM _);refine(c.2 (Ker.base W) args (fun n hn=>hn.elim) (Rel.aQI W hG) ⟨by simpa using h2,fun i hi=>?_⟩).mono ?_
 ·have:=h3 i hi;simpa [Ks,Kc] using this
 rintro e w' ⟨K',v,cv,h',nx',rfl,rfl,hle,hvr,_,_,_,rfl,_,_⟩;cases hvr;have hb:=hle.below;exact⟨rfl,⟨hb.os,hb.tape,hb.output,hb.size,fun k hk=>hb.block k hk (.inl hk)⟩⟩
end
theorem dI{k:IntKind}{v:V}(h:(AT.int k).ok v):∃n,v= .int k n:=by cases h with|int _ n _=>exact⟨n,rfl⟩
def Vl.sm(x:Vl):Prop:=x.s.size≤9223372036854775807
theorem oP{α:Type}(p:α→Prop)(f:α→V):∀(vs:List V),(∀v∈vs,∃x,p x∧v=f x)→∃l:List α,(∀x∈l,p x)∧vs=l.map f
 | [],_=>⟨[],Zm,rfl⟩
 |v::vs,h=>by
  obtain⟨x,hx,rfl⟩:=h v Zm;obtain⟨l,hl,rfl⟩:=oP p f vs (fun v hv=>h v (by simp[hv]));exact⟨x::l,by simpa using⟨hx,hl⟩,rfl⟩
theorem vn{P:Program}{t:TypeId}{a:AT}{x:V}(ek:bX P t=some .leaf)(ea:sX P 12 t=some [a])(h:l9 P t x):a.ok x:=by
 obtain⟨k,ats,hk,ha,hf,_,ho⟩:=h;rw[ek] at hk;rw[ea] at ha;injection hk with hk;injection ha with ha;subst hk ha;have h0:=ho 0 Zm;rwa [gV (by rwa [kL] at hf)] at h0
end Go.Proofs.YtjfdoohogiojcaaGreatDoor
namespace Go.Proofs.YtjfdoohogiojcaaGreatDoor
open Go.RowKit Go.Sort
attribute [local irreducible] IntKind.wrap
theorem dl(a b:Vl):veq (.plain (.agg 3) [.int, .int, .str]) a.v b.v=some (decide (a=b)):=by
 have e:(decide (a=b))=(decide (a.k=b.k)&&(decide (a.n=b.n)&&decide (a.s=b.s))):=by
  rw[Bool.eq_iff_iff];cases a;cases b;simp
 rw[e];have e1:(a.k==b.k)=decide (a.k=b.k):=rfl;have e2:(a.n==b.n)=decide (a.n=b.n):=rfl;simp[Vl.v,we,Ke,V.aAE,gI,iG,eA,e1,e2]
theorem zw(a b:Vl):veq (.plain (.agg 3) [.int, .int, .str]) (.agg [.int .i64 a.k, .int .i64 a.n, .str a.s]) (.agg [.int .i64 b.k, .int .i64 b.n, .str b.s])=some (decide (a=b)):=dl a b
theorem zZ(o1 o2:Own)(a b:List Vl)(ha:a.length≤1000000000)(h:Hp):aO Tryz.prog 29 [vls o1 a,vls o2 b] h (.bool (decide (a=b))):=by
 refine aI (fun L=>trivial) fun h' nx hh=>aB L.aTc fun hd=>?_;simp only[jL,jM,jA,jB,jN,jO,jP,jQ,Ka];by_cases hl:a.length=b.length
 ·have cl:((a.length:Int) != (b.length:Int))=false:=bnf;refine aue (e2 cl (@jK Vl V)) ?_;refine aT (fun i:Nat=>aD 26 0 [(0,vls o1 a),(1,vls o2 b),(12, .int .i64 a.length),(13, .int .i64 i)]) (fun i hp nx1=>i≤a.length∧nx≤nx1∧aW hp nx1∧Hp.same nx h' hp∧a.take i=b.take i) (fun i=>a.length-i) 0 ⟨Ky _,KE _,hd,Hp.same.aAt,rfl⟩ (by simp only[WkL,aD,jH,jI,jJ,go_sem,reduceIte,jA,jB,jC,jD,reduceCtorEq,jE,jF]) ?_;rintro i hp nx1 ⟨hi,hnx,hdm,hsm,htk⟩;generalize hQ:bB _ _ _ _ _=Q0;simp only[aD,go_sem,reduceIte,jA,jB,jC,jD,reduceCtorEq,jE,jF];rcases Kp i a.length with hlt|hge
  ·have hc:decide ((i:Int)<(a.length:Int))=true:=dct;have hw:IntKind.i64.wrap ((i:Int)+1)=((i+1:Nat):Int):=wrp;have hlb:i<b.length:=or;have hg:=aR Vl.v a i hlt;have hg2:=aR Vl.v b i hlb;have hv:=dl a[i] b[i];have E:=e9 hc hw hg hg2 hv hlt hlb (@jK Vl V) (e2 jG Vl.aAA);cases he:decide (a[i]=b[i]) with
   |true=>
    have he':a[i]=b[i]:=of_decide_eq_true he;refine aue (e4 E he Km Kh) ?_;rw[←hQ];exact aH (i+1) or ⟨hlt,or,dmo hdm,kep hsm,by rw[Kd hlt,Kd hlb,htk,he']⟩ (by simp only[WkL,aD,jH,jI,jJ,hw,go_sem,reduceIte,jA,jB,jC,jD,reduceCtorEq,jE,jF])
   |false=>
    have he':a[i]≠b[i]:=of_decide_eq_false he;refine aue (e4 E he Km Kh) ?_;rw[←hQ];refine au ?_;refine aC h' (lef hd (hsm.le hd (Hp.le_refl _))) ⟨?_,rfl⟩;have:a≠b:=fun e=>he' (by subst e;rfl);simp only[go_sem,reduceIte,jA,jB,jC,jD,reduceCtorEq,jE,jF];rw[decide_eq_false this]
  have hc:decide ((i:Int)<(a.length:Int))=false:=dcf;refine aue hc ?_;rw[←hQ];refine au ?_;refine aC h' (lef hd (hsm.le hd (Hp.le_refl _))) ⟨?_,rfl⟩;have:a=b:=by rw[Kf or,Kf or] at htk;exact htk
  simp only[go_sem,reduceIte,jA,jB,jC,jD,reduceCtorEq,jE,jF];rw[decide_eq_true this]
 have cl:((a.length:Int) != (b.length:Int))=true:=bnt;refine aue (e2 cl (@jK Vl V)) ?_;refine aC h' (leo hd) ⟨?_,rfl⟩;have:a≠b:=fun e=>hl (by rw[e]);simp only[go_sem,reduceIte,jA,jB,jC,jD,reduceCtorEq,jE,jF];rw[decide_eq_false this]
theorem kQ(o1 o2:Own)(a b:List TR)(ha:a.length≤1000000000)(hr:∀p∈a,p.2.length≤1000000000)(h:Hp):aO Tryz.prog 14 [tps o1 a,tps o2 b] h (.bool (decide (aS a=aS b))):=by
 refine aI (fun L=>trivial) fun h' nx hh=>aB L.aTu fun hd=>?_;simp only[jL,jM,jA,jB,jN,jO,jP,jQ,Ka];by_cases hl:a.length=b.length
 ·have cl:((a.length:Int) != (b.length:Int))=false:=bnf;refine aue (e2 cl (@jK TR V)) ?_;refine aT (fun i:Nat=>aD 27 0 [(0,tps o1 a),(1,tps o2 b),(12, .int .i64 a.length),(13, .int .i64 i)]) (fun i hp nx1=>i≤a.length∧nx≤nx1∧aW hp nx1∧Hp.same nx h' hp∧aS (a.take i)=aS (b.take i)) (fun i=>a.length-i) 0 ⟨Ky _,KE _,hd,Hp.same.aAt,rfl⟩ (by simp only[WkL,aD,jH,jI,jJ,go_sem,reduceIte,jA,jB,jC,jD,reduceCtorEq,jE,jF]) ?_;rintro i hp nx1 ⟨hi,hnx,hdm,hsm,htk⟩;generalize hQ:bB _ _ _ _ _=Q0;simp only[aD,go_sem,reduceIte,jA,jB,jC,jD,reduceCtorEq,jE,jF];rcases Kp i a.length with hlt|hge
  ·have hc:decide ((i:Int)<(a.length:Int))=true:=dct;have hw:IntKind.i64.wrap ((i:Int)+1)=((i+1:Nat):Int):=wrp;have hlb:i<b.length:=or;have hg:(a.map TR.v).getD i (.tup [])=vls a[i].1 a[i].2:=aR TR.v a i hlt;have hg2:(b.map TR.v).getD i (.tup [])=vls b[i].1 b[i].2:=aR TR.v b i hlb;have D1:=fun h=>zZ a[i].1 b[i].1 a[i].2 b[i].2 (hr _ (Ku _)) h;have E:=e8 hc hw hg hg2 hlt hlb (@jK TR V) jG;cases he:decide (a[i].2=b[i].2) with
   |true=>
    rw[he] at D1;have he':a[i].2=b[i].2:=of_decide_eq_true he;refine aue (e3 E Km Kh) ?_;rw[←hQ];exact aH (i+1) or ⟨hlt,or,dmo hdm,kep hsm,by
     rw[Kd hlt,Kd hlb];simp only[aS,KF,KI,List.map_nil,he'] at htk⊢;rw[htk]⟩ (by simp only[WkL,aD,jH,jI,jJ,hw,go_sem,reduceIte,jA,jB,jC,jD,reduceCtorEq,jE,jF])
   |false=>
    rw[he] at D1;have he':a[i].2≠b[i].2:=of_decide_eq_false he;refine aue (e3 E Km Kh) ?_;rw[←hQ];refine au ?_;refine aC h' (lef hd (hsm.le hd (Hp.le_refl _))) ⟨?_,rfl⟩;have:aS a≠aS b:=fun e=>he' (by
     have h1:(aS a)[i]'(by simpa using hlt)=a[i].2:=Zm;have h2:(aS b)[i]'(by simpa using hlb)=b[i].2:=Zm;rw[←h1,←h2];congr 1)
    simp only[go_sem,reduceIte,jA,jB,jC,jD,reduceCtorEq,jE,jF];rw[decide_eq_false this]
  have hc:decide ((i:Int)<(a.length:Int))=false:=dcf;refine aue hc ?_;rw[←hQ];refine au ?_;refine aC h' (lef hd (hsm.le hd (Hp.le_refl _))) ⟨?_,rfl⟩;have:aS a=aS b:=by rw[Kf or,Kf or] at htk;exact htk
  simp only[go_sem,reduceIte,jA,jB,jC,jD,reduceCtorEq,jE,jF];rw[decide_eq_true this]
 have cl:((a.length:Int) != (b.length:Int))=true:=bnt;refine aue (e2 cl (@jK TR V)) ?_;refine aC h' (leo hd) ⟨?_,rfl⟩;have:aS a≠aS b:=fun e=>hl (by have:=congrArg KJ e;simpa using this);simp only[go_sem,reduceIte,jA,jB,jC,jD,reduceCtorEq,jE,jF];rw[decide_eq_false this]
def eV(n:Int):Vl:=⟨1,n,⟨#[]⟩⟩
theorem jW(a b:Int)(h:Hp):aO Tryz.prog 15 [.int .i64 a, .int .i64 b] h (vls .free [eV a,eV b]):=by
 refine lY (fun L=>pG _ Zm L) fun h' nx hh=>aB L.aTt fun hd=>?_;simp only[jL,jM,jA,jB,jN,jO,jP,jQ,Ka];refine au ?_;refine aC _ (Hp.le_refl _) ⟨?_,leo hd⟩;refine Zn ?_;rfl
theorem AZ:bP 1 1 [[eV 1,eV 5],[eV 1,eV 6],[eV 2,eV 5]]=([[eV 1,eV 2],[eV 2,eV 1]],0):=Zz
theorem gw(h:Hp):aO Tryz.prog 4 [] h (.bool true):=by
 refine aI (fun L=>trivial) fun h' nx hh=>aB L.g1z fun hd=>?_;simp only[jL,jM,jA,jB,jN,jO,jP,jQ,Ka];refine au ?_;refine dB rfl (jW 1 5 _) rfl (aM _) ?_;refine Zn ?_;refine au ?_;refine dB rfl (jW 1 6 _) rfl (aM _) ?_;refine Zn ?_;refine au ?_;refine dB rfl (jW 2 5 _) rfl (aM _) ?_;refine Zn ?_;have f1:∀a b,Ke .leaf (vls .free [eV a,eV b])=true:=fun a b=>rfl;refine aue f1 ?_;refine bG ((vO 1 1 _ [(.free,[eV 1,eV 5]),(.free,[eV 1,eV 6]),(.free,[eV 2,eV 5])] Zm (by simp[TR.ok]) _ _).mono ?_);rintro v h2 nx2 aEq ⟨zs,rfl,hz,hok,rfl⟩;have hG:bP 1 1 (aS [((.free,[eV 1,eV 5]):TR),(.free,[eV 1,eV 6]),(.free,[eV 2,eV 5])])=([[eV 1,eV 2],[eV 2,eV 1]],0):=AZ;rw[hG] at hz⊢;dsimp only at hz aEq⊢;have hzn:zs≠ []:=fun e=>by rw[e] at hz;cases hz
 rw[wF zs hzn,yS];unfold dF;refine Zn ?_;refine au ?_;refine dB rfl (jW 1 2 _) rfl (aM _) ?_;refine Zn ?_;refine au ?_;refine dB rfl (jW 2 1 _) rfl (aM _) ?_;refine Zn ?_;have hzl:∀p∈zs,p.2.length≤1000000000:=fun p hp=>by
  have:p.2∈aS zs:=Kw.2 ⟨p,hp,rfl⟩;rw[hz] at this;simp only[KG,List.not_mem_nil,or_false] at this;rcases this with e|e<;>rw[e]<;>simp
 have hzc:zs.length≤1000000000:=by
  have:=congrArg KJ hz;simp at this;omega
 have C1:=fun h=>kQ .free (.tok nx2) zs [((.free,[eV 1,eV 2]):TR),(.free,[eV 2,eV 1])] hzc hzl h;have hd2:decide (aS zs=aS [((.free,[eV 1,eV 2]):TR),(.free,[eV 2,eV 1])])=true:=decide_eq_true hz;rw[hd2] at C1;refine aue f1 ?_;exact aC h' (leo hd) ⟨rfl,rfl⟩
theorem gb{a b:List Vl}:∀(i:Nat),a.take i=b.take i→i≤a.length→i≤b.length→bK a b=bK (a.drop i) (b.drop i):=fun i h h1 h2=>by
 conv=>lhs;rw[←Kz i a,←Kz i b,←h]
 clear h h1 h2;induction a.take i with
 |nil=>rfl
 |cons x l ih=>
  simp only[jP,bK,dM,orC,c3V.self,if_true];exact ih
theorem qT(o1 o2:Own)(a b:List Vl)(ha:a.length≤1000000000)(h:Hp):aO Tryz.prog 51 [vls o1 a,vls o2 b] h (.bool (nL a b)):=by
 refine aI (fun L=>trivial) fun h' nx hh=>aB L.aS7 fun hd=>?_;simp only[jL,jM,jA,jB,jN,jO,jP,jQ,Ka];refine au ?_;refine aT (fun i:Nat=>aD 41 0 [(0,vls o1 a),(1,vls o2 b),(5, .int .i64 i)]) (fun i hp nx1=>i≤a.length∧i≤b.length∧nx≤nx1∧aW hp nx1∧Hp.same nx h' hp∧a.take i=b.take i) (fun i=>a.length-i) 0 ⟨Ky _,Ky _,KE _,hd,Hp.same.aAt,rfl⟩ (by simp only[WkL,aD,jH,jI,jJ,go_sem,reduceIte,jA,jB,jC,jD,reduceCtorEq,jE,jF]) ?_;rintro i hp nx1 ⟨hi,hib,hnx,hdm,hsm,htk⟩;generalize hQ:bB _ _ _ _ _=Q0;simp only[aD,go_sem,reduceIte,jA,jB,jC,jD,reduceCtorEq,jE,jF];have hle:=hsm.le hd (Hp.le_refl _);have hcm:=gb i htk hi hib;rcases Kp i a.length with hlt|hge
 ·have hc:decide ((i:Int)<(a.length:Int))=true:=dct;have hw:IntKind.i64.wrap ((i:Int)+1)=((i+1:Nat):Int):=wrp;rcases Kp i b.length with hlb|hgb
  ·have hc2:decide ((i:Int)<(b.length:Int))=true:=dct;have hg:=aR Vl.v a i hlt;have hg2:=aR Vl.v b i hlb;have hv:=dl a[i] b[i];have E:=e11 hc hc2 hw hg hg2 hv hlt hlb (@jK Vl V) jG Vl.aAA;cases he:decide (a[i]=b[i]) with
   |true=>
    have he':a[i]=b[i]:=of_decide_eq_true he;refine aue (e4 E he Km Kh) ?_;rw[←hQ];exact aH (i+1) or ⟨hlt,hlb,or,dmo hdm,kep hsm,by rw[Kd hlt,Kd hlb,htk,he']⟩ (by simp only[WkL,aD,jH,jI,jJ,hw,go_sem,reduceIte,jA,jB,jC,jD,reduceCtorEq,jE,jF])
   |false=>
    have he':a[i]≠b[i]:=of_decide_eq_false he;have D1:=fun h=>nT a[i] b[i] h;refine aue (e4 E he Km Kh) ?_;rw[←hQ];refine au ?_;refine aC h' (lef hd hle) ⟨?_,rfl⟩;have:nL a b=yA a[i] b[i]:=by
     unfold nL yA;rw[hcm,Kg hlt,Kg hlb];simp only[bK,dM,orC,if_neg (fun e=>he' ((c3V.eq _ _).1 e))]
    simp only[this,go_sem,reduceIte,jA,jB,jC,jD,reduceCtorEq,jE,jF]
  have hc2:decide ((i:Int)<(b.length:Int))=false:=dcf;have hl2:decide ((a.length:Int)<(b.length:Int))=false:=dcf;refine aue (e4 hc hc2 (@jK Vl V) hl2) ?_;rw[←hQ];refine aue (e2 (@jK Vl V) hl2) ?_;refine aC h' (lef hd hle) ⟨?_,rfl⟩;have:nL a b=false:=by
   unfold nL;rw[hcm,Kg hlt,Kx hgb];rfl
  simp only[this,go_sem,reduceIte,jA,jB,jC,jD,reduceCtorEq,jE,jF]
 have hc:decide ((i:Int)<(a.length:Int))=false:=dcf;have hia:i=a.length:=or;have:nL a b=decide ((a.length:Int)<(b.length:Int)):=by
  unfold nL;rw[hcm,hia,List.drop_length];rcases Kp a.length b.length with k|k
  ·rw[Kg k,decide_eq_true (by omega:(a.length:Int)<b.length)];rfl
  rw[Kx k,decide_eq_false (by omega:¬(a.length:Int)<b.length)];rfl
 refine aue hc ?_;rw[←hQ];refine aue (@jK Vl V) ?_;refine aC h' (lef hd hle) ⟨?_,rfl⟩;simp only[this,go_sem,reduceIte,jA,jB,jC,jD,reduceCtorEq,jE,jF]
end Go.Proofs.YtjfdoohogiojcaaGreatDoor
