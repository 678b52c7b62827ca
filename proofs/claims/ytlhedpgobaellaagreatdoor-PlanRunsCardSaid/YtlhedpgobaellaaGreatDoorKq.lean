/-
Texts of this proof,one behind the other. No conditions.
-/
import Derived.Test.YtlhedpgobaellaaGreatDoorKLaw
import Derived.ChangeArms
import Derived.DataReads
import Derived.LaidMore
import Derived.Stop.Joined
import Derived.Handed
import Derived.Test.YtlhedpgobaellaaGreatDoorCards
import Derived.Test.YtlhedpgobaellaaGreatDoorTie
import Derived.SevenTiedAt
import Derived.Test.YtlhedpgobaellaaGreatDoorKud
open Go.Proofs.YtlhedpgobaellaaGreatDoor.V renaming undef→Ka,fits→Kb
open List renaming getElem?_eq_getElem→Kc,getD_eq_getElem?_getD→Kd,mem_of_getElem?→Ke,length_map→Kg,mem_append_left→Kh,getElem?_append_right→Ki,getElem?_append_left→Kj,append_nil→Kk,getElem?_map→Km,mem_cons→Ko,mem_append_right→Kp,replicate→Kt,all_eq_true→Kw,not_mem_nil→Kx,take_of_length_le→Kz,getElem_of_mem→KB,length_append→KC,getElem?_take→KD,getElem?_drop→KE,mem_map→KF,getElem_mem→KI,range→KJ,take_add→KK,length→KL
open Bool renaming and_eq_true→Kf
open Array renaming getElem?_toList→Kq,getD_eq_getD_getElem?→Ku
open Go renaming undef→Ks
open Go.World renaming var?_cell→Kv,cells?_some→KA,doorLaid→KH
open Option renaming bind_eq_some_iff→Ky
open Nat renaming le_trans→KG,mul_one→KM
set_option linter.all false
set_option maxHeartbeats 8000000
namespace Go.Proofs.YtlhedpgobaellaaGreatDoor
open Go.ChangeShapes Go.WideShapes Go.ChangeAt Go.RowKit
inductive AT where
 |bool
 |int (k:IntKind)
 |str
 |sl (k:Sh) (es:List AT)
 |mu (k:Sh) (es:List AT)
 |self
 deriving Inhabited
def AT.un(k:Sh)(es:List AT):AT→AT
 | .self=> .mu k es
 |a=>a
inductive AT.ok:AT→V→Prop
 |bool (b:Bool):AT.ok .bool (.bool b)
 |int (k:IntKind) (n:Int) (h:(Lit.int k n).wf=true):AT.ok (.int k) (.int k n)
 |str (s:ByteArray) (h:s.size≤reachBytes):AT.ok .str (.str s)
 |nil (k:Sh) (es:List AT):AT.ok (.sl k es) (.sl k .nil [])
 |sl (k:Sh) (es:List AT) (vs:List V) (hl:es.length=k.size) (hf:∀v,v∈vs→v.fits k=true) (hc:∀v,v∈vs→∀i,i<es.length→AT.ok (es.getD i .bool) (v.cell i)) (hn:vs.length≤reachBytes):AT.ok (.sl k es) (.sl k .free vs)
 |aFB (k:Sh) (es:List AT):AT.ok (.mu k es) (.sl k .nil [])
 |mu (k:Sh) (es:List AT) (vs:List V) (hl:es.length=k.size) (hf:∀v,v∈vs→v.fits k=true) (hc:∀v,v∈vs→∀i,i<es.length→AT.ok ((es.getD i .bool).un k es) (v.cell i)):AT.ok (.mu k es) (.sl k .free vs)
theorem AT.ok.aAE{t:AT}{v:V}(h:t.ok v):v.aAE=true:=by cases h<;>rfl
def iU(P:Program)(g:TypeId→Option (List AT)):List Field→Nat→Option (List AT)
 | [],_=>some []
 |fd::r,off=>match g fd.type,iU P g r (off+P.cellsOf fd.type) with
  |some a,some b=>if fd.offset=off∧a.length=P.cellsOf fd.type then some (a++b) else none
  |_,_=>none
def za(P:Program)(e:TypeId):Bool:=match P.underlying e with
 |some (.struct fs)=>fs.toList.any fun f=>match P.underlying f.type with
  |some (.slice e')=>e'==e
  |_=>false
 |_=>false
def vJ(P:Program)(slf:Option TypeId):Nat→TypeId→Option (List AT)
 |0,_=>none
 |n+1,t=>match P.underlying t with
  |some .bool=>some [.bool]
  |some (.int k)=>some [.int k]
  |some .string=>some [.str]
  |some (.slice e)=>if slf=some e then some [.self] else match cK P e,vJ P (if za P e=true then some e else none) n e with
   |some k,some es=>if es.length=k.size∧P.cellsOf e=k.size∧0<k.size∧0<P.bytesOf e then some [if za P e=true then .mu k es else .sl k es] else none
   |_,_=>none
  |some (.struct fs)=>match iU P (vJ P slf n) fs.toList 0 with
   |some l=>if l.length=P.cellsOf t then some l else none
   |none=>none
  |some (.array m e)=>match vJ P slf n e with
   |some a=>if a.length=P.cellsOf e∧m*a.length=P.cellsOf t then some (Kt m a).flatten else none
   |none=>none
  |_=>none
def tS(P:Program)(n:Nat)(t:TypeId):Option (List AT):=vJ P none n t
def Ker.base(W:World):Ker:=⟨W,fun _=>0,fun _=>0,fun _=>0,fun _=>False,fun b=>b<W.heap.size⟩
theorem Rel.aXa(W:World)(hG:iV (Ker.base W)):Rel (Ker.base W) Hp.none:=⟨(fun n b e=>by cases e),(fun n b e=>by cases e),(fun n b e=>by cases e),(fun n n' b b' e=>by cases e),hG⟩
theorem bq{W:World}{a:Addr}{v:Value}(h:W.cell? a=some v):a.block<W.heap.size∧a.spot=none:=by
 unfold World.cell? at h;split at h
 ·rename_i hh;refine⟨(Array.getElem?_eq_some_iff.1 hh).1,?_⟩;split at h
  ·cases h
  rename_i hs;simpa using hs
 cases h
def mkV:Sh→List V→V
 | .leaf,vs=>vs.getD 0 Ka
 | .agg _,vs=> .agg vs
theorem uq{k:Sh}{vs:List V}(hl:vs.length=k.size)(h:∀i,i<vs.length→(vs.getD i Ka).aAE=true):(mkV k vs).fits k=true:=by
 cases k with
 |leaf=>
  have:=h 0 (by rw[hl];simp[Sh.size]);simpa [mkV,Kb] using this
 |agg n=>
  simp only[mkV,Kb,Kf,decide_eq_true_eq,Kw];refine⟨hl,fun v hv=>?_⟩;obtain⟨i,hi,rfl⟩:=KB hv;have:=h i hi;rwa [Kd,Kc hi] at this
theorem fb{k:Sh}{vs:List V}(hl:vs.length=k.size)(h:∀i,i<vs.length→(vs.getD i Ka).aAE=true)(j:Nat)(hj:j<k.size):(mkV k vs).cell j=vs.getD j Ka:=by
 cases k with
 |leaf=>
  have hj0:j=0:=by simpa [Sh.size] using hj
  subst hj0;exact fA (h 0 (by rw[hl];simp[Sh.size]))
 |agg n=>rfl
section
variable{H:Type}{enc:TypeId×Value→H}{P:Program}{w:World}{held:Bool}
theorem nB{e:TypeId}{d:DataW H}{b:Nat}(hb:b∈d.weights P e):∀{ds:List (DataW H)},d∈ds→b∈DataW.weightsAll P e ds
 | [],h=>by cases h
 |x::r,h=>by
  unfold DataW.weightsAll;rcases Ko.1 h with rfl|h
  ·exact Kh _ hb
  exact Kp _ (nB hb h)
theorem qR{b:Nat}:∀{ts:List TypeId} {ds:List (DataW H)} (i:Nat) (t:TypeId) (d:DataW H),ts[i]?=some t→ds[i]?=some d→b∈d.weights P t→b∈DataW.weightsEach P ts ds
 | [],_,i,t,d,h,_,_=>by simp at h
 |_::_,[],i,t,d,_,h,_=>by simp at h
 |t0::ts,d0::ds,i,t,d,h1,h2,hb=>by
  unfold DataW.weightsEach;cases i with
  |zero=>
   simp only[List.getElem?_cons_zero,Option.some.injEq] at h1 h2;subst h1 h2;exact Kh _ hb
  |succ i=>
   simp only[List.getElem?_cons_succ] at h1 h2;exact Kp _ (qR i t d h1 h2 hb)
def o8(P:Program)(t:TypeId)(d:DataW H):Prop:=∀b∈d.weights P t,b≤reachBytes
def Got(P:Program)(w:World)(ats:List AT)(cs:List Value):Prop:=
 cs.length=ats.length∧∃vs:List V,vs.length=ats.length∧∀i,i<ats.length→VR (Ker.base w) (vs.getD i Ka) (cs.getD i Ks)∧(ats.getD i .bool).ok (vs.getD i Ka)
theorem sY{a:AT}{c:Value}{v:V}(h:VR (Ker.base w) v c)(ho:a.ok v):Got P w [a] [c]:=
 ⟨rfl,[v],rfl,fun i hi=>by
   have:i=0:=by simpa using hi
   subst this;exact⟨h,ho⟩⟩
theorem gz{a b:List AT}{ca cb:List Value}(h:Got P w a ca)(h':Got P w b cb):Got P w (a++b) (ca++cb):=by
 obtain⟨h1,vs,h2,h3⟩:=h;obtain⟨k1,us,k2,k3⟩:=h';refine⟨by simp[h1,k1],vs++us,by simp[h2,k2],fun i hi=>?_⟩;simp only[KC] at hi;by_cases e:i<a.length
 ·have:=h3 i e;simp only[Kd] at this⊢;rw[Kj or,Kj or,Kj or];exact this
 have:=k3 (i-a.length) or;simp only[Kd] at this⊢;rw[Ki or,Ki or,Ki or,h2,h1];exact this
theorem ig{slf:Option TypeId}{u:AT→AT}{n fuel:Nat}{cs:List Value}(ih:∀t cs x ats,DataW.trod enc P w 0 (fun _=>true) held fuel t cs=some x→o8 P t x.1→vJ P slf n t=some ats→Got P w (ats.map u) cs):
 ∀(fs:List Field) (off:Nat) (ats:List AT),iU P (vJ P slf n) fs off=some ats→(∀fd∈fs,∃x,DataW.trod enc P w 0 (fun _=>true) held fuel fd.type ((cs.drop fd.offset).take (P.cellsOf fd.type))=some x∧o8 P fd.type x.1)→off+ats.length≤cs.length→Got P w (ats.map u) ((cs.drop off).take ats.length)
 | [],off,ats,h,_,_=>by
  simp only[iU,Option.some.injEq] at h;subst h;exact⟨Zm,[],rfl,fun i hi=>by cases hi⟩
 |fd::r,off,ats,h,hx,hle=>by
  simp only[iU] at h;split at h
  ·rename_i a b ha hb;split at h
   ·rename_i hc;injection h with h;subst h;obtain⟨ho,hal⟩:=hc;subst ho;obtain⟨x,hxx,hxs⟩:=hx fd Zm;have g1:=ih _ _ _ _ hxx hxs ha;rw[←hal] at hb g1;simp only[KC] at hle⊢;have g2:=ig ih r _ b hb (fun f hf=>hx f (by simp[hf])) or;have e:(cs.drop fd.offset).take (a.length+b.length)=(cs.drop fd.offset).take a.length++(cs.drop (fd.offset+a.length)).take b.length:=by
     rw[KK,List.drop_drop]
    rw[e,List.map_append];exact gz g1 g2
   cases h
  cases h
theorem wi{a:List AT}{ce:Nat}(hal:a.length=ce){cs:List Value}:∀(m:Nat),(∀i,i<m→Got P w a ((cs.drop (i*ce)).take ce))→Got P w (Kt m a).flatten (cs.take (m*ce))
 |0,_=>⟨Zm,[],Zm,fun i hi=>absurd hi Zm⟩
 |m+1,h=>by
  have g1:=wi hal m (fun i hi=>h i or);have g2:=h m or;have e1:(Kt (m+1) a).flatten=(Kt m a).flatten++a:=by
   rw[List.replicate_succ',List.flatten_append];simp
  have e2:cs.take ((m+1)*ce)=cs.take (m*ce)++(cs.drop (m*ce)).take ce:=by
   rw[Nat.add_mul,Nat.one_mul,KK]
  rw[e1,e2];exact gz g1 g2
theorem GX{k:Sh}{es:List AT}:∀{l:List AT},(∀a∈l,a≠ .self)→l.map (AT.un k es)=l
 | [],_=>rfl
 |a::l,h=>by
  rw[List.map_cons,GX fun b hb=>h b (by simp[hb])];have:=h a Zm;cases a<;>first|rfl|exact absurd rfl this
theorem xL{f:TypeId→Option (List AT)}{q:AT→Prop}(hf:∀t l,f t=some l→∀a∈l,q a):∀(fs:List Field) (off:Nat) (l:List AT),iU P f fs off=some l→∀a∈l,q a
 | [],off,l,h=>by simp only[iU,Option.some.injEq] at h;subst h;intro a ha;cases ha
 |fd::r,off,l,h=>by
  simp only[iU] at h;split at h
  ·rename_i x y hx hy;split at h
   ·injection h with h;subst h;intro a ha;rcases List.mem_append.1 ha with k|k
    ·exact hf _ _ hx a k
    exact xL hf r _ y hy a k
   cases h
  cases h
theorem zE:∀(n:Nat) (t:TypeId) (l:List AT),vJ P none n t=some l→∀a∈l,a≠ .self
 |0,t,l,h=>by simp[vJ] at h
 |n+1,t,l,h=>by
  simp only[vJ] at h;split at h
  ·injection h with h;subst h;simp
  ·injection h with h;subst h;simp
  ·injection h with h;subst h;simp
  ·rw[if_neg Zm] at h;split at h
   ·split at h
    ·injection h with h;subst h;simp;split<;>simp
    cases h
   cases h
  ·split at h
   ·rename_i l' hl;split at h
    ·injection h with h;subst h;exact xL (fun t l=>zE n t l) _ _ _ hl
    cases h
   cases h
  ·split at h
   ·rename_i a ha;split at h
    ·injection h with h;subst h;intro x hx;obtain⟨y,hy,hx⟩:=List.mem_flatten.1 hx;rw[(List.mem_replicate.1 hy).2] at hx;exact zE n _ _ ha x hx
    cases h
   cases h
  cases h
theorem ab{k:Sh}{es:List AT}{n:Nat}{t:TypeId}{l:List AT}(h:vJ P none n t=some l):l.map (AT.un k es)=l:=GX (zE n t l h)
theorem xW{fuel:Nat}{t e:TypeId}{cs:List Value}{x:DataW H×List MemPlace}(hu:P.underlying t=some (.slice e))(h:DataW.trod enc P w 0 (fun _=>true) held (fuel+1) t cs=some x){k:Sh}{es:List AT}(hel:es.length=k.size)(hce:P.cellsOf e=k.size)(aAk:0<k.size)
 (hsx:o8 P t x.1) (ih:∀cs x,DataW.trod enc P w 0 (fun _=>true) held fuel e cs=some x→o8 P e x.1→Got P w es cs):
 ∃c v,cs=[c]∧VR (Ker.base w) v c∧(v= .sl k .nil []∨∃vs,v= .sl k .free vs∧(∀v,v∈vs→v.fits k=true)∧(∀v,v∈vs→∀i,i<es.length→(es.getD i .bool).ok (v.cell i))∧vs.length*P.bytesOf e≤reachBytes):=by
 rcases DataW.trod_slice hu h with⟨rfl,_⟩|⟨a,len,cap,elems,rest,m,hfu,rfl,hxe,_,hlc,hcm,hlen,aPq,hsp,_⟩
 ·exact⟨_,_,rfl, .slnil k, .inl rfl⟩
 injection hfu with hfu;subst hfu;obtain⟨hrl,aGt⟩:=hsp rfl;rw[hce] at aPq aGt;by_cases hcap:cap=0
 ·subst hcap;have:len=0:=or;subst this;refine⟨_, .sl k .free [],rfl, .slz k a, .inr ⟨[],rfl,?_,?_,Zm⟩⟩<;>intro v hv<;>cases hv
 have aG9:∃v,w.cell? a=some v:=by
  have key:∀y,(w.cells? 0 (a.add (0*k.size)) k.size).bind (DataW.trod enc P w 0 (fun _=>true) held fuel e)=some y→∃v,w.cell? a=some v:=by
   intro y hy;obtain⟨c,hc1,_⟩:=Ky.1 hy;obtain⟨_,hc2,hc3⟩:=KA hc1;have:=hc3 0 aAk;simp only[Nat.zero_mul,Addr.add,if_true] at this;rw[this,Kc or];exact⟨_,rfl⟩
  by_cases hl0:len=0
  ·have:=aGt 0 or;rw[hl0] at this;rw[Kc or] at this;exact key _ (by simpa using this)
  have:=aPq 0 or;rw[Kc or] at this;exact key _ this
 obtain⟨v0,hv0⟩:=aG9;obtain⟨hblk,aGr⟩:=bq hv0;obtain⟨b,off,sp⟩:=a;simp only at hblk aGr;subst aGr;have aGi:∀j,(⟨b,off,none⟩:Addr).add j=⟨b,off+j,none⟩:=fun j=>by unfold Addr.add;split<;>simp_all
 have elem:∀i,i<len→∃vs:List V,vs.length=k.size∧∀j,j<k.size→(∃c,w.cell? ⟨b,off+(i*k.size+j),none⟩=some c∧VR (Ker.base w) (vs.getD j Ka) c)∧(es.getD j .bool).ok (vs.getD j Ka):=by
  intro i hi;have h1:=aPq i hi;rw[Kc or] at h1;obtain⟨c,hc1,hc2⟩:=Ky.1 h1;obtain⟨_,hcl,hcc⟩:=KA hc1;obtain⟨g1,vs,g2,g3⟩:=ih c _ hc2 (fun b hb=>hsx b (by
   rw[hxe];show b∈DataW.weights P t (.slice _ _);unfold DataW.weights;rw[hu];exact List.mem_cons_of_mem _ (Kh _ (nB hb (KF.2 ⟨elems[i]'or,KI _,rfl⟩)))))
  refine⟨vs,or,fun j hj=>?_⟩;obtain⟨q1,q2⟩:=g3 j or;refine⟨⟨c.getD j Ks,?_,q1⟩,q2⟩;have:=hcc j hj;rw[aGi] at this;have e2:(⟨b,off+i*k.size,none⟩:Addr).add j=⟨b,off+(i*k.size+j),none⟩:=by
   unfold Addr.add;split<;>simp_all [Nat.add_assoc]
  rw[e2] at this;rw[this,Kd,Kc or];rfl
 let g:Nat→List V:=fun i=>if hi:i<len then Classical.choose (elem i hi) else []
 have hg:∀i (hi:i<len),(g i).length=k.size∧∀j,j<k.size→(∃c,w.cell? ⟨b,off+(i*k.size+j),none⟩=some c∧VR (Ker.base w) ((g i).getD j Ka) c)∧(es.getD j .bool).ok ((g i).getD j Ka):=by
  intro i hi;have:=Classical.choose_spec (elem i hi);simp only[g,dif_pos hi];exact this
 have aBh:∀i (hi:i<len),∀j,j<(g i).length→((g i).getD j Ka).aAE=true:=fun i hi j hj=>((hg i hi).2 j (by rw[(hg i hi).1] at hj;exact hj)).2.aAE;let vs:List V:=(KJ len).map fun i=>mkV k (g i)
 have hvl:vs.length=len:=by simp[vs]
 have hvi:∀i,i<len→vs.getD i Ka=mkV k (g i):=fun i hi=>by
  simp[vs,Kd,hi]
 have aAm:∀v,v∈vs→∃i,i<len∧v=mkV k (g i):=fun v hv=>by
  obtain⟨i,hi,rfl⟩:=KF.1 hv;exact⟨i,by simpa using hi,rfl⟩
 have aG8:∀v,v∈vs→v.fits k=true:=fun v hv=>by
  obtain⟨i,hi,rfl⟩:=aAm v hv;exact uq (hg i hi).1 (aBh i hi)
 have hwl:vs.length*P.bytesOf e≤reachBytes:=by
  have hw:∀b∈DataW.weights P t x.1,b≤reachBytes:=hsx;rw[hxe] at hw;unfold DataW.weights at hw;rw[hu] at hw;have:=hw _ List.mem_cons_self;simp only[Kg] at this;rw[hvl];exact KG (Nat.mul_le_mul_right _ or) this
 refine⟨_, .sl k .free vs,rfl,?_, .inr ⟨vs,rfl,aG8,fun v hv i hi=>?_,hwl⟩⟩
 ·have:=VR.sl (K:=Ker.base w) k .free vs b off cap (fun j=>(w.cell? ⟨b,off+j,none⟩).getD Ks) hblk aG8
   (fun j hj=>by
     have hj':j<len*k.size:=by rw[hvl] at hj;exact hj
     obtain⟨q1,q2,q3⟩:=tA hj';obtain⟨⟨c,hc,_⟩,_⟩:=(hg _ q1).2 _ q2;rw[q3] at hc;show w.cell? _=_;rw[hc];rfl)
   (fun j hj=> .inl hblk)
   (fun i hi j hj=>by
     rw[hvl] at hi;rw[hvi i hi,fb (hg i hi).1 (aBh i hi) j hj];obtain⟨⟨c,hc,hv⟩,_⟩:=(hg i hi).2 j hj;rw[hc];exact hv)
   (by rw[hvl];exact hlc) Zm Zm (fun n e=>by cases e)
  rwa [hvl] at this
 obtain⟨i',hi',rfl⟩:=aAm v hv;rw[fb (hg i' hi').1 (aBh i' hi') i or];exact((hg i' hi').2 i or).2
theorem DV{slf:Option TypeId}{k0:Sh}{es0:List AT}(aPR:∀e,slf=some e→cK P e=some k0∧es0.length=k0.size∧P.cellsOf e=k0.size∧0<k0.size∧∃n,vJ P (some e) n e=some es0):∀(fuel n:Nat) (t:TypeId) (cs:List Value) (x:DataW H×List MemPlace) (ats:List AT),DataW.trod enc P w 0 (fun _=>true) held fuel t cs=some x→o8 P t x.1→vJ P slf n t=some ats→Got P w (ats.map (AT.un k0 es0)) cs:=by
 intro fuel;induction fuel generalizing slf k0 es0 with
 |zero=>intro n t cs x ats h _;simp[DataW.trod] at h
 |succ fuel ih=>
  intro n t cs x ats h hsx ha;cases n with
  |zero=>simp[vJ] at ha
  |succ n=>
   simp only[vJ] at ha;split at ha
   ·rename_i hu;injection ha with ha;subst ha;obtain⟨b,rfl,_⟩:=DataW.trod_bool hu h;exact sY (.bool b) (.bool b)
   ·rename_i k hu;injection ha with ha;subst ha;obtain⟨m,rfl,_,hwf⟩:=DataW.trod_int hu h;exact sY (.int k m) (.int k m hwf)
   ·rename_i hu;injection ha with ha;subst ha;unfold DataW.trod at h;rw[hu] at h;split at h<;>simp_all
    rename_i s;refine sY (.str s) (.str s ?_);have:=hsx s.data.toList.length (by rw[←h.2];show _∈DataW.weights P t (.lit (.string s.data.toList));unfold DataW.weights;exact List.mem_singleton.2 rfl);simpa using this
   ·rename_i e hu;split at ha
    ·rename_i hse;injection ha with ha;subst ha;obtain⟨q1,q2,q3,q4,n',q5⟩:=aPR e hse;obtain⟨c,v,rfl,hv,aBi⟩:=xW (es:=es0.map (AT.un k0 es0)) hu h (by simpa using q2) q3 q4 hsx (fun cs x hx hxs=>ih (slf:=some e) (fun e' he=>by injection he with he;subst he;exact⟨q1,q2,q3,q4,n',q5⟩) n' e cs x es0 hx hxs q5);refine sY hv ?_;rcases aBi with rfl|⟨vs,rfl,h1,h2,h3⟩
     ·exact .aFB k0 es0
     exact .mu k0 es0 vs q2 h1 fun v hv i hi=>by
      have:=h2 v hv i (by simpa using hi);simpa [Kd,Kc hi] using this
    split at ha
    ·rename_i k es hk hes;split at ha
     ·rename_i hc;injection ha with ha;subst ha;obtain⟨hel,hce,aAk,hbe⟩:=hc;by_cases aGs:za P e=true
      ·rw[if_pos aGs] at hes⊢;obtain⟨c,v,rfl,hv,aBi⟩:=xW (es:=es.map (AT.un k es)) hu h (by simpa using hel) hce aAk hsx (fun cs x hx hxs=>ih (slf:=some e) (fun e' he=>by injection he with he;subst he;exact⟨hk,hel,hce,aAk,n,hes⟩) n e cs x es hx hxs hes);refine sY hv ?_;rcases aBi with rfl|⟨vs,rfl,h1,h2,h3⟩
       ·exact .aFB k es
       exact .mu k es vs hel h1 fun v hv i hi=>by
        have:=h2 v hv i (by simpa using hi);simpa [Kd,Kc hi] using this
      rw[if_neg aGs] at hes⊢;obtain⟨c,v,rfl,hv,aBi⟩:=xW (es:=es) hu h hel hce aAk hsx (fun cs x hx hxs=>by
       have:=ih (slf:=none) (k0:= .leaf) (es0:=[]) (fun e' he=>by cases he) n e cs x es hx hxs hes;rwa [ab hes] at this)
      refine sY hv ?_;rcases aBi with rfl|⟨vs,rfl,h1,h2,h3⟩
      ·exact .nil k es
      exact .sl k es vs hel h1 h2 (KG (Nat.le_mul_of_pos_right _ hbe) h3)
     cases ha
    cases ha
   ·rename_i fs hu;split at ha
    ·rename_i l hl;split at ha
     ·rename_i hc;injection ha with ha;subst ha;obtain⟨xs,m,hfu,hxe,hcl,hxl,hf⟩:=DataW.trod_struct hu h;injection hfu with hfu;subst hfu;have:=ig (cs:=cs) (fun t cs x ats h1 h2 h3=>ih aPR n t cs x ats h1 h2 h3) fs.toList 0 l hl (fun fd hfd=>by
       obtain⟨i,hi,rfl⟩:=KB hfd;have hi':i<fs.size:=by simpa using hi
       refine⟨xs[i]'or,?_,fun b hb=>hsx b ?_⟩
       ·have:=hf i fs[i] (Array.getElem?_eq_getElem hi');rw[Kc or] at this;simpa using this
       rw[hxe];show b∈DataW.weights P t (.agg _);unfold DataW.weights;rw[hu];refine qR i fs[i].type _ ?_ ?_ (by simpa using hb)
       ·simp[hi']
       simp[Kc (by omega:i<xs.length)]) or
      rw[List.drop_zero,Kz or] at this;exact this
     cases ha
    cases ha
   ·rename_i m e hu;split at ha
    ·rename_i a hae;split at ha
     ·rename_i hc;injection ha with ha;subst ha;obtain⟨xs,m',hfu,hxe,hcl,hxl,hf⟩:=DataW.trod_array hu h;injection hfu with hfu;subst hfu;have:=wi (P:=P) (w:=w) (a:=a.map (AT.un k0 es0)) (ce:=P.cellsOf e) (by simpa using hc.1) (cs:=cs) m fun i hi=>by
       have:=hf i hi;rw[Kc or] at this;refine ih aPR n e _ _ a this (fun b hb=>hsx b ?_) hae;rw[hxe];show b∈DataW.weights P t (.agg _);unfold DataW.weights;rw[hu];exact nB hb (KF.2 ⟨xs[i]'or,KI _,rfl⟩)
      rw[Kz (by rw[←hc.1];omega)] at this;rw[List.map_flatten,List.map_replicate];exact this
     cases ha
    cases ha
   cases ha
def o9(P:Program)(t:TypeId)(x:V):Prop:=∃k ats,cK P t=some k∧tS P 12 t=some ats∧x.fits k=true∧ats.length=k.size∧∀i,i<ats.length→(ats.getD i .bool).ok (x.cell i)
def AR(P:Program):List TypeId→List V→Prop
 | [],[]=>True
 |t::ts,x::xs=>o9 P t x∧AR P ts xs
 |_,_=>False
theorem GO{r:Reach}{base:Nat}{t:TypeId}{v:Value}{d:DataW H}{p:List MemPlace}(hval:Value.okWide P w r base t v)(h:DataW.Trod enc P w 0 (fun _=>true) held t v d p)(hsd:o8 P t d){k:Sh}{ats:List AT}(hk:cK P t=some k)(ha:tS P 12 t=some ats)(hl:ats.length=k.size):
 ∃x:V,VR (Ker.base w) x v∧o9 P t x:=by
 obtain⟨fuel,h⟩:=h;have gg:=DV (slf:=none) (k0:= .leaf) (es0:=[]) (fun e he=>by cases he) fuel 12 t _ _ ats h hsd ha;rw[ab ha] at gg;obtain⟨g1,vs,g2,g3⟩:=gg;have aBh:∀i,i<vs.length→(vs.getD i Ka).aAE=true:=fun i hi=>(g3 i or).2.aAE;refine⟨mkV k vs,?_,k,ats,hk,ha,uq or aBh,hl,fun i hi=>by rw[fb or aBh i or];exact(g3 i hi).2⟩;have aYv:∃u,P.underlying t=some u∧((k= .leaf∧(∀fs,u≠ .struct fs)∧∀n e,u≠ .array n e)∨((∃n,k= .agg n)∧((∃fs,u= .struct fs)∨∃n e,u= .array n e))):=by
  unfold cK at hk;split at hk
  ·cases hk
  split at hk
  ·rename_i fs hu;injection hk with hk;exact⟨_,hu, .inr ⟨⟨_,hk.symm⟩, .inl ⟨fs,rfl⟩⟩⟩
  ·rename_i n e hu;injection hk with hk;exact⟨_,hu, .inr ⟨⟨_,hk.symm⟩, .inr ⟨n,e,rfl⟩⟩⟩
  ·rename_i u h1 h2 hu;split at hk
   ·injection hk with hk;exact⟨u,hu, .inl ⟨hk.symm,fun fs e=>by subst e;exact h1 fs rfl,fun n e' e=>by subst e;exact h2 n e' rfl⟩⟩
   cases hk
  cases hk
 obtain⟨u,hu,aBi⟩:=aYv;rcases aBi with⟨rfl,hn1,hn2⟩|⟨⟨n,rfl⟩,hag⟩
 ·have hv1:vs.length=1:=by simpa [Sh.size] using g2.trans hl
  have hc0:=(g3 0 or).1;have hcell:v.cells.toList.getD 0 Ks=v:=by
   cases v<;>first|rfl|skip
   rename_i cs;exfalso;unfold Value.okWide at hval;rw[hu] at hval;unfold tS vJ at ha;rw[hu] at ha;cases u<;>first|exact hn1 _ rfl|exact hn2 _ _ rfl|(simp only[Cell.okWide,Cell.ok,hu] at hval)|(simp at ha)
  rw[hcell] at hc0;exact hc0
 have hv:∃cs,v= .agg cs:=by
  unfold Value.okWide at hval;rw[hu] at hval;rcases hag with⟨fs,rfl⟩|⟨m,e,rfl⟩<;>obtain⟨cs,rfl,_⟩:=hval<;>exact⟨cs,rfl⟩
 obtain⟨cs,rfl⟩:=hv;refine .agg vs cs (by have:=g1;simp[Value.cells] at this;omega) fun i hi=>?_;have:=(g3 i or).1;simpa [Value.cells,Ku,Kd] using this
theorem xu{r:Reach}{base:Nat}:∀{ts:List TypeId} {vs:List Value} {ds:List (DataW H)} {ps:List MemPlace},(∀t∈ts,∃k ats,cK P t=some k∧tS P 12 t=some ats∧ats.length=k.size)→
 (∀(j:Nat) t v,ts[j]?=some t→vs[j]?=some v→Value.okWide P w r base t v)→DataW.TrodAll enc P w 0 (fun _=>true) held ts vs ds ps→(∀b∈DataW.weightsEach P ts ds,b≤reachBytes)→∃xs:List V,AR P ts xs∧xs.length=vs.length∧∀i,i<xs.length→VR (Ker.base w) (xs.getD i Ka) (vs.getD i Ks)
 | [],vs,ds,ps,_,_,h,_=>by
  obtain⟨rfl,rfl,rfl⟩:=trodAll_nil h;exact⟨[],trivial,rfl,fun i hi=>by cases hi⟩
 |t::ts,vs,ds,ps,ht,hval,h,hsz=>by
  obtain⟨v,vs',d,ds',p,q,rfl,rfl,rfl,h1,h2⟩:=trodAll_cons h;obtain⟨k,ats,hk,ha,hl⟩:=ht t Zm;obtain⟨x,hx,ho⟩:=GO (hval 0 t v rfl rfl) h1 (fun b hb=>hsz b (by unfold DataW.weightsEach;exact Kh _ hb)) hk ha hl;obtain⟨xs,h3,h4,h5⟩:=xu (fun t ht'=>ht t (by simp[ht'])) (fun j t v hj hv=>hval (j+1) t v hj hv) h2 (fun b hb=>hsz b (by unfold DataW.weightsEach;exact Kp _ hb));refine⟨x::xs,⟨ho,h3⟩,by simp[h4],fun i hi=>?_⟩;cases i with
  |zero=>simpa using hx
  |succ i=>simpa using h5 i (by simpa using hi)
theorem qk{f:FuncId}{fn:Func}{ts:List TypeId}(hts:fn.params.toList=ts)(hat:(ts.all fun t=>match cK P t,tS P 12 t with|some k,some ats=>decide (ats.length=k.size)|_,_=>false)=true)
 (hp:∀xs:List V,AR P ts xs→aM P f xs Hp.none (.bool true)) (W:World) (base:Nat) (args:Array Value) (ds:List (DataW H)) (p:List MemPlace)
 (hval:∀(j:Nat) t v,fn.params[j]?=some t→args[j]?=some v→Value.okWide P W .any base t v) (hA:DataW.TrodAll enc P W 0 (fun _=>true) true fn.params.toList args.toList ds p) (hsz:(DataW.weightsEach P fn.params.toList ds).all (·≤reachBytes)=true) (hG:iV (Ker.base W)):
 Calls P f args W fun e W'=>e= .returned (.bool true)∧Below W.heap.size W W':=by
 have aZU:∀t∈ts,∃k ats,cK P t=some k∧tS P 12 t=some ats∧ats.length=k.size:=fun t ht=>by
  have:=Kw.1 hat t ht;split at this
  ·rename_i k ats h1 h2;exact⟨k,ats,h1,h2,by simpa using this⟩
  cases this
 rw[hts] at hA hsz;obtain⟨xs,h1,h2,h3⟩:=xu (P:=P) aZU (fun j t v hj hv=>hval j t v (by rw[←hts] at hj;simpa using hj) (by simpa using hv)) hA (fun b hb=>by simpa using Kw.1 hsz b hb);have c:=hp xs h1 Hp.none 0 (aI _);refine(c.2 (Ker.base W) args (fun n hn=>hn.elim) (Rel.aXa W hG) ⟨by simpa using h2,fun i hi=>?_⟩).mono ?_
 ·have:=h3 i hi;simpa [Ku,Kd] using this
 rintro e w' ⟨K',v,cv,h',nx',rfl,rfl,hle,hvr,_,_,_,rfl,_,_⟩;cases hvr;have hb:=hle.below;exact⟨rfl,⟨hb.os,hb.tape,hb.output,hb.size,fun k hk=>hb.block k hk (.inl hk)⟩⟩
end
theorem dL{k:IntKind}{v:V}(h:(AT.int k).ok v):∃n,v= .int k n:=by cases h with|int _ n _=>exact⟨n,rfl⟩
theorem nI{α:Type}(p:α→Prop)(f:α→V):∀(vs:List V),(∀v∈vs,∃x,p x∧v=f x)→∃l:List α,(∀x∈l,p x)∧vs=l.map f
 | [],_=>⟨[],Zm,rfl⟩
 |v::vs,h=>by
  obtain⟨x,hx,rfl⟩:=h v Zm;obtain⟨l,hl,rfl⟩:=nI p f vs (fun v hv=>h v (by simp[hv]));exact⟨x::l,by simpa using⟨hx,hl⟩,rfl⟩
abbrev atT:List AT:=[.str, .int .i64, .int .i64, .str]
abbrev atX:List AT:=[.int .i64, .str, .int .i64, .int .i64, .str, .self]
abbrev atL:List AT:=[.int .i64, .str, .sl (.agg 4) atT, .int .i64, .int .i64, .str, .int .i64, .int .i64, .str, .mu (.agg 6) atX, .int .i64, .str, .int .i64, .int .i64, .str, .mu (.agg 6) atX, .int .i64]
abbrev atR:List AT:=[.str, .sl (.agg 4) atT, .int .i64, .int .i64, .sl (.agg 17) atL, .int .i64]
theorem eI{v:V}(h:AT.str.ok v):∃n,n.size≤pM∧v= .str n:=by cases h with|str n h=>exact⟨n,h,rfl⟩
theorem HQ{v:V}(hf:v.fits (.agg 4)=true)(h:∀i,i<4→(atT.getD i .bool).ok (v.cell i)):∃t:Tr,t.s47∧v=t.v:=by
 cases v with
 |agg cs=>
  simp only[Kb,Kf,decide_eq_true_eq] at hf;match cs,hf.1 with
  | [a,b,c,d],_=>
   obtain⟨x,m0,e0⟩:=eI (h 0 or);obtain⟨k,e1⟩:=dL (h 1 or);obtain⟨n,e2⟩:=dL (h 2 or);obtain⟨s,m3,e3⟩:=eI (h 3 or);refine⟨⟨x,⟨k,n,s⟩⟩,⟨m0,m3⟩,?_⟩;have e0:a= .str x:=e0;have e1:b= .int .i64 k:=e1;have e2:c= .int .i64 n:=e2;have e3:d= .str s:=e3;rw[e0,e1,e2,e3];rfl
 |_=>simp[Kb] at hf
theorem DU{v:V}(h:(AT.sl (.agg 4) atT).ok v):∃o l,(∀t∈l,Tr.s47 t)∧v=trs o l:=by
 cases h with
 |nil=>exact⟨.nil,[],Zm,rfl⟩
 |sl _ _ vs hl hf hc=>
  obtain⟨l,hs,rfl⟩:=nI Tr.s47 Tr.v vs (fun v hv=>HQ (hf v hv) (hc v hv));exact⟨.free,l,hs,rfl⟩
theorem Fi{t:AT}{v:V}(h:t.ok v):t= .mu (.agg 6) atX→∃o ks,Ex.aGX ks∧v= .sl (.agg 6) o (ks.map Ex.v):=by
 induction h with
 |aFB k es=>intro e;injection e with e1 e2;subst e1;exact⟨.nil,[],trivial,rfl⟩
 |mu k es vs hl hf hc ih=>
  intro e;injection e with e1 e2;subst e1 e2;obtain⟨l,hs,rfl⟩:=nI Ex.s47 Ex.v vs (fun v hv=>by
   have hf:=hf v hv;have h0:=hc v hv;obtain⟨o,ks,hks,h5⟩:=ih v hv 5 ZM rfl;clear ih hc;cases v with
   |agg cs=>
    simp only[Kb,Kf,decide_eq_true_eq] at hf;match cs,hf.1 with
    | [a,b,c,d,e,f],_=>
     obtain⟨op,e0⟩:=dL (h0 0 ZM);obtain⟨x,m1,e1⟩:=eI (h0 1 ZM);obtain⟨k,e2⟩:=dL (h0 2 ZM);obtain⟨n,e3⟩:=dL (h0 3 ZM);obtain⟨s,m4,e4⟩:=eI (h0 4 ZM);refine⟨.mk op ⟨x,⟨k,n,s⟩⟩ o ks,⟨⟨m1,m4⟩,hks⟩,?_⟩;have e0:a= .int .i64 op:=e0;have e1:b= .str x:=e1;have e2:c= .int .i64 k:=e2;have e3:d= .int .i64 n:=e3;have e4:e= .str s:=e4;have e5:f= .sl (.agg 6) o (ks.map Ex.v):=h5;rw[e0,e1,e2,e3,e4,e5,Ex.aAq];rfl
   |_=>simp[Kb] at hf)
  exact⟨.free,l,Ex.aA3.2 hs,rfl⟩
 |_=>intro e;cases e
theorem H1{v:V}(hf:v.fits (.agg 17)=true)(h:∀i,i<17→(atL.getD i .bool).ok (v.cell i)):∃t:Li,t.s47∧v=t.v:=by
 cases v with
 |agg cs=>
  simp only[Kb,Kf,decide_eq_true_eq] at hf;match cs,hf.1 with
  | [a0,a1,a2,a3,a4,a5,a6,a7,a8,a9,a10,a11,a12,a13,a14,a15,a16],_=>
   obtain⟨k,e0⟩:=dL (h 0 or);obtain⟨r,m1,e1⟩:=eI (h 1 or);obtain⟨o,l,m2,e2⟩:=DU (h 2 or);obtain⟨op,e3⟩:=dL (h 3 or);obtain⟨xo,e4⟩:=dL (h 4 or);obtain⟨xx,m5,e5⟩:=eI (h 5 or);obtain⟨xk,e6⟩:=dL (h 6 or);obtain⟨xn,e7⟩:=dL (h 7 or);obtain⟨xs,m8,e8⟩:=eI (h 8 or);obtain⟨xw,xl,m9,e9⟩:=Fi (h 9 or) rfl;obtain⟨yo,e10⟩:=dL (h 10 or);obtain⟨yx,m11,e11⟩:=eI (h 11 or);obtain⟨yk,e12⟩:=dL (h 12 or);obtain⟨yn,e13⟩:=dL (h 13 or);obtain⟨ys,m14,e14⟩:=eI (h 14 or);obtain⟨yw,yl,m15,e15⟩:=Fi (h 15 or) rfl;obtain⟨at_,e16⟩:=dL (h 16 or);refine⟨⟨k,⟨r,o,l⟩,op, .mk xo ⟨xx,⟨xk,xn,xs⟩⟩ xw xl, .mk yo ⟨yx,⟨yk,yn,ys⟩⟩ yw yl,at_⟩,⟨⟨m1,m2⟩,⟨⟨m5,m8⟩,m9⟩,⟨⟨m11,m14⟩,m15⟩⟩,?_⟩;rw[Li.aAq];show V.agg [a0,a1,a2,a3,a4,a5,a6,a7,a8,a9,a10,a11,a12,a13,a14,a15,a16]=_;rw[show a0=_ from e0,show a1=_ from e1,show a2=_ from e2,show a3=_ from e3,show a4=_ from e4,show a5=_ from e5,show a6=_ from e6,show a7=_ from e7,show a8=_ from e8,show a9=_ from e9,show a10=_ from e10,show a11=_ from e11,show a12=_ from e12,show a13=_ from e13,show a14=_ from e14,show a15=_ from e15,show a16=_ from e16];rfl
 |_=>simp[Kb] at hf
theorem Ht{v:V}(h:(AT.sl (.agg 17) atL).ok v):∃(o:Own) (b:List Li),(∀l∈b,Li.s47 l)∧v= .sl (.agg 17) o (b.map Li.v):=by
 cases h with
 |nil=>exact⟨.nil,[],Zm,rfl⟩
 |sl _ _ vs hl hf hc=>
  obtain⟨l,hs,rfl⟩:=nI Li.s47 Li.v vs (fun v hv=>H1 (hf v hv) (hc v hv));exact⟨.free,l,hs,rfl⟩
theorem FF{P:Program}{t:TypeId}{x:V}(ek:cK P t=some (.agg 6))(ea:tS P 12 t=some atR)(h:o9 P t x):∃r:Ru,r.s47∧x=r.v:=by
 obtain⟨k,ats,hk,ha,hf,_,ho⟩:=h;rw[ek] at hk;rw[ea] at ha;injection hk with hk;injection ha with ha;subst hk ha;cases x with
 |agg cs=>
  simp only[Kb,Kf,decide_eq_true_eq] at hf;match cs,hf.1 with
  | [a0,a1,a2,a3,a4,a5],_=>
   obtain⟨r,m0,e0⟩:=eI (ho 0 ZM);obtain⟨o,l,m1,e1⟩:=DU (ho 1 ZM);obtain⟨g,e2⟩:=dL (ho 2 ZM);obtain⟨c,e3⟩:=dL (ho 3 ZM);obtain⟨ob,b,m4,e4⟩:=Ht (ho 4 ZM);obtain⟨at_,e5⟩:=dL (ho 5 ZM);refine⟨⟨⟨r,o,l⟩,g,c,ob,b,at_⟩,⟨⟨m0,m1⟩,m4⟩,?_⟩;show V.agg [a0,a1,a2,a3,a4,a5]=_;rw[show a0=_ from e0,show a1=_ from e1,show a2=_ from e2,show a3=_ from e3,show a4=_ from e4,show a5=_ from e5];rfl
 |_=>simp[Kb] at hf
section
variable{H:Type}{enc:TypeId×Value→H}{P:Program}
theorem aw{C:Checked}{os:Os}{f:FuncId}{fn:Func}{s:ChangeSpec}{tb:TypeId}{l:List (String×DataW Unit)}
 (own:ownKnob C.prog.godebug=none) (started:os.Started) (aGn:C.prog.inits.idxOf? f=none) (hfn:C.prog.funcs[f]?=some fn)
 (witness:∃(w:World) (tape:Tape) (i:Input),w.os=os∧(w.forCall tape i).Shaped C.prog∧i.vars=[]∧Input.okWide C.prog (w.forCall tape i) .any w.heap.size f i∧
   ((s.pre enc C.prog fn [] false (w.forCall tape i).memory i.args∧laidMetH C.prog l (w.forCall tape i).memory)∧sizedMet enc C.prog fn (OpenSpec.ofChange s) false (w.forCall tape i).memory i.args)∧({}:Assume).holds C.prog (lone (Frame.enter C.prog f i.args .normal) [] (w.forCall tape i)))
 (aFD:s.vars=[]) (aPQ:∀ds:List (DataW H),ds.length=fn.params.size→s.fn H ds={results:=[.lit (.bool true)],args:=ds})
 (aA1:fn.resultTypes=#[tb]) (hb:C.prog.underlying tb=some .bool) (hl:laidOutB C.prog=true)
 (hrd:∀t∈fn.params.toList,C.prog.readableRec t=true∧t<C.prog.types.size)
 (contract:∀(W:World) (base:Nat) (args:Array Value) (ds:List (DataW H)) (p:List MemPlace),
   (∀(j:Nat) t v,fn.params[j]?=some t→args[j]?=some v→Value.okWide C.prog W .any base t v)→
   DataW.TrodAll enc C.prog W 0 (fun _=>true) true fn.params.toList args.toList ds p→(∀x∈p,x.block<W.heap.size)→(DataW.weightsEach C.prog fn.params.toList ds).all (·≤reachBytes)=true→laidMetH C.prog l W→
   Calls C.prog f args W fun e W'=>e= .returned (.bool true)∧Below W.heap.size W W'):
 ReturnsInHanded {} C os f .any (fun w args=>(s.pre enc C.prog fn [] false w args∧laidMetH C.prog l w)∧sizedMet enc C.prog fn (OpenSpec.ofChange s) false w args) (s.post enc C.prog fn false true false false):=by
 refine returnsInHanded_of_change_and (X:=fun w _=>laidMetH C.prog l w) (fun _ _ _ hh h=>h.of_heap hh) own started aGn hfn witness ?_;intro W base args ds gs before hval hW _ hsz hX _;have hW':=hW;obtain⟨p,q,hA,hV,rfl,hfz,hnd⟩:=hW;rw[aFD] at hV;obtain⟨rfl,rfl⟩:=trodVars_none hV;have hvt:s.plain.varTypes C.prog=[]:=by
  simp[DataSpec.varTypes,ChangeSpec.plain,aFD]
 rw[hvt,Kk,Kk] at hsz;have hlt:∀x∈p,x.block<W.heap.size:=fun x hx=>hW'.lt x (by simp[hx]);refine(contract W base args ds p hval hA hlt hsz hX).mono fun e W' ⟨he,aX0⟩=>?_;subst he;have hlen:=(vR hA).2;have hs:=aPQ ds (by simpa using hlen);refine⟨_,rfl,ds,[],p++[],[],p,[],hW',?_,?_,?_,aX0.frame _,fun h=>by cases h⟩
 ·rw[Kk,hs,aA1];exact trodAll_mk1 (shut_bool hb _)
 ·rw[Kk,hs];exact tR hl aX0 hrd hA hlt
 rw[Kk,hs,aFD];exact rfl
theorem Aa{w:World}{n:String}{g t e m fuel:Nat}{cs:Array Value}{p:List MemPlace}{l:List (List UInt8)}(hg:P.globalNamed n=some g)(hv:w.var? P n=some cs)
 (hu:P.underlying t=some (.array m e)) (hue:P.underlying e=some .string) (hce:P.cellsOf e=1)
 (hd:DataW.trod enc P w 0 (fun _=>true) false fuel t cs.toList=some (.agg (l.map fun s=> .lit (.string s)),p)):∀i (hi:i<l.length),w.cell? ⟨g,i,none⟩=some (.string ⟨(l[i]).toArray⟩):=by
 intro i hi;obtain⟨xs,m1,rfl,hx1,hlen,hn3,hel⟩:=DataW.trod_array hu hd;simp only[Prod.mk.injEq,DataW.agg.injEq] at hx1;have hxl:xs.length=l.length:=by have:=congrArg KL hx1.1;simpa using this.symm
 have h1:=hel i or;rw[Kc or] at h1;obtain⟨s,e1,e2,_⟩:=DataW.trod_string hue h1;have e3:(xs[i]'or).1= .lit (.string l[i]):=by
  have:=congrArg (fun z=>z[i]?) hx1.1;simp only[Km] at this;rw[Kc hi,Kc or] at this;simpa using this.symm
 rw[e2] at e3;simp only[DataW.lit.injEq,Lit.string.injEq] at e3;rw[Kv hg hv i];rw[hce,KM] at e1;have e4:cs.toList[i]?=some (.string s):=by
  have:=congrArg (fun z=>z[0]?) e1;simpa [KD,KE] using this
 rw[←Kq,e4,←e3]
theorem wP{W:World}:∀{l:List (String×DataW Unit)} {ps:List MemPlace},DataW.LaidVars P W l ps→∀n d,(n,d)∈l→∃g t cs fuel p,P.globalNamed n=some g∧(P.globals[g]?).map (·.type)=some t∧W.var? P n=some cs∧
 DataW.trod (fun _=>()) P W 0 (fun _=>true) false fuel t cs.toList=some (d,p)
 | [],_,_,n,d,hm=>by cases hm
 |(n0,d0)::r,ps,h,n,d,hm=>by
  obtain⟨g,t,cs,fuel,p,q,h1,h2,h3,h4,h5,_⟩:=h;rcases Ko.1 hm with e|e
  ·injection e with e1 e2;subst e1 e2;exact⟨g,t,cs,fuel,p,h1,h2,h3,h4⟩
  exact wP h5 n d e
theorem E3{W:World}{l:List (String×DataW Unit)}(h:laidMetH P l W)(hp:(l.all fun x=>x.2.handleName?.isNone)=true){n:String}{ss:List (List UInt8)}(hm:(n,DataW.agg (ss.map fun s=> .lit (.string s)))∈l){g t m e:Nat}(hg:P.globalNamed n=some g)(ht:(P.globals[g]?).map (·.type)=some t)
 (hu:P.underlying t=some (.array m e)) (hue:P.underlying e=some .string) (hce:P.cellsOf e=1) (h0:0<ss.length):(Ker.base W).fro g∧∀o,o<(ss.map fun s=>(Value.string ⟨s.toArray⟩)).length→(Ker.base W).w.cell? ⟨g,o,none⟩=some ((ss.map fun s=>(Value.string ⟨s.toArray⟩)).getD o Ks):=by
 rw[MakeChecks.laidMetH_plain _ _ _ hp] at h;obtain⟨ps,h,_⟩:=h;obtain⟨g',t',cs,fuel,p,h1,h2,h3,h4⟩:=wP h _ _ hm;obtain rfl:=Option.some.inj (hg.symm.trans h1);obtain rfl:=Option.some.inj (ht.symm.trans h2);have key:=Aa hg h3 hu hue hce h4;refine⟨(bq (key 0 h0)).1,fun o ho=>?_⟩;rw[Kg] at ho;rw[Kd,Km,Kc ho];exact key o ho
theorem yp{t:TypeId}{fuel:Nat}{W:World}{cs:List Value}{s:String}{d:DataW Unit}{p:List MemPlace}(hc:P.underlying t=some (.interface #[])∨∃ms,P.underlying t=some (.interface ms))(h:DataW.trod (fun _=>()) P W 0 (fun _=>true) false fuel t cs=some (.iface s d,p)):∃te pe,cs=[.iface te pe]:=by
 obtain⟨ms,hu⟩:∃ms,P.underlying t=some (.interface ms):=hc.elim (fun h=>⟨_,h⟩) id;cases fuel with
 |zero=>simp[DataW.trod] at h
 |succ n=>
  unfold DataW.trod at h;rw[hu] at h;split at h<;>simp_all
theorem vm{W:World}{l:List (String×DataW Unit)}(h:laidMetH P l W)(hp:(l.all fun x=>x.2.handleName?.isNone)=true){n s:String}{d:DataW Unit}(hm:(n,DataW.iface s d)∈l){g t:Nat}(hg:P.globalNamed n=some g)(ht:(P.globals[g]?).map (·.type)=some t)(hc:∃ms,P.underlying t=some (.interface ms)):
 (Ker.base W).fro g∧∃ev,(Ker.base W).w.cell? ⟨g,0,none⟩=some ev∧(ev= .nilIface∨∃te pe,ev= .iface te pe):=by
 rw[MakeChecks.laidMetH_plain _ _ _ hp] at h;obtain⟨ps,h,_⟩:=h;obtain⟨g',t',cs,fuel,p,h1,h2,h3,h4⟩:=wP h _ _ hm;obtain rfl:=Option.some.inj (hg.symm.trans h1);obtain rfl:=Option.some.inj (ht.symm.trans h2);obtain⟨te,pe,hcs⟩:=yp (.inr hc) h4;have hcell:=Kv hg h3 0;rw[←Kq,hcs] at hcell;exact⟨(bq hcell).1,_,hcell, .inr ⟨te,pe,rfl⟩⟩
theorem ku{W:World}{n:String}{g:Nat}{cs:Array Value}(hg:P.globalNamed n=some g)(h:W.var? P n=some cs):∃T,W.shape? g=some (T,cs.size):=by
 simp only[World.var?,hg,Option.bind_some] at h;split at h<;>simp_all [World.shape?]
theorem bm{W:World}{l:List (String×DataW Unit)}(h:laidMetH P l W)(hp:(l.all fun x=>x.2.handleName?.isNone)=true){n:String}{ss:List (List UInt8)}(hm:(n,DataW.agg (ss.map fun s=> .lit (.string s)))∈l){g t m e:Nat}(hg:P.globalNamed n=some g)(ht:(P.globals[g]?).map (·.type)=some t)
 (hu:P.underlying t=some (.array m e)) (hue:P.underlying e=some .string) (hce:P.cellsOf e=1) (h0:0<ss.length) (hct:P.cellsOf t=ss.length):
 (Ker.base W).fro g∧(∃T,(Ker.base W).w.shape? g=some (T,(ss.map fun s=>(Value.string ⟨s.toArray⟩)).length))∧∀o,o<(ss.map fun s=>(Value.string ⟨s.toArray⟩)).length→(Ker.base W).w.cell? ⟨g,o,none⟩=some ((ss.map fun s=>(Value.string ⟨s.toArray⟩)).getD o Ks):=by
 obtain⟨h1,h2⟩:=E3 h hp hm hg ht hu hue hce h0;refine⟨h1,?_,h2⟩;rw[MakeChecks.laidMetH_plain _ _ _ hp] at h;obtain⟨ps,h,_⟩:=h;obtain⟨g',t',cs,fuel,p,k1,k2,k3,k4⟩:=wP h _ _ hm;obtain rfl:=Option.some.inj (hg.symm.trans k1);obtain rfl:=Option.some.inj (ht.symm.trans k2);obtain⟨T,hT⟩:=ku hg k3;obtain⟨xs,m1,rfl,hx1,hlen,hn3,hel⟩:=DataW.trod_array hu k4;refine⟨T,?_⟩;show W.shape? g=_;rw[hT,Kg];have:cs.toList.length=ss.length:=by rw[hlen,hct]
 simpa using this
theorem CI{w:World}{n:String}{g t e m fuel:Nat}{k:IntKind}{cs:Array Value}{p:List MemPlace}{l:List Int}(hg:P.globalNamed n=some g)(hv:w.var? P n=some cs)
 (hu:P.underlying t=some (.array m e)) (hue:P.underlying e=some (.int k)) (hce:P.cellsOf e=1)
 (hd:DataW.trod enc P w 0 (fun _=>true) false fuel t cs.toList=some (.agg (l.map fun s=> .lit (.int k s)),p)):∀i (hi:i<l.length),w.cell? ⟨g,i,none⟩=some (.int k l[i]):=by
 intro i hi;obtain⟨xs,m1,rfl,hx1,hlen,hn3,hel⟩:=DataW.trod_array hu hd;simp only[Prod.mk.injEq,DataW.agg.injEq] at hx1;have hxl:xs.length=l.length:=by have:=congrArg KL hx1.1;simpa using this.symm
 have h1:=hel i or;rw[Kc or] at h1;obtain⟨s,e1,e2,_⟩:=DataW.trod_int hue h1;have e3:(xs[i]'or).1= .lit (.int k l[i]):=by
  have:=congrArg (fun z=>z[i]?) hx1.1;simp only[Km] at this;rw[Kc hi,Kc or] at this;simpa using this.symm
 rw[e2] at e3;simp only[DataW.lit.injEq,Lit.int.injEq,true_and] at e3;rw[Kv hg hv i];rw[hce,KM] at e1;have e4:cs.toList[i]?=some (.int k s):=by
  have:=congrArg (fun z=>z[0]?) e1;simpa [KD,KE] using this
 rw[←Kq,e4,←e3]
theorem E2{W:World}{l:List (String×DataW Unit)}(h:laidMetH P l W)(hp:(l.all fun x=>x.2.handleName?.isNone)=true){n:String}{k:IntKind}{ss:List Int}(hm:(n,DataW.agg (ss.map fun s=> .lit (.int k s)))∈l){g t m e:Nat}(hg:P.globalNamed n=some g)(ht:(P.globals[g]?).map (·.type)=some t)
 (hu:P.underlying t=some (.array m e)) (hue:P.underlying e=some (.int k)) (hce:P.cellsOf e=1) (h0:0<ss.length) (hct:P.cellsOf t=ss.length):
 (Ker.base W).fro g∧(∃T,(Ker.base W).w.shape? g=some (T,(ss.map fun s=>(Value.int k s)).length))∧∀o,o<(ss.map fun s=>(Value.int k s)).length→(Ker.base W).w.cell? ⟨g,o,none⟩=some ((ss.map fun s=>(Value.int k s)).getD o Ks):=by
 rw[MakeChecks.laidMetH_plain _ _ _ hp] at h;obtain⟨ps,h,_⟩:=h;obtain⟨g',t',cs,fuel,p,k1,k2,k3,k4⟩:=wP h _ _ hm;obtain rfl:=Option.some.inj (hg.symm.trans k1);obtain rfl:=Option.some.inj (ht.symm.trans k2);have key:=CI hg k3 hu hue hce k4;obtain⟨T,hT⟩:=ku hg k3;obtain⟨xs,m1,rfl,hx1,hlen,hn3,hel⟩:=DataW.trod_array hu k4;refine⟨(bq (key 0 h0)).1,⟨T,?_⟩,fun o ho=>?_⟩
 ·show W.shape? g=_;rw[hT,Kg];have:cs.toList.length=ss.length:=by rw[hlen,hct]
  simpa using this
 rw[Kg] at ho;rw[Kd,Km,Kc ho];exact key o ho
end
theorem DG{P:Program}{t:TypeId}{a:AT}{x:V}(ek:cK P t=some .leaf)(ea:tS P 12 t=some [a])(h:o9 P t x):a.ok x:=by
 obtain⟨k,ats,hk,ha,hf,_,ho⟩:=h;rw[ek] at hk;rw[ea] at ha;injection hk with hk;injection ha with ha;subst hk ha;have h0:=ho 0 Zm;rwa [fA (by rwa [fX] at hf)] at h0
abbrev atV:List AT:=[.int .i64, .int .i64, .str]
theorem G8{v:V}(hf:v.fits (.agg 3)=true)(h:∀i,i<3→(atV.getD i .bool).ok (v.cell i)):∃t:Vl,t.s.size≤pM∧v=t.v:=by
 cases v with
 |agg cs=>
  simp only[Kb,Kf,decide_eq_true_eq] at hf;match cs,hf.1 with
  | [a,b,c],_=>
   obtain⟨x,hx⟩:=dL (h 0 or);obtain⟨y,hy⟩:=dL (h 1 or);obtain⟨z,hm,hz⟩:=eI (h 2 or);refine⟨⟨x,y,z⟩,hm,?_⟩;have e1:a= .int .i64 x:=hx;have e2:b= .int .i64 y:=hy;have e3:c= .str z:=hz;rw[e1,e2,e3];rfl
 |_=>simp[Kb] at hf
def pH:List (String×DataW Unit):=[("math/bits.deBruijn32tab",Rows.laid_math_bits_deBruijn32tab),("math/bits.deBruijn64tab",Rows.laid_math_bits_deBruijn64tab),("internal/strconv.uint64pow10",Rows.laid_internal_strconv_uint64pow10),("strconv.ErrRange",Rows.laid_strconv_ErrRange),("strconv.ErrSyntax",Rows.laid_strconv_ErrSyntax),("corollary/lex.keys",Rows.laid_corollary_lex_keys),("corollary/lex.signs",Rows.laid_corollary_lex_signs),("corollary/parse.aggs",Rows.laid_corollary_parse_aggs),("corollary/parse.signs",Rows.laid_corollary_parse_signs)]
theorem kI:(pH.all fun x=>x.2.handleName?.isNone)=true:=Zz
def H3:List (List UInt8):=[[114,101,108],[105,110,116],[115,121,109],[110,111,116],[99,111,117,110,116],[115,117,109],[109,105,110],[109,97,120]]
def F2:List (List UInt8):=[[58,45],[33,61],[60,61],[62,61],[40],[41],[44],[46],[61],[60],[62],[43],[45],[42]]
def HK:List (List UInt8):=[[99,111,117,110,116],[115,117,109],[109,105,110],[109,97,120]]
def F5:List (List UInt8):=[[61],[33,61],[60],[60,61],[62],[62,61]]
def A5:List Int:=(KJ 20).map fun i=>((10 ^ i:Nat):Int)
theorem Cp:("corollary/lex.keys",DataW.agg (H3.map fun s=> .lit (.string s)))∈pH:=Ke (i:=5) rfl
theorem zp:("corollary/lex.signs",DataW.agg (F2.map fun s=> .lit (.string s)))∈pH:=Ke (i:=6) rfl
theorem Cq:("corollary/parse.aggs",DataW.agg (HK.map fun s=> .lit (.string s)))∈pH:=Ke (i:=7) rfl
theorem uu:("corollary/parse.signs",DataW.agg (F5.map fun s=> .lit (.string s)))∈pH:=Ke (i:=8) rfl
theorem Co:("internal/strconv.uint64pow10",DataW.agg (A5.map fun s=> .lit (.int .u64 s)))∈pH:=Ke (i:=2) Zz
theorem EA:("strconv.ErrSyntax",(Rows.laid_strconv_ErrSyntax:DataW Unit))∈pH:=Ke (i:=4) rfl
theorem EB:("strconv.ErrRange",(Rows.laid_strconv_ErrRange:DataW Unit))∈pH:=Ke (i:=3) rfl
theorem F7:(A5.map fun s=>Value.int .u64 s)=(KJ 20).map fun i=>Value.int .u64 ((10 ^ i:Nat):Int):=by simp[A5]
theorem Hy{W:World}(h:laidMetH Tryz.prog pH W):iV (Ker.base W):=by
 have k1:=bm h kI Cp (g:=3) (t:=366) (m:=8) (e:=9) Zz Zz Zz Zz Zz ZM Zz;have k2:=bm h kI zp (g:=2) (t:=360) (m:=14) (e:=9) Zz Zz Zz Zz Zz ZM Zz;have ka:=bm h kI Cq (g:=0) (t:=303) (m:=4) (e:=9) Zz Zz Zz Zz Zz ZM Zz;have kb:=bm h kI uu (g:=1) (t:=342) (m:=6) (e:=9) Zz Zz Zz Zz Zz ZM Zz;have k3:=E2 h kI Co (g:=7) (t:=396) (m:=20) (e:=263) Zz Zz Zz Zz Zz (by simp[A5]) Zz;rw[F7] at k3;have k4:=vm h kI EA (g:=4) (t:=38) Zz Zz ⟨_,Tryz.underlying38⟩;have k5:=vm h kI EB (g:=5) (t:=38) Zz Zz ⟨_,Tryz.underlying38⟩;refine⟨fun b hb=>hb,fun g cs hm=>?_,fun g hm=>?_⟩
 ·simp only[GT,Ko,Kx,or_false,Prod.mk.injEq] at hm;rcases hm with⟨rfl,rfl⟩|⟨rfl,rfl⟩|⟨rfl,rfl⟩|⟨rfl,rfl⟩|⟨rfl,rfl⟩
  ·exact k1
  ·exact k2
  ·exact ka
  ·exact kb
  exact k3
 simp only[GI,Ko,Kx,or_false] at hm;rcases hm with rfl|rfl
 ·exact k4
 exact k5
theorem Fp(os:Os)(args:Array Value):laidMetH Tryz.prog pH ((KH Tryz.prog 400 os).forCall (fun _ _=>0) ⟨#[],args,[]⟩).memory:=
 laidMetH_of_parts3 (fuel:=8) (laidMet_of_run' 8 Zz Zz) Zz Zz
theorem Gc{k:Sh}{es:List AT}{v:V}{o:Own}{l:List V}(h:(AT.sl k es).ok v)(e:v= .sl k o l):l.length≤140737488355328:=by
 cases h with
 |nil=>injection e with _ _ e;rw[←e];exact Nat.zero_le _
 |sl _ _ vs hl hf hc hn=>injection e with _ _ e;rw[←e];unfold reachBytes at hn;omega
theorem DE{P:Program}{t:TypeId}{x:V}(ek:cK P t=some (.agg 6))(ea:tS P 12 t=some atR)(h:o9 P t x):∃r:Ru,r.s47∧r.b.length≤140737488355328∧x=r.v:=by
 obtain⟨r,hr,rfl⟩:=FF ek ea h;obtain⟨k,ats,hk,ha,hf,_,ho⟩:=h;rw[ek] at hk;rw[ea] at ha;injection hk with hk;injection ha with ha;subst hk ha;have h4:=ho 4 ZM;have:=Gc (o:=r.o) (l:=r.b.map Li.v) h4 (by cases r;rfl);exact⟨r,hr,by simpa using this,rfl⟩
abbrev atF:List AT:=[.str, .int .i64, .sl .leaf [.sl (.agg 3) atV]]
theorem FX{v:V}(h:(AT.sl .leaf [.sl (.agg 3) atV]).ok v):∃(o:Own) (l:List TR),(l.length≤140737488355328∧∀p∈l,(p.1= .nil→p.2=[])∧∀x∈p.2,x.s.size≤9223372036854775807)∧v= .sl .leaf o (l.map TR.v):=by
 cases h with
 |nil=>exact⟨.nil,[],⟨Zm,Zm⟩,rfl⟩
 |sl _ _ vs hl hf hc hn=>
  obtain⟨l,hs,rfl⟩:=nI (fun p:TR=>(p.1= .nil→p.2=[])∧∀x∈p.2,x.s.size≤9223372036854775807) TR.v vs (fun v hv=>by
   have h0:=hc v hv 0 Zm;have hv2:v.cell 0=v:=fA (by have:=hf v hv;rwa [fX] at this);rw[hv2] at h0;cases h0 with
   |nil=>exact⟨(.nil,[]),⟨fun _=>rfl,Zm⟩,rfl⟩
   |sl _ _ vs hl hf hc hn=>
    obtain⟨l,hs,rfl⟩:=nI (fun x:Vl=>x.s.size≤pM) Vl.v vs (fun v hv=>G8 (hf v hv) (hc v hv));exact⟨(.free,l),⟨fun e=>by(cases e),fun x hx=>KG (hs x hx) (by unfold pM;omega)⟩,rfl⟩)
  exact⟨.free,l,⟨by unfold reachBytes at hn;simp only[Kg] at hn;omega,hs⟩,rfl⟩
theorem H6{v:V}(hf:v.fits (.agg 3)=true)(h:∀i,i<3→(atF.getD i .bool).ok (v.cell i)):∃f:Fc,f.ok∧v=f.v:=by
 cases v with
 |agg cs=>
  simp only[Kb,Kf,decide_eq_true_eq] at hf;match cs,hf.1 with
  | [a,b,c],_=>
   obtain⟨x,_,hx⟩:=eI (h 0 or);obtain⟨y,hy⟩:=dL (h 1 or);obtain⟨o,l,hl,hz⟩:=FX (h 2 or);refine⟨⟨x,y,o,l⟩,hl,?_⟩;have e1:a= .str x:=hx;have e2:b= .int .i64 y:=hy;have e3:c= .sl .leaf o (l.map TR.v):=hz;rw[e1,e2,e3];rfl
 |_=>simp[Kb] at hf
theorem DF{P:Program}{t:TypeId}{x:V}(ek:cK P t=some .leaf)(ea:tS P 12 t=some [.sl (.agg 3) atF])(h:o9 P t x):∃(o:Own) (l:List Fc),l.length≤140737488355328∧(∀f∈l,f.ok)∧x= .sl (.agg 3) o (l.map Fc.v):=by
 cases DG ek ea h with
 |nil=>exact⟨.nil,[],Zm,Zm,rfl⟩
 |sl _ _ vs hl hf hc hn=>
  obtain⟨l,hs,rfl⟩:=nI Fc.ok Fc.v vs (fun v hv=>H6 (hf v hv) (hc v hv));exact⟨.free,l,by unfold reachBytes at hn;simp only[Kg] at hn;omega,hs,rfl⟩
set_option maxRecDepth 100000 in
theorem ai(os:Os)(started:os.Started)(H:Type)(enc:TypeId×Value→H):
 ReturnsInHanded {} Tryz.checked os 6 .any (fun w args=>(Rows.planRunsSpec.pre enc Tryz.prog Tryz.f6 [] false w args∧laidMetH Tryz.prog pH w)∧sizedMet enc Tryz.prog Tryz.f6 (OpenSpec.ofChange Rows.planRunsSpec) false w args)
  (Rows.planRunsSpec.post enc Tryz.prog Tryz.f6 false true false false):=by
 refine aw (C:=Tryz.checked) (tb:=4) (l:=pH) own started Zz Tryz.func6
  (ChangeSpec.witness_shaped (enc:=enc) (C:=Tryz.checked) (os:=os) (X:=fun w _=>laidMetH Tryz.prog pH w) false (KH Tryz.prog 400 os) #[.agg #[.string ⟨#[]⟩, .slice none 0 0, .int .i64 0, .int .i64 0, .slice none 0 0, .int .i64 0], .slice none 0 0] 8 rfl (World.shaped_of_RefB Zz Zz) Zz Zz Zz (Fp os _))
  rfl (fun ds hds=>by match ds,hds with| [_,_],_=>rfl) rfl Tryz.underlying4 Gv (fun t ht=>?_) ?_
 ·simp only[Tryz.params6,Ko,Kx,or_false] at ht;rcases ht with rfl|rfl<;>exact⟨Zz,of_decide_eq_true Zz⟩
 intro W base args ds p hval hA _ hsz hL;refine qk (P:=Tryz.prog) (congrArg Array.toList Tryz.params6) Zz (fun xs hxs=>?_) W base args ds p hval hA hsz (Hy hL);match xs,hxs with
 | [x0,x1],⟨h0,h1,_⟩=>
  obtain⟨r,hr,hb,rfl⟩:=DE Zz Zz h0;obtain⟨o,l,hl,hok,rfl⟩:=DF Zz Zz h1;exact qe r hr hb o l hl hok _
end Go.Proofs.YtlhedpgobaellaaGreatDoor
