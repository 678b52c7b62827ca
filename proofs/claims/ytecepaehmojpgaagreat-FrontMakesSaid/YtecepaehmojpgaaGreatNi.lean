/-
Texts of this proof,one behind the other. No conditions.
-/
import Derived.Test.YtecepaehmojpgaaGreatRows
import Derived.WalkKit
import Derived.ProofKit
import Derived.OpenShut
import Derived.ShutString
import Derived.ChangeOld
import Derived.Below
import Derived.SizedLaws
import Derived.Test.YtecepaehmojpgaaGreatNdb
import Derived.ChangeArms
import Derived.DataReads
import Derived.Test.YtecepaehmojpgaaGreatNf
import Derived.Test.YtecepaehmojpgaaGreatNg
open Go.Proofs.YtecepaehmojpgaaGreat.V renaming undef→Ka,fits→Kd
open List renaming getElem?_eq_getElem→Kb,getD_eq_getElem?_getD→Kc,getElem?_append_right→Ke,getElem?_append_left→Kf,append_nil→Kg,replicate→Kh,take_of_length_le→Kk,getElem_of_mem→Ko,length_append→Kq,all_eq_true→Kt,take_add→Ku
open Array renaming getD_eq_getD_getElem?→Ki
open Option renaming bind_eq_some_iff→Kj
open Go.World renaming cells?_some→Km
open Go renaming undef→Kp
open Bool renaming and_eq_true→Ks
set_option linter.unusedSimpArgs false
set_option linter.unusedVariables false
set_option linter.unusedSectionVars false
set_option maxHeartbeats 8000000
namespace Go.Proofs.YtecepaehmojpgaaGreat
open Go.ChangeShapes Go.WideShapes Go.ChangeAt Go.RowKit
theorem own:ownKnob Tryz.prog.godebug=none:=Zz
theorem CJ:laidOutB Tryz.prog=true:=Zz
section
variable{H:Type}{enc:TypeId×Value→H}{P:Program}
theorem tH(hl:laidOutB P=true){W W':World}(hb:Below W.heap.size W W'):∀{ts:List TypeId} {vs:List Value} {ds:List (DataW H)} {ps:List MemPlace},
 (∀t∈ts,P.readableRec t=true∧t<P.types.size)→DataW.TrodAll enc P W 0 (fun _=>true) true ts vs ds ps→(∀x∈ps,x.block<W.heap.size)→
 DataW.TrodAll enc P W' 0 (fun b=>decide (b<W.heap.size)) true ts vs ds ps
 | [],vs,ds,ps,_,h,_=>by
  obtain⟨rfl,rfl,rfl⟩:=trodAll_nil h;exact trodAll_mk0
 |t::ts,vs,ds,ps,ht,h,hlt=>by
  obtain⟨v,vs',d,ds',p,q,rfl,rfl,rfl,h1,h2⟩:=trodAll_cons h;obtain⟨hr,hs⟩:=ht t Zm;exact trodAll_cons_mk (Below.trod hl hr hs h1 hb (fun x hx=>hlt x (by simp[hx]))) (tH hl hb (fun t ht'=>ht t (by simp[ht'])) h2 (fun x hx=>hlt x (by simp[hx])))
theorem vK{W:World}{base:Nat}{spare:Nat→Bool}{held:Bool}:∀{ts:List TypeId} {vs:List Value} {ds:List (DataW H)} {ps:List MemPlace},
 DataW.TrodAll enc P W base spare held ts vs ds ps→vs.length=ts.length∧ds.length=ts.length
 | [],vs,ds,ps,h=>by obtain⟨rfl,rfl,rfl⟩:=trodAll_nil h;exact⟨rfl,rfl⟩
 |t::ts,vs,ds,ps,h=>by
  obtain⟨v,vs',d,ds',p,q,rfl,rfl,rfl,h1,h2⟩:=trodAll_cons h;obtain⟨e1,e2⟩:=vK h2;exact⟨by simp[e1],by simp[e2]⟩
theorem wq{C:Checked}{os:Os}{f:FuncId}{fn:Func}{s:ChangeSpec}{tb:TypeId}
 (own:ownKnob C.prog.godebug=none) (started:os.Started) (aJA:C.prog.inits.idxOf? f=none) (hfn:C.prog.funcs[f]?=some fn)
 (witness:∃(w:World) (tape:Tape) (i:Input),w.os=os∧(w.forCall tape i).Shaped C.prog∧i.vars=[]∧Input.okWide C.prog (w.forCall tape i) .any w.heap.size f i∧
   s.pre6 enc C.prog fn [] false (w.forCall tape i).memory i.args∧({}:Assume).holds C.prog (lone (Frame.enter C.prog f i.args .normal) [] (w.forCall tape i)))
 (aHU:s.vars=[]) (aNF:∀ds:List (DataW H),ds.length=fn.params.size→s.fn H ds={results:=[.lit (.bool true)],args:=ds})
 (aGi:fn.resultTypes=#[tb]) (hb:C.prog.underlying tb=some .bool) (hl:laidOutB C.prog=true)
 (hrd:∀t∈fn.params.toList,C.prog.readableRec t=true∧t<C.prog.types.size)
 (aGE:∀(W:World) (base:Nat) (args:Array Value) (ds:List (DataW H)) (p:List MemPlace),
   (∀(j:Nat) t v,fn.params[j]?=some t→args[j]?=some v→Value.okWide C.prog W .any base t v)→
   DataW.TrodAll enc C.prog W 0 (fun _=>true) true fn.params.toList args.toList ds p→(∀x∈p,x.block<W.heap.size)→
   (DataW.weightsEach C.prog fn.params.toList ds).all (·≤reachBytes)=true→
   Calls C.prog f args W fun e W'=>e= .returned (.bool true)∧Below W.heap.size W W'):
 ReturnsInHanded {} C os f .any (s.pre6 enc C.prog fn [] false) (s.post enc C.prog fn false true false false):=by
 refine returnsInHanded_of_change_sized own started aJA hfn witness ?_;intro W base args ds gs before aC3 hW _ hsz _;have hW':=hW;obtain⟨p,q,hA,hV,rfl,hfz,hnd⟩:=hW;rw[aHU] at hV;obtain⟨rfl,rfl⟩:=trodVars_none hV;have hvt:s.plain.varTypes C.prog=[]:=by
  simp[DataSpec.varTypes,ChangeSpec.plain,aHU]
 rw[hvt,Kg,Kg] at hsz;have hlt:∀x∈p,x.block<W.heap.size:=fun x hx=>hW'.lt x (by simp[hx]);refine(aGE W base args ds p aC3 hA hlt hsz).mono fun e W' ⟨he,aTQ⟩=>?_;subst he;have hlen:=(vK hA).2;have hs:=aNF ds (by simpa using hlen);refine⟨_,rfl,ds,[],p++[],[],p,[],hW',?_,?_,?_,aTQ.frame _,fun h=>by cases h⟩
 ·rw[Kg,hs,aGi];exact trodAll_mk1 (shut_bool hb _)
 ·rw[Kg,hs];exact tH hl aTQ hrd hA hlt
 rw[Kg,hs,aHU];exact rfl
end
inductive AT where
 |bool
 |int (k:IntKind)
 |str
 |sl (k:Sh) (es:List AT)
 deriving Inhabited
inductive AT.ok:AT→V→Prop
 |bool (b:Bool):AT.ok .bool (.bool b)
 |int (k:IntKind) (n:Int) (h:(Lit.int k n).wf=true):AT.ok (.int k) (.int k n)
 |str (s:ByteArray) (h:s.size≤maxLen):AT.ok .str (.str s)
 |nil (k:Sh) (es:List AT):AT.ok (.sl k es) (.sl k .nil [])
 |sl (k:Sh) (es:List AT) (vs:List V) (hl:es.length=k.size) (hf:∀v,v∈vs→v.fits k=true) (hc:∀v,v∈vs→∀i,i<es.length→AT.ok (es.getD i .bool) (v.cell i)):AT.ok (.sl k es) (.sl k .free vs)
theorem AT.ok.aAD{t:AT}{v:V}(h:t.ok v):v.aAD=true:=by cases h<;>rfl
def oR(P:Program)(g:TypeId→Option (List AT)):List Field→Nat→Option (List AT)
 | [],_=>some []
 |fd::r,off=>match g fd.type,oR P g r (off+P.cellsOf fd.type) with
  |some a,some b=>if fd.offset=off∧a.length=P.cellsOf fd.type then some (a++b) else none
  |_,_=>none
def kT(P:Program):Nat→TypeId→Option (List AT)
 |0,_=>none
 |n+1,t=>match P.underlying t with
  |some .bool=>some [.bool]
  |some (.int k)=>some [.int k]
  |some .string=>some [.str]
  |some (.slice e)=>match dE P e,kT P n e with
   |some k,some es=>if es.length=k.size∧P.cellsOf e=k.size∧0<k.size then some [.sl k es] else none
   |_,_=>none
  |some (.struct fs)=>match oR P (kT P n) fs.toList 0 with
   |some l=>if l.length=P.cellsOf t then some l else none
   |none=>none
  |some (.array m e)=>match kT P n e with
   |some a=>if a.length=P.cellsOf e∧m*a.length=P.cellsOf t then some (Kh m a).flatten else none
   |none=>none
  |_=>none
def Ker.base(W:World):Ker:=⟨W,fun _=>0,fun _=>0,fun _=>0,fun _=>False,fun b=>b<W.heap.size⟩
theorem Rel.aSy(W:World):Rel (Ker.base W) Hp.none:=⟨(fun n b e=>by cases e),(fun n b e=>by cases e),(fun n b e=>by cases e),(fun n n' b b' e=>by cases e),fun b hb=>hb⟩
theorem CW{W:World}{a:Addr}{v:Value}(h:W.cell? a=some v):a.block<W.heap.size∧a.spot=none:=by
 unfold World.cell? at h;split at h
 ·rename_i hh;refine⟨(Array.getElem?_eq_some_iff.1 hh).1,?_⟩;split at h
  ·cases h
  rename_i hs;simpa using hs
 cases h
def mkV:Sh→List V→V
 | .leaf,vs=>vs.getD 0 Ka
 | .agg _,vs=> .agg vs
theorem rg{k:Sh}{vs:List V}(hl:vs.length=k.size)(h:∀i,i<vs.length→(vs.getD i Ka).aAD=true):(mkV k vs).fits k=true:=by
 cases k with
 |leaf=>
  have:=h 0 (by rw[hl];simp[Sh.size]);simpa [mkV,Kd] using this
 |agg n=>
  simp only[mkV,Kd,Ks,decide_eq_true_eq,Kt];refine⟨hl,fun v hv=>?_⟩;obtain⟨i,hi,rfl⟩:=Ko hv;have:=h i hi;rwa [Kc,Kb hi] at this
theorem cm{k:Sh}{vs:List V}(hl:vs.length=k.size)(h:∀i,i<vs.length→(vs.getD i Ka).aAD=true)(j:Nat)(hj:j<k.size):(mkV k vs).cell j=vs.getD j Ka:=by
 cases k with
 |leaf=>
  have hj0:j=0:=by simpa [Sh.size] using hj
  subst hj0;exact sP (h 0 (by rw[hl];simp[Sh.size]))
 |agg n=>rfl
section
variable{H:Type}{enc:TypeId×Value→H}{P:Program}{w:World}{held:Bool}
def Got(P:Program)(w:World)(ats:List AT)(cs:List Value):Prop:=
 cs.length=ats.length∧∃vs:List V,vs.length=ats.length∧∀i,i<ats.length→VR (Ker.base w) (vs.getD i Ka) (cs.getD i Kp)∧(ats.getD i .bool).ok (vs.getD i Ka)
theorem sK{a:AT}{c:Value}{v:V}(h:VR (Ker.base w) v c)(ho:a.ok v):Got P w [a] [c]:=
 ⟨rfl,[v],rfl,fun i hi=>by
   have:i=0:=by simpa using hi
   subst this;exact⟨h,ho⟩⟩
theorem dr{a b:List AT}{ca cb:List Value}(h:Got P w a ca)(h':Got P w b cb):Got P w (a++b) (ca++cb):=by
 obtain⟨h1,vs,h2,h3⟩:=h;obtain⟨k1,us,k2,k3⟩:=h';refine⟨by simp[h1,k1],vs++us,by simp[h2,k2],fun i hi=>?_⟩;simp only[Kq] at hi;by_cases e:i<a.length
 ·have:=h3 i e;simp only[Kc] at this⊢;rw[Kf or,Kf or,Kf or];exact this
 have:=k3 (i-a.length) or;simp only[Kc] at this⊢;rw[Ke or,Ke or,Ke or,h2,h1];exact this
theorem ef{n fuel:Nat}{cs:List Value}(ih:∀t cs x ats,DataW.trod enc P w 0 (fun _=>true) held fuel t cs=some x→kT P n t=some ats→Got P w ats cs):
 ∀(fs:List Field) (off:Nat) (ats:List AT),oR P (kT P n) fs off=some ats→(∀fd∈fs,∃x,DataW.trod enc P w 0 (fun _=>true) held fuel fd.type ((cs.drop fd.offset).take (P.cellsOf fd.type))=some x)→off+ats.length≤cs.length→Got P w ats ((cs.drop off).take ats.length)
 | [],off,ats,h,_,_=>by
  simp only[oR,Option.some.injEq] at h;subst h;exact⟨Zm,[],rfl,fun i hi=>by cases hi⟩
 |fd::r,off,ats,h,hx,hle=>by
  simp only[oR] at h;split at h
  ·rename_i a b ha hb;split at h
   ·rename_i hc;injection h with h;subst h;obtain⟨ho,hal⟩:=hc;subst ho;obtain⟨x,hxx⟩:=hx fd Zm;have g1:=ih _ _ _ _ hxx ha;rw[←hal] at hb g1;simp only[Kq] at hle⊢;have g2:=ef ih r _ b hb (fun f hf=>hx f (by simp[hf])) or;have e:(cs.drop fd.offset).take (a.length+b.length)=(cs.drop fd.offset).take a.length++(cs.drop (fd.offset+a.length)).take b.length:=by
     rw[Ku,List.drop_drop]
    rw[e];exact dr g1 g2
   cases h
  cases h
theorem sv{a:List AT}{ce:Nat}(hal:a.length=ce){cs:List Value}:∀(m:Nat),(∀i,i<m→Got P w a ((cs.drop (i*ce)).take ce))→Got P w (Kh m a).flatten (cs.take (m*ce))
 |0,_=>⟨Zm,[],Zm,fun i hi=>absurd hi Zm⟩
 |m+1,h=>by
  have g1:=sv hal m (fun i hi=>h i or);have g2:=h m or;have e1:(Kh (m+1) a).flatten=(Kh m a).flatten++a:=by
   rw[List.replicate_succ',List.flatten_append];simp
  have e2:cs.take ((m+1)*ce)=cs.take (m*ce)++(cs.drop (m*ce)).take ce:=by
   rw[Nat.add_mul,Nat.one_mul,Ku]
  rw[e1,e2];exact dr g1 g2
theorem A9:∀(fuel n:Nat) (t:TypeId) (cs:List Value) (x:DataW H×List MemPlace) (ats:List AT),DataW.trod enc P w 0 (fun _=>true) held fuel t cs=some x→kT P n t=some ats→Got P w ats cs:=by
 intro fuel;induction fuel with
 |zero=>intro n t cs x ats h;simp[DataW.trod] at h
 |succ fuel ih=>
  intro n t cs x ats h ha;cases n with
  |zero=>simp[kT] at ha
  |succ n=>
   simp only[kT] at ha;split at ha
   ·rename_i hu;injection ha with ha;subst ha;obtain⟨b,rfl,_⟩:=DataW.trod_bool hu h;exact sK (.bool b) (.bool b)
   ·rename_i k hu;injection ha with ha;subst ha;obtain⟨m,rfl,_,hwf⟩:=DataW.trod_int hu h;exact sK (.int k m) (.int k m hwf)
   ·rename_i hu;injection ha with ha;subst ha;unfold DataW.trod at h;rw[hu] at h;split at h<;>simp_all
    rename_i s;exact sK (.str s) (.str s h.1)
   ·rename_i e hu;split at ha
    ·rename_i k es hk hes;split at ha
     ·rename_i hc;injection ha with ha;subst ha;obtain⟨hel,hce,aBU⟩:=hc;rcases DataW.trod_slice hu h with⟨rfl,_⟩|⟨a,len,cap,elems,rest,m,hfu,rfl,_,_,hlc,hcm,hlen,aNf,hsp,_⟩
      ·exact sK (.slnil k) (.nil k es)
      injection hfu with hfu;subst hfu;obtain⟨hrl,aJM⟩:=hsp rfl;rw[hce] at aNf aJM;by_cases aAW:cap=0
      ·subst aAW;have:len=0:=or;subst this;exact sK (.slz k a) (.sl k es [] hel (fun v hv=>by cases hv) (fun v hv=>by cases hv))
      have aEf:∃v,w.cell? a=some v:=by
       have key:∀y,(w.cells? 0 (a.add (0*k.size)) k.size).bind (DataW.trod enc P w 0 (fun _=>true) held fuel e)=some y→∃v,w.cell? a=some v:=by
        intro y hy;obtain⟨c,hc1,_⟩:=Kj.1 hy;obtain⟨_,hc2,hc3⟩:=Km hc1;have:=hc3 0 aBU;simp only[Nat.zero_mul,Addr.add,if_true] at this;rw[this,Kb or];exact⟨_,rfl⟩
       by_cases hl0:len=0
       ·have:=aJM 0 or;rw[hl0] at this;rw[Kb or] at this;exact key _ (by simpa using this)
       have:=aNf 0 or;rw[Kb or] at this;exact key _ this
      obtain⟨v0,hv0⟩:=aEf;obtain⟨hblk,aJJ⟩:=CW hv0;obtain⟨b,off,sp⟩:=a;simp only at hblk aJJ;subst aJJ;have aI1:∀j,(⟨b,off,none⟩:Addr).add j=⟨b,off+j,none⟩:=fun j=>by unfold Addr.add;split<;>simp_all
      have elem:∀i,i<len→∃vs:List V,vs.length=k.size∧∀j,j<k.size→(∃c,w.cell? ⟨b,off+(i*k.size+j),none⟩=some c∧VR (Ker.base w) (vs.getD j Ka) c)∧(es.getD j .bool).ok (vs.getD j Ka):=by
       intro i hi;have h1:=aNf i hi;rw[Kb or] at h1;obtain⟨c,hc1,hc2⟩:=Kj.1 h1;obtain⟨_,hcl,hcc⟩:=Km hc1;obtain⟨g1,vs,g2,g3⟩:=ih n e c _ es hc2 hes;refine⟨vs,or,fun j hj=>?_⟩;obtain⟨q1,q2⟩:=g3 j or;refine⟨⟨c.getD j Kp,?_,q1⟩,q2⟩;have:=hcc j hj;rw[aI1] at this;have e2:(⟨b,off+i*k.size,none⟩:Addr).add j=⟨b,off+(i*k.size+j),none⟩:=by
        unfold Addr.add;split<;>simp_all [Nat.add_assoc]
       rw[e2] at this;rw[this,Kc,Kb or];rfl
      let g:Nat→List V:=fun i=>if hi:i<len then Classical.choose (elem i hi) else []
      have hg:∀i (hi:i<len),(g i).length=k.size∧∀j,j<k.size→(∃c,w.cell? ⟨b,off+(i*k.size+j),none⟩=some c∧VR (Ker.base w) ((g i).getD j Ka) c)∧(es.getD j .bool).ok ((g i).getD j Ka):=by
       intro i hi;have:=Classical.choose_spec (elem i hi);simp only[g,dif_pos hi];exact this
      have aCB:∀i (hi:i<len),∀j,j<(g i).length→((g i).getD j Ka).aAD=true:=fun i hi j hj=>((hg i hi).2 j (by rw[(hg i hi).1] at hj;exact hj)).2.aAD;let vs:List V:=(List.range len).map fun i=>mkV k (g i)
      have hvl:vs.length=len:=by simp[vs]
      have hvi:∀i,i<len→vs.getD i Ka=mkV k (g i):=fun i hi=>by
       simp[vs,Kc,hi]
      have aAp:∀v,v∈vs→∃i,i<len∧v=mkV k (g i):=fun v hv=>by
       obtain⟨i,hi,rfl⟩:=List.mem_map.1 hv;exact⟨i,by simpa using hi,rfl⟩
      have aCC:∀v,v∈vs→v.fits k=true:=fun v hv=>by
       obtain⟨i,hi,rfl⟩:=aAp v hv;exact rg (hg i hi).1 (aCB i hi)
      refine sK (v:= .sl k .free vs) ?_ (.sl k es vs hel aCC fun v hv i hi=>?_)
      ·have:=VR.sl (K:=Ker.base w) k .free vs b off cap (fun j=>(w.cell? ⟨b,off+j,none⟩).getD Kp) hblk aCC
        (fun j hj=>by
          have hj':j<len*k.size:=by rw[hvl] at hj;exact hj
          obtain⟨q1,q2,q3⟩:=yM hj';obtain⟨⟨c,hc,_⟩,_⟩:=(hg _ q1).2 _ q2;rw[q3] at hc;show w.cell? _=_;rw[hc];rfl)
        (fun j hj=> .inl hblk)
        (fun i hi j hj=>by
          rw[hvl] at hi;rw[hvi i hi,cm (hg i hi).1 (aCB i hi) j hj];obtain⟨⟨c,hc,hv⟩,_⟩:=(hg i hi).2 j hj;rw[hc];exact hv)
        (by rw[hvl];exact hlc) Zm Zm (fun n e=>by cases e)
       rwa [hvl] at this
      obtain⟨i',hi',rfl⟩:=aAp v hv;rw[cm (hg i' hi').1 (aCB i' hi') i or];exact((hg i' hi').2 i or).2
     cases ha
    cases ha
   ·rename_i fs hu;split at ha
    ·rename_i l hl;split at ha
     ·rename_i hc;injection ha with ha;subst ha;obtain⟨xs,m,hfu,_,hcl,hxl,hf⟩:=DataW.trod_struct hu h;injection hfu with hfu;subst hfu;have:=ef (cs:=cs) (fun t cs x ats=>ih n t cs x ats) fs.toList 0 l hl (fun fd hfd=>by
       obtain⟨i,hi,rfl⟩:=Ko hfd;have hi':i<fs.size:=by simpa using hi
       refine⟨xs[i]'or,?_⟩;have:=hf i fs[i] (Array.getElem?_eq_getElem hi');rw[Kb or] at this;simpa using this) or
      rw[List.drop_zero,Kk or] at this;exact this
     cases ha
    cases ha
   ·rename_i m e hu;split at ha
    ·rename_i a hae;split at ha
     ·rename_i hc;injection ha with ha;subst ha;obtain⟨xs,m',hfu,_,hcl,hxl,hf⟩:=DataW.trod_array hu h;injection hfu with hfu;subst hfu;have:=sv (P:=P) (w:=w) (ce:=P.cellsOf e) hc.1 (cs:=cs) m fun i hi=>by
       have:=hf i hi;rw[Kb or] at this;exact ih n e _ _ a this hae
      rw[Kk (by rw[←hc.1];omega)] at this;exact this
     cases ha
    cases ha
   cases ha
def gg(P:Program)(t:TypeId)(x:V):Prop:=∃k ats,dE P t=some k∧kT P 12 t=some ats∧x.fits k=true∧ats.length=k.size∧∀i,i<ats.length→(ats.getD i .bool).ok (x.cell i)
def ya(P:Program):List TypeId→List V→Prop
 | [],[]=>True
 |t::ts,x::xs=>gg P t x∧ya P ts xs
 |_,_=>False
theorem C0{r:Reach}{base:Nat}{t:TypeId}{v:Value}{d:DataW H}{p:List MemPlace}(aC3:Value.okWide P w r base t v)(h:DataW.Trod enc P w 0 (fun _=>true) held t v d p){k:Sh}{ats:List AT}(hk:dE P t=some k)(ha:kT P 12 t=some ats)(hl:ats.length=k.size):
 ∃x:V,VR (Ker.base w) x v∧gg P t x:=by
 obtain⟨fuel,h⟩:=h;obtain⟨g1,vs,g2,g3⟩:=A9 fuel 12 t _ _ ats h ha;have aCB:∀i,i<vs.length→(vs.getD i Ka).aAD=true:=fun i hi=>(g3 i or).2.aAD;refine⟨mkV k vs,?_,k,ats,hk,ha,rg or aCB,hl,fun i hi=>by rw[cm or aCB i or];exact(g3 i hi).2⟩;have aTj:∃u,P.underlying t=some u∧((k= .leaf∧(∀fs,u≠ .struct fs)∧∀n e,u≠ .array n e)∨((∃n,k= .agg n)∧((∃fs,u= .struct fs)∨∃n e,u= .array n e))):=by
  unfold dE at hk;split at hk
  ·cases hk
  split at hk
  ·rename_i fs hu;injection hk with hk;exact⟨_,hu, .inr ⟨⟨_,hk.symm⟩, .inl ⟨fs,rfl⟩⟩⟩
  ·rename_i n e hu;injection hk with hk;exact⟨_,hu, .inr ⟨⟨_,hk.symm⟩, .inr ⟨n,e,rfl⟩⟩⟩
  ·rename_i u h1 h2 hu;split at hk
   ·injection hk with hk;exact⟨u,hu, .inl ⟨hk.symm,fun fs e=>by subst e;exact h1 fs rfl,fun n e' e=>by subst e;exact h2 n e' rfl⟩⟩
   cases hk
  cases hk
 obtain⟨u,hu,aEj⟩:=aTj;rcases aEj with⟨rfl,hn1,hn2⟩|⟨⟨n,rfl⟩,hag⟩
 ·have hv1:vs.length=1:=by simpa [Sh.size] using g2.trans hl
  have hc0:=(g3 0 or).1;have aAJ:v.cells.toList.getD 0 Kp=v:=by
   cases v<;>first|rfl|skip
   rename_i cs;exfalso;unfold Value.okWide at aC3;rw[hu] at aC3;unfold kT at ha;rw[hu] at ha;cases u<;>first|exact hn1 _ rfl|exact hn2 _ _ rfl|(simp only[Cell.okWide,Cell.ok,hu] at aC3)|(simp at ha)
  rw[aAJ] at hc0;exact hc0
 have hv:∃cs,v= .agg cs:=by
  unfold Value.okWide at aC3;rw[hu] at aC3;rcases hag with⟨fs,rfl⟩|⟨m,e,rfl⟩<;>obtain⟨cs,rfl,_⟩:=aC3<;>exact⟨cs,rfl⟩
 obtain⟨cs,rfl⟩:=hv;refine .agg vs cs (by have:=g1;simp[Value.cells] at this;omega) fun i hi=>?_;have:=(g3 i or).1;simpa [Value.cells,Ki,Kc] using this
theorem uc{r:Reach}{base:Nat}:∀{ts:List TypeId} {vs:List Value} {ds:List (DataW H)} {ps:List MemPlace},(∀t∈ts,∃k ats,dE P t=some k∧kT P 12 t=some ats∧ats.length=k.size)→
 (∀(j:Nat) t v,ts[j]?=some t→vs[j]?=some v→Value.okWide P w r base t v)→DataW.TrodAll enc P w 0 (fun _=>true) held ts vs ds ps→∃xs:List V,ya P ts xs∧xs.length=vs.length∧∀i,i<xs.length→VR (Ker.base w) (xs.getD i Ka) (vs.getD i Kp)
 | [],vs,ds,ps,_,_,h=>by
  obtain⟨rfl,rfl,rfl⟩:=trodAll_nil h;exact⟨[],trivial,rfl,fun i hi=>by cases hi⟩
 |t::ts,vs,ds,ps,ht,aC3,h=>by
  obtain⟨v,vs',d,ds',p,q,rfl,rfl,rfl,h1,h2⟩:=trodAll_cons h;obtain⟨k,ats,hk,ha,hl⟩:=ht t Zm;obtain⟨x,hx,ho⟩:=C0 (aC3 0 t v rfl rfl) h1 hk ha hl;obtain⟨xs,h3,h4,h5⟩:=uc (fun t ht'=>ht t (by simp[ht'])) (fun j t v hj hv=>aC3 (j+1) t v hj hv) h2;refine⟨x::xs,⟨ho,h3⟩,by simp[h4],fun i hi=>?_⟩;cases i with
  |zero=>simpa using hx
  |succ i=>simpa using h5 i (by simpa using hi)
theorem m8{f:FuncId}{fn:Func}{ts:List TypeId}(hts:fn.params.toList=ts)(hat:(ts.all fun t=>match dE P t,kT P 12 t with|some k,some ats=>decide (ats.length=k.size)|_,_=>false)=true)
 (hp:∀xs:List V,ya P ts xs→aX P f xs Hp.none (.bool true)) (W:World) (base:Nat) (args:Array Value) (ds:List (DataW H)) (p:List MemPlace)
 (aC3:∀(j:Nat) t v,fn.params[j]?=some t→args[j]?=some v→Value.okWide P W .any base t v) (hA:DataW.TrodAll enc P W 0 (fun _=>true) true fn.params.toList args.toList ds p):
 Calls P f args W fun e W'=>e= .returned (.bool true)∧Below W.heap.size W W':=by
 have aUN:∀t∈ts,∃k ats,dE P t=some k∧kT P 12 t=some ats∧ats.length=k.size:=fun t ht=>by
  have:=Kt.1 hat t ht;split at this
  ·rename_i k ats h1 h2;exact⟨k,ats,h1,h2,by simpa using this⟩
  cases this
 rw[hts] at hA;obtain⟨xs,h1,h2,h3⟩:=uc (P:=P) aUN (fun j t v hj hv=>aC3 j t v (by rw[←hts] at hj;simpa using hj) (by simpa using hv)) hA;have c:=hp xs h1 Hp.none 0 (aU _);refine(c.2 (Ker.base W) args (fun n hn=>hn.elim) (Rel.aSy W) ⟨by simpa using h2,fun i hi=>?_⟩).mono ?_
 ·have:=h3 i hi;simpa [Ki,Kc] using this
 rintro e w' ⟨K',v,cv,h',nx',rfl,rfl,hle,hvr,_,_,_,rfl,_,_⟩;cases hvr;have hb:=hle.below;exact⟨rfl,⟨hb.os,hb.tape,hb.output,hb.size,fun k hk=>hb.block k hk (.inl hk)⟩⟩
end
theorem mL{k:IntKind}{v:V}(h:(AT.int k).ok v):∃n,v= .int k n:=by cases h with|int _ n _=>exact⟨n,rfl⟩
theorem CB{v:V}(h:AT.bool.ok v):∃b,v= .bool b:=by cases h with|bool b=>exact⟨b,rfl⟩
theorem yr{α:Type}(f:α→V):∀(vs:List V),(∀v∈vs,∃x,v=f x)→∃l:List α,vs=l.map f
 | [],_=>⟨[],rfl⟩
 |v::vs,h=>by
  obtain⟨x,rfl⟩:=h v Zm;obtain⟨l,rfl⟩:=yr f vs (fun v hv=>h v (by simp[hv]));exact⟨x::l,rfl⟩
theorem Cb{P:Program}{t:TypeId}{a:AT}{x:V}(ek:dE P t=some .leaf)(ea:kT P 12 t=some [a])(h:gg P t x):a.ok x:=by
 obtain⟨k,ats,hk,ha,hf,_,ho⟩:=h;rw[ek] at hk;rw[ea] at ha;injection hk with hk;injection ha with ha;subst hk ha;have h0:=ho 0 Zm;rwa [sP (by rwa [sN] at hf)] at h0
theorem zf{P:Program}{t:TypeId}{n:Nat}{ats:List AT}{x:V}(ek:dE P t=some (.agg n))(ea:kT P 12 t=some ats)(h:gg P t x):x.fits (.agg n)=true∧ats.length=n∧∀i,i<ats.length→(ats.getD i .bool).ok (x.cell i):=by
 obtain⟨k,aWa,hk,ha,hf,hl,ho⟩:=h;rw[ek] at hk;rw[ea] at ha;injection hk with hk;injection ha with ha;subst hk ha;exact⟨hf,hl,ho⟩
theorem CZ{P:Program}{t:TypeId}{k:IntKind}{x:V}(ek:dE P t=some .leaf)(ea:kT P 12 t=some [.int k])(h:gg P t x):∃n,x= .int k n:=mL (Cb ek ea h)
theorem DK{v:V}(hf:v.fits (.agg 4)=true)(h:∀i,i<4→(([AT.int .i64,AT.int .i64,AT.bool,AT.int .i64]:List AT).getD i .bool).ok (v.cell i)):∃w:Wy,v=w.v:=by
 cases v with
 |agg cs=>
  simp only[Kd,Ks,decide_eq_true_eq] at hf;obtain⟨a,b,c,d,rfl⟩:∃a b c d,cs=[a,b,c,d]:=by
   match cs,hf.1 with
   | [a,b,c,d],_=>exact⟨a,b,c,d,rfl⟩
  obtain⟨x,hx⟩:=mL (h 0 or);obtain⟨y,hy⟩:=mL (h 1 or);obtain⟨z,hz⟩:=CB (h 2 or);obtain⟨u,hu⟩:=mL (h 3 or);simp only[rN,List.getD_cons_zero,List.getD_cons_succ] at hx hy hz hu;exact⟨⟨x,y,⟨z,u⟩⟩,by rw[hx,hy,hz,hu];rfl⟩
 |_=>simp[Kd] at hf
theorem Dn{v:V}(h:(AT.sl (.agg 4) [.int .i64, .int .i64, .bool, .int .i64]).ok v):∃o l,v=wys o l:=by
 cases h with
 |nil=>exact⟨.nil,[],rfl⟩
 |sl _ _ vs hl hf hc=>
  obtain⟨l,rfl⟩:=yr Wy.v vs (fun v hv=>DK (hf v hv) (hc v hv));exact⟨.free,l,rfl⟩
end Go.Proofs.YtecepaehmojpgaaGreat
