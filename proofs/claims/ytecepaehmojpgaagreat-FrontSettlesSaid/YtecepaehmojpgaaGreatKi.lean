/-
Texts of this proof,one behind the other. No conditions.
-/
import Derived.Test.YtecepaehmojpgaaGreatRows
import Derived.WalkKit
import Derived.ProofKit
import Derived.OpenShut
import Derived.ShutString
import Derived.ChangeOld
import Derived.Below
import Derived.SizedLaws
import Derived.Test.YtecepaehmojpgaaGreatKdb
import Derived.ChangeArms
import Derived.DataReads
import Derived.Test.YtecepaehmojpgaaGreatKf
import Derived.Test.YtecepaehmojpgaaGreatKg
set_option linter.unusedSimpArgs false
set_option linter.unusedVariables false
set_option linter.unusedSectionVars false
namespace Go.Proofs.YtecepaehmojpgaaGreat
open Go.ChangeShapes Go.WideShapes Go.ChangeAt Go.RowKit
theorem own:ownKnob Tryz.prog.godebug=none:=by kernel_rfl
theorem aFO:laidOutB Tryz.prog=true:=by kernel_rfl
section
variable{H:Type}{enc:TypeId×Value→H}{P:Program}
theorem qP(hl:laidOutB P=true){W W':World}(hb:Below W.heap.size W W'):∀{ts:List TypeId} {vs:List Value} {ds:List (DataW H)} {ps:List MemPlace},
 (∀t∈ts,P.readableRec t=true∧t<P.types.size)→DataW.TrodAll enc P W 0 (fun _=>true) true ts vs ds ps→(∀x∈ps,x.block<W.heap.size)→
 DataW.TrodAll enc P W' 0 (fun b=>decide (b<W.heap.size)) true ts vs ds ps
 | [],vs,ds,ps,_,h,_=>by
  obtain⟨rfl,rfl,rfl⟩:=trodAll_nil h
  exact trodAll_mk0
 |t::ts,vs,ds,ps,ht,h,hlt=>by
  obtain⟨v,vs',d,ds',p,q,rfl,rfl,rfl,h1,h2⟩:=trodAll_cons h
  obtain⟨hr,hs⟩:=ht t (by simp)
  exact trodAll_cons_mk (Below.trod hl hr hs h1 hb (fun x hx=>hlt x (by simp[hx]))) (qP hl hb (fun t ht'=>ht t (by simp[ht'])) h2 (fun x hx=>hlt x (by simp[hx])))
theorem rW{W:World}{base:Nat}{spare:Nat→Bool}{held:Bool}:∀{ts:List TypeId} {vs:List Value} {ds:List (DataW H)} {ps:List MemPlace},
 DataW.TrodAll enc P W base spare held ts vs ds ps→vs.length=ts.length∧ds.length=ts.length
 | [],vs,ds,ps,h=>by obtain⟨rfl,rfl,rfl⟩:=trodAll_nil h;exact⟨rfl,rfl⟩
 |t::ts,vs,ds,ps,h=>by
  obtain⟨v,vs',d,ds',p,q,rfl,rfl,rfl,h1,h2⟩:=trodAll_cons h
  obtain⟨e1,e2⟩:=rW h2
  exact⟨by simp[e1],by simp[e2]⟩
theorem yT{C:Checked}{os:Os}{f:FuncId}{fn:Func}{s:ChangeSpec}{tb:TypeId}
 (own:ownKnob C.prog.godebug=none) (started:os.Started) (noInit:C.prog.inits.idxOf? f=none) (hfn:C.prog.funcs[f]?=some fn)
 (witness:∃(w:World) (tape:Tape) (i:Input),w.os=os∧(w.forCall tape i).Shaped C.prog∧i.vars=[]∧Input.okWide C.prog (w.forCall tape i) .any w.heap.size f i∧
   s.pre6 enc C.prog fn [] false (w.forCall tape i).memory i.args∧({}:Assume).holds C.prog (lone (Frame.enter C.prog f i.args .normal) [] (w.forCall tape i)))
 (hvars:s.vars=[]) (hspec:∀ds:List (DataW H),ds.length=fn.params.size→s.fn H ds={results:=[.lit (.bool true)],args:=ds})
 (hres:fn.resultTypes=#[tb]) (hb:C.prog.underlying tb=some .bool) (hl:laidOutB C.prog=true)
 (hrd:∀t∈fn.params.toList,C.prog.readableRec t=true∧t<C.prog.types.size)
 (contract:∀(W:World) (base:Nat) (args:Array Value) (ds:List (DataW H)) (p:List MemPlace),
   (∀(j:Nat) t v,fn.params[j]?=some t→args[j]?=some v→Value.okWide C.prog W .any base t v)→
   DataW.TrodAll enc C.prog W 0 (fun _=>true) true fn.params.toList args.toList ds p→(∀x∈p,x.block<W.heap.size)→
   (DataW.weightsEach C.prog fn.params.toList ds).all (·≤reachBytes)=true→
   Calls C.prog f args W fun e W'=>e= .returned (.bool true)∧Below W.heap.size W W'):
 ReturnsInHanded {} C os f .any (s.pre6 enc C.prog fn [] false) (s.post enc C.prog fn false true false false):=by
 refine returnsInHanded_of_change_sized own started noInit hfn witness ?_
 intro W base args ds gs before hval hW _ hsz _
 have hW':=hW
 obtain⟨p,q,hA,hV,rfl,hfz,hnd⟩:=hW
 rw[hvars] at hV
 obtain⟨rfl,rfl⟩:=trodVars_none hV
 have hvt:s.plain.varTypes C.prog=[]:=by
  simp[DataSpec.varTypes,ChangeSpec.plain,hvars]
 rw[hvt,List.append_nil,List.append_nil] at hsz
 have hlt:∀x∈p,x.block<W.heap.size:=fun x hx=>hW'.lt x (by simp[hx])
 refine(contract W base args ds p hval hA hlt hsz).mono fun e W' ⟨he,hbel⟩=>?_
 subst he
 have hlen:=(rW hA).2
 have hs:=hspec ds (by simpa using hlen)
 refine⟨_,rfl,ds,[],p++[],[],p,[],hW',?_,?_,?_,hbel.frame _,fun h=>by cases h⟩
 ·rw[List.append_nil,hs,hres]
  exact trodAll_mk1 (shut_bool hb _)
 ·rw[List.append_nil,hs]
  exact qP hl hbel hrd hA hlt
 rw[List.append_nil,hs,hvars]
 exact rfl
end
inductive AT where
 |bool
 |int (k:IntKind)
 |str
 |sl (k:Sh) (es:List AT)
 deriving Inhabited
inductive AT.ok:AT→V→Prop
 |bool (b:Bool):AT.ok .bool (.bool b)
 |int (k:IntKind) (n:Int) (h:(Lit.int k n).wf=true):AT.ok (.int k) (.int k n)
 |str (s:ByteArray) (h:s.size≤maxLen):AT.ok .str (.str s)
 |nil (k:Sh) (es:List AT):AT.ok (.sl k es) (.sl k .nil [])
 |sl (k:Sh) (es:List AT) (vs:List V) (hl:es.length=k.size) (hf:∀v,v∈vs→v.fits k=true) (hc:∀v,v∈vs→∀i,i<es.length→AT.ok (es.getD i .bool) (v.cell i)):AT.ok (.sl k es) (.sl k .free vs)
theorem AT.ok.leafy{t:AT}{v:V}(h:t.ok v):v.leafy=true:=by cases h<;>rfl
def mX(P:Program)(g:TypeId→Option (List AT)):List Field→Nat→Option (List AT)
 | [],_=>some []
 |fd::r,off=>match g fd.type,mX P g r (off+P.cellsOf fd.type) with
  |some a,some b=>if fd.offset=off∧a.length=P.cellsOf fd.type then some (a++b) else none
  |_,_=>none
def iS(P:Program):Nat→TypeId→Option (List AT)
 |0,_=>none
 |n+1,t=>match P.underlying t with
  |some .bool=>some [.bool]
  |some (.int k)=>some [.int k]
  |some .string=>some [.str]
  |some (.slice e)=>match cO P e,iS P n e with
   |some k,some es=>if es.length=k.size∧P.cellsOf e=k.size∧0<k.size then some [.sl k es] else none
   |_,_=>none
  |some (.struct fs)=>match mX P (iS P n) fs.toList 0 with
   |some l=>if l.length=P.cellsOf t then some l else none
   |none=>none
  |some (.array m e)=>match iS P n e with
   |some a=>if a.length=P.cellsOf e∧m*a.length=P.cellsOf t then some (List.replicate m a).flatten else none
   |none=>none
  |_=>none
def Ker.base(W:World):Ker:=⟨W,fun _=>0,fun _=>0,fun _=>0,fun _=>False,fun b=>b<W.heap.size⟩
theorem Rel.base0(W:World):Rel (Ker.base W) Hp.none:=⟨(fun n b e=>by cases e),(fun n b e=>by cases e),(fun n b e=>by cases e),(fun n n' b b' e=>by cases e),fun b hb=>hb⟩
theorem aJG{W:World}{a:Addr}{v:Value}(h:W.cell? a=some v):a.block<W.heap.size∧a.spot=none:=by
 unfold World.cell? at h
 split at h
 ·rename_i hh
  refine⟨(Array.getElem?_eq_some_iff.1 hh).1,?_⟩
  split at h
  ·cases h
  rename_i hs;simpa using hs
 cases h
def mkV:Sh→List V→V
 | .leaf,vs=>vs.getD 0 V.undef
 | .agg _,vs=> .agg vs
theorem aDe{k:Sh}{vs:List V}(hl:vs.length=k.size)(h:∀i,i<vs.length→(vs.getD i V.undef).leafy=true):(mkV k vs).fits k=true:=by
 cases k with
 |leaf=>
  have:=h 0 (by rw[hl];simp[Sh.size])
  simpa [mkV,V.fits] using this
 |agg n=>
  simp only[mkV,V.fits,Bool.and_eq_true,decide_eq_true_eq,List.all_eq_true]
  refine⟨hl,fun v hv=>?_⟩
  obtain⟨i,hi,rfl⟩:=List.getElem_of_mem hv
  have:=h i hi
  rwa [List.getD_eq_getElem?_getD,List.getElem?_eq_getElem hi] at this
theorem yE{k:Sh}{vs:List V}(hl:vs.length=k.size)(h:∀i,i<vs.length→(vs.getD i V.undef).leafy=true)(j:Nat)(hj:j<k.size):(mkV k vs).cell j=vs.getD j V.undef:=by
 cases k with
 |leaf=>
  have hj0:j=0:=by simpa [Sh.size] using hj
  subst hj0
  exact vM (h 0 (by rw[hl];simp[Sh.size]))
 |agg n=>rfl
section
variable{H:Type}{enc:TypeId×Value→H}{P:Program}{w:World}{held:Bool}
def Got(P:Program)(w:World)(ats:List AT)(cs:List Value):Prop:=
 cs.length=ats.length∧∃vs:List V,vs.length=ats.length∧∀i,i<ats.length→VR (Ker.base w) (vs.getD i V.undef) (cs.getD i Go.undef)∧(ats.getD i .bool).ok (vs.getD i V.undef)
theorem pW{a:AT}{c:Value}{v:V}(h:VR (Ker.base w) v c)(ho:a.ok v):Got P w [a] [c]:=
 ⟨rfl,[v],rfl,fun i hi=>by
   have:i=0:=by simpa using hi
   subst this
   exact⟨h,ho⟩⟩
theorem yZ{a b:List AT}{ca cb:List Value}(h:Got P w a ca)(h':Got P w b cb):Got P w (a++b) (ca++cb):=by
 obtain⟨h1,vs,h2,h3⟩:=h
 obtain⟨k1,us,k2,k3⟩:=h'
 refine⟨by simp[h1,k1],vs++us,by simp[h2,k2],fun i hi=>?_⟩
 simp only[List.length_append] at hi
 by_cases e:i<a.length
 ·have:=h3 i e
  simp only[List.getD_eq_getElem?_getD] at this⊢
  rw[List.getElem?_append_left (by omega),List.getElem?_append_left (by omega),List.getElem?_append_left (by omega)]
  exact this
 have:=k3 (i-a.length) (by omega)
 simp only[List.getD_eq_getElem?_getD] at this⊢
 rw[List.getElem?_append_right (by omega),List.getElem?_append_right (by omega),List.getElem?_append_right (by omega),h2,h1]
 exact this
theorem zI{n fuel:Nat}{cs:List Value}(ih:∀t cs x ats,DataW.trod enc P w 0 (fun _=>true) held fuel t cs=some x→iS P n t=some ats→Got P w ats cs):
 ∀(fs:List Field) (off:Nat) (ats:List AT),mX P (iS P n) fs off=some ats→(∀fd∈fs,∃x,DataW.trod enc P w 0 (fun _=>true) held fuel fd.type ((cs.drop fd.offset).take (P.cellsOf fd.type))=some x)→off+ats.length≤cs.length→Got P w ats ((cs.drop off).take ats.length)
 | [],off,ats,h,_,_=>by
  simp only[mX,Option.some.injEq] at h
  subst h
  exact⟨by simp,[],rfl,fun i hi=>by cases hi⟩
 |fd::r,off,ats,h,hx,hle=>by
  simp only[mX] at h
  split at h
  ·rename_i a b ha hb
   split at h
   ·rename_i hc
    injection h with h
    subst h
    obtain⟨ho,hal⟩:=hc
    subst ho
    obtain⟨x,hxx⟩:=hx fd (by simp)
    have g1:=ih _ _ _ _ hxx ha
    rw[←hal] at hb g1
    simp only[List.length_append] at hle⊢
    have g2:=zI ih r _ b hb (fun f hf=>hx f (by simp[hf])) (by omega)
    have e:(cs.drop fd.offset).take (a.length+b.length)=(cs.drop fd.offset).take a.length++(cs.drop (fd.offset+a.length)).take b.length:=by
     rw[List.take_add,List.drop_drop]
    rw[e]
    exact yZ g1 g2
   cases h
  cases h
theorem aDz{a:List AT}{ce:Nat}(hal:a.length=ce){cs:List Value}:∀(m:Nat),(∀i,i<m→Got P w a ((cs.drop (i*ce)).take ce))→Got P w (List.replicate m a).flatten (cs.take (m*ce))
 |0,_=>⟨by simp,[],by simp,fun i hi=>absurd hi (by simp)⟩
 |m+1,h=>by
  have g1:=aDz hal m (fun i hi=>h i (by omega))
  have g2:=h m (by omega)
  have e1:(List.replicate (m+1) a).flatten=(List.replicate m a).flatten++a:=by
   rw[List.replicate_succ',List.flatten_append];simp
  have e2:cs.take ((m+1)*ce)=cs.take (m*ce)++(cs.drop (m*ce)).take ce:=by
   rw[Nat.add_mul,Nat.one_mul,List.take_add]
  rw[e1,e2]
  exact yZ g1 g2
theorem aHH:∀(fuel n:Nat) (t:TypeId) (cs:List Value) (x:DataW H×List MemPlace) (ats:List AT),DataW.trod enc P w 0 (fun _=>true) held fuel t cs=some x→iS P n t=some ats→Got P w ats cs:=by
 intro fuel
 induction fuel with
 |zero=>intro n t cs x ats h;simp[DataW.trod] at h
 |succ fuel ih=>
  intro n t cs x ats h ha
  cases n with
  |zero=>simp[iS] at ha
  |succ n=>
   simp only[iS] at ha
   split at ha
   ·rename_i hu
    injection ha with ha;subst ha
    obtain⟨b,rfl,_⟩:=DataW.trod_bool hu h
    exact pW (.bool b) (.bool b)
   ·rename_i k hu
    injection ha with ha;subst ha
    obtain⟨m,rfl,_,hwf⟩:=DataW.trod_int hu h
    exact pW (.int k m) (.int k m hwf)
   ·rename_i hu
    injection ha with ha;subst ha
    unfold DataW.trod at h
    rw[hu] at h
    split at h<;>simp_all
    rename_i s
    exact pW (.str s) (.str s h.1)
   ·rename_i e hu
    split at ha
    ·rename_i k es hk hes
     split at ha
     ·rename_i hc
      injection ha with ha;subst ha
      obtain⟨hel,hce,hpos⟩:=hc
      rcases DataW.trod_slice hu h with⟨rfl,_⟩|⟨a,len,cap,elems,rest,m,hfu,rfl,_,_,hlc,hcm,hlen,hele,hsp,_⟩
      ·exact pW (.slnil k) (.nil k es)
      injection hfu with hfu;subst hfu
      obtain⟨hrl,hrest⟩:=hsp rfl
      rw[hce] at hele hrest
      by_cases hcap:cap=0
      ·subst hcap
       have:len=0:=by omega
       subst this
       exact pW (.slz k a) (.sl k es [] hel (fun v hv=>by cases hv) (fun v hv=>by cases hv))
      have hfirst:∃v,w.cell? a=some v:=by
       have key:∀y,(w.cells? 0 (a.add (0*k.size)) k.size).bind (DataW.trod enc P w 0 (fun _=>true) held fuel e)=some y→∃v,w.cell? a=some v:=by
        intro y hy
        obtain⟨c,hc1,_⟩:=Option.bind_eq_some_iff.1 hy
        obtain⟨_,hc2,hc3⟩:=World.cells?_some hc1
        have:=hc3 0 hpos
        simp only[Nat.zero_mul,Addr.add,if_true] at this
        rw[this,List.getElem?_eq_getElem (by omega)]
        exact⟨_,rfl⟩
       by_cases hl0:len=0
       ·have:=hrest 0 (by omega)
        rw[hl0] at this
        rw[List.getElem?_eq_getElem (by omega)] at this
        exact key _ (by simpa using this)
       have:=hele 0 (by omega)
       rw[List.getElem?_eq_getElem (by omega)] at this
       exact key _ this
      obtain⟨v0,hv0⟩:=hfirst
      obtain⟨hblk,hspot⟩:=aJG hv0
      obtain⟨b,off,sp⟩:=a
      simp only at hblk hspot
      subst hspot
      have hadd:∀j,(⟨b,off,none⟩:Addr).add j=⟨b,off+j,none⟩:=fun j=>by unfold Addr.add;split<;>simp_all
      have elem:∀i,i<len→∃vs:List V,vs.length=k.size∧∀j,j<k.size→(∃c,w.cell? ⟨b,off+(i*k.size+j),none⟩=some c∧VR (Ker.base w) (vs.getD j V.undef) c)∧(es.getD j .bool).ok (vs.getD j V.undef):=by
       intro i hi
       have h1:=hele i hi
       rw[List.getElem?_eq_getElem (by omega)] at h1
       obtain⟨c,hc1,hc2⟩:=Option.bind_eq_some_iff.1 h1
       obtain⟨_,hcl,hcc⟩:=World.cells?_some hc1
       obtain⟨g1,vs,g2,g3⟩:=ih n e c _ es hc2 hes
       refine⟨vs,by omega,fun j hj=>?_⟩
       obtain⟨q1,q2⟩:=g3 j (by omega)
       refine⟨⟨c.getD j Go.undef,?_,q1⟩,q2⟩
       have:=hcc j hj
       rw[hadd] at this
       have e2:(⟨b,off+i*k.size,none⟩:Addr).add j=⟨b,off+(i*k.size+j),none⟩:=by
        unfold Addr.add;split<;>simp_all [Nat.add_assoc]
       rw[e2] at this
       rw[this,List.getD_eq_getElem?_getD,List.getElem?_eq_getElem (by omega)]
       rfl
      let g:Nat→List V:=fun i=>if hi:i<len then Classical.choose (elem i hi) else []
      have hg:∀i (hi:i<len),(g i).length=k.size∧∀j,j<k.size→(∃c,w.cell? ⟨b,off+(i*k.size+j),none⟩=some c∧VR (Ker.base w) ((g i).getD j V.undef) c)∧(es.getD j .bool).ok ((g i).getD j V.undef):=by
       intro i hi
       have:=Classical.choose_spec (elem i hi)
       simp only[g,dif_pos hi]
       exact this
      have hleaf:∀i (hi:i<len),∀j,j<(g i).length→((g i).getD j V.undef).leafy=true:=fun i hi j hj=>((hg i hi).2 j (by rw[(hg i hi).1] at hj;exact hj)).2.leafy
      let vs:List V:=(List.range len).map fun i=>mkV k (g i)
      have hvl:vs.length=len:=by simp[vs]
      have hvi:∀i,i<len→vs.getD i V.undef=mkV k (g i):=fun i hi=>by
       simp[vs,List.getD_eq_getElem?_getD,hi]
      have hmem:∀v,v∈vs→∃i,i<len∧v=mkV k (g i):=fun v hv=>by
       obtain⟨i,hi,rfl⟩:=List.mem_map.1 hv
       exact⟨i,by simpa using hi,rfl⟩
      have hfits:∀v,v∈vs→v.fits k=true:=fun v hv=>by
       obtain⟨i,hi,rfl⟩:=hmem v hv
       exact aDe (hg i hi).1 (hleaf i hi)
      refine pW (v:= .sl k .free vs) ?_ (.sl k es vs hel hfits fun v hv i hi=>?_)
      ·have:=VR.sl (K:=Ker.base w) k .free vs b off cap (fun j=>(w.cell? ⟨b,off+j,none⟩).getD Go.undef) hblk hfits
        (fun j hj=>by
          have hj':j<len*k.size:=by rw[hvl] at hj;exact hj
          obtain⟨q1,q2,q3⟩:=vI hj'
          obtain⟨⟨c,hc,_⟩,_⟩:=(hg _ q1).2 _ q2
          rw[q3] at hc
          show w.cell? _=_
          rw[hc];rfl)
        (fun j hj=> .inl hblk)
        (fun i hi j hj=>by
          rw[hvl] at hi
          rw[hvi i hi,yE (hg i hi).1 (hleaf i hi) j hj]
          obtain⟨⟨c,hc,hv⟩,_⟩:=(hg i hi).2 j hj
          rw[hc]
          exact hv)
        (by rw[hvl];exact hlc) (by simp) (by simp) (fun n e=>by cases e)
       rwa [hvl] at this
      obtain⟨i',hi',rfl⟩:=hmem v hv
      rw[yE (hg i' hi').1 (hleaf i' hi') i (by omega)]
      exact((hg i' hi').2 i (by omega)).2
     cases ha
    cases ha
   ·rename_i fs hu
    split at ha
    ·rename_i l hl
     split at ha
     ·rename_i hc
      injection ha with ha;subst ha
      obtain⟨xs,m,hfu,_,hcl,hxl,hf⟩:=DataW.trod_struct hu h
      injection hfu with hfu;subst hfu
      have:=zI (cs:=cs) (fun t cs x ats=>ih n t cs x ats) fs.toList 0 l hl (fun fd hfd=>by
       obtain⟨i,hi,rfl⟩:=List.getElem_of_mem hfd
       have hi':i<fs.size:=by simpa using hi
       refine⟨xs[i]'(by omega),?_⟩
       have:=hf i fs[i] (Array.getElem?_eq_getElem hi')
       rw[List.getElem?_eq_getElem (by omega)] at this
       simpa using this) (by omega)
      rw[List.drop_zero,List.take_of_length_le (by omega)] at this
      exact this
     cases ha
    cases ha
   ·rename_i m e hu
    split at ha
    ·rename_i a hae
     split at ha
     ·rename_i hc
      injection ha with ha;subst ha
      obtain⟨xs,m',hfu,_,hcl,hxl,hf⟩:=DataW.trod_array hu h
      injection hfu with hfu;subst hfu
      have:=aDz (P:=P) (w:=w) (ce:=P.cellsOf e) hc.1 (cs:=cs) m fun i hi=>by
       have:=hf i hi
       rw[List.getElem?_eq_getElem (by omega)] at this
       exact ih n e _ _ a this hae
      rw[List.take_of_length_le (by rw[←hc.1];omega)] at this
      exact this
     cases ha
    cases ha
   cases ha
def aAh(P:Program)(t:TypeId)(x:V):Prop:=∃k ats,cO P t=some k∧iS P 12 t=some ats∧x.fits k=true∧ats.length=k.size∧∀i,i<ats.length→(ats.getD i .bool).ok (x.cell i)
def aFy(P:Program):List TypeId→List V→Prop
 | [],[]=>True
 |t::ts,x::xs=>aAh P t x∧aFy P ts xs
 |_,_=>False
theorem aJJ{r:Reach}{base:Nat}{t:TypeId}{v:Value}{d:DataW H}{p:List MemPlace}(hval:Value.okWide P w r base t v)(h:DataW.Trod enc P w 0 (fun _=>true) held t v d p){k:Sh}{ats:List AT}(hk:cO P t=some k)(ha:iS P 12 t=some ats)(hl:ats.length=k.size):
 ∃x:V,VR (Ker.base w) x v∧aAh P t x:=by
 obtain⟨fuel,h⟩:=h
 obtain⟨g1,vs,g2,g3⟩:=aHH fuel 12 t _ _ ats h ha
 have hleaf:∀i,i<vs.length→(vs.getD i V.undef).leafy=true:=fun i hi=>(g3 i (by omega)).2.leafy
 refine⟨mkV k vs,?_,k,ats,hk,ha,aDe (by omega) hleaf,hl,fun i hi=>by rw[yE (by omega) hleaf i (by omega)];exact(g3 i hi).2⟩
 have hund:∃u,P.underlying t=some u∧((k= .leaf∧(∀fs,u≠ .struct fs)∧∀n e,u≠ .array n e)∨((∃n,k= .agg n)∧((∃fs,u= .struct fs)∨∃n e,u= .array n e))):=by
  unfold cO at hk
  split at hk
  ·cases hk
  split at hk
  ·rename_i fs hu;injection hk with hk;exact⟨_,hu, .inr ⟨⟨_,hk.symm⟩, .inl ⟨fs,rfl⟩⟩⟩
  ·rename_i n e hu;injection hk with hk;exact⟨_,hu, .inr ⟨⟨_,hk.symm⟩, .inr ⟨n,e,rfl⟩⟩⟩
  ·rename_i u h1 h2 hu
   split at hk
   ·injection hk with hk
    exact⟨u,hu, .inl ⟨hk.symm,fun fs e=>by subst e;exact h1 fs rfl,fun n e' e=>by subst e;exact h2 n e' rfl⟩⟩
   cases hk
  cases hk
 obtain⟨u,hu,hcase⟩:=hund
 rcases hcase with⟨rfl,hn1,hn2⟩|⟨⟨n,rfl⟩,hag⟩
 ·have hv1:vs.length=1:=by simpa [Sh.size] using g2.trans hl
  have hc0:=(g3 0 (by omega)).1
  have hcell:v.cells.toList.getD 0 Go.undef=v:=by
   cases v<;>first|rfl|skip
   rename_i cs
   exfalso
   unfold Value.okWide at hval
   rw[hu] at hval
   unfold iS at ha
   rw[hu] at ha
   cases u<;>first|exact hn1 _ rfl|exact hn2 _ _ rfl|(simp only[Cell.okWide,Cell.ok,hu] at hval)|(simp at ha)
  rw[hcell] at hc0
  exact hc0
 have hv:∃cs,v= .agg cs:=by
  unfold Value.okWide at hval
  rw[hu] at hval
  rcases hag with⟨fs,rfl⟩|⟨m,e,rfl⟩<;>obtain⟨cs,rfl,_⟩:=hval<;>exact⟨cs,rfl⟩
 obtain⟨cs,rfl⟩:=hv
 refine .agg vs cs (by have:=g1;simp[Value.cells] at this;omega) fun i hi=>?_
 have:=(g3 i (by omega)).1
 simpa [Value.cells,Array.getD_eq_getD_getElem?,List.getD_eq_getElem?_getD] using this
theorem aDW{r:Reach}{base:Nat}:∀{ts:List TypeId} {vs:List Value} {ds:List (DataW H)} {ps:List MemPlace},(∀t∈ts,∃k ats,cO P t=some k∧iS P 12 t=some ats∧ats.length=k.size)→
 (∀(j:Nat) t v,ts[j]?=some t→vs[j]?=some v→Value.okWide P w r base t v)→DataW.TrodAll enc P w 0 (fun _=>true) held ts vs ds ps→∃xs:List V,aFy P ts xs∧xs.length=vs.length∧∀i,i<xs.length→VR (Ker.base w) (xs.getD i V.undef) (vs.getD i Go.undef)
 | [],vs,ds,ps,_,_,h=>by
  obtain⟨rfl,rfl,rfl⟩:=trodAll_nil h
  exact⟨[],trivial,rfl,fun i hi=>by cases hi⟩
 |t::ts,vs,ds,ps,ht,hval,h=>by
  obtain⟨v,vs',d,ds',p,q,rfl,rfl,rfl,h1,h2⟩:=trodAll_cons h
  obtain⟨k,ats,hk,ha,hl⟩:=ht t (by simp)
  obtain⟨x,hx,ho⟩:=aJJ (hval 0 t v rfl rfl) h1 hk ha hl
  obtain⟨xs,h3,h4,h5⟩:=aDW (fun t ht'=>ht t (by simp[ht'])) (fun j t v hj hv=>hval (j+1) t v hj hv) h2
  refine⟨x::xs,⟨ho,h3⟩,by simp[h4],fun i hi=>?_⟩
  cases i with
  |zero=>simpa using hx
  |succ i=>simpa using h5 i (by simpa using hi)
theorem sS{f:FuncId}{fn:Func}{ts:List TypeId}(hts:fn.params.toList=ts)(hat:(ts.all fun t=>match cO P t,iS P 12 t with|some k,some ats=>decide (ats.length=k.size)|_,_=>false)=true)
 (hp:∀xs:List V,aFy P ts xs→aZ P f xs Hp.none (.bool true)) (W:World) (base:Nat) (args:Array Value) (ds:List (DataW H)) (p:List MemPlace)
 (hval:∀(j:Nat) t v,fn.params[j]?=some t→args[j]?=some v→Value.okWide P W .any base t v) (hA:DataW.TrodAll enc P W 0 (fun _=>true) true fn.params.toList args.toList ds p):
 Calls P f args W fun e W'=>e= .returned (.bool true)∧Below W.heap.size W W':=by
 have hat':∀t∈ts,∃k ats,cO P t=some k∧iS P 12 t=some ats∧ats.length=k.size:=fun t ht=>by
  have:=List.all_eq_true.1 hat t ht
  split at this
  ·rename_i k ats h1 h2;exact⟨k,ats,h1,h2,by simpa using this⟩
  cases this
 rw[hts] at hA
 obtain⟨xs,h1,h2,h3⟩:=aDW (P:=P) hat' (fun j t v hj hv=>hval j t v (by rw[←hts] at hj;simpa using hj) (by simpa using hv)) hA
 have c:=hp xs h1 Hp.none 0 (aR _)
 refine(c.2 (Ker.base W) args (fun n hn=>hn.elim) (Rel.base0 W) ⟨by simpa using h2,fun i hi=>?_⟩).mono ?_
 ·have:=h3 i hi
  simpa [Array.getD_eq_getD_getElem?,List.getD_eq_getElem?_getD] using this
 rintro e w' ⟨K',v,cv,h',nx',rfl,rfl,hle,hvr,_,_,_,rfl,_,_⟩
 cases hvr
 have hb:=hle.below
 exact⟨rfl,⟨hb.os,hb.tape,hb.output,hb.size,fun k hk=>hb.block k hk (.inl hk)⟩⟩
end
theorem kA{k:IntKind}{v:V}(h:(AT.int k).ok v):∃n,v= .int k n:=by cases h with|int _ n _=>exact⟨n,rfl⟩
theorem aFJ{v:V}(h:AT.bool.ok v):∃b,v= .bool b:=by cases h with|bool b=>exact⟨b,rfl⟩
theorem wV{α:Type}(f:α→V):∀(vs:List V),(∀v∈vs,∃x,v=f x)→∃l:List α,vs=l.map f
 | [],_=>⟨[],rfl⟩
 |v::vs,h=>by
  obtain⟨x,rfl⟩:=h v (by simp)
  obtain⟨l,rfl⟩:=wV f vs (fun v hv=>h v (by simp[hv]))
  exact⟨x::l,rfl⟩
theorem aDY{P:Program}{t:TypeId}{a:AT}{x:V}(ek:cO P t=some .leaf)(ea:iS P 12 t=some [a])(h:aAh P t x):a.ok x:=by
 obtain⟨k,ats,hk,ha,hf,_,ho⟩:=h
 rw[ek] at hk
 rw[ea] at ha
 injection hk with hk;injection ha with ha
 subst hk ha
 have h0:=ho 0 (by simp)
 rwa [vM (by rwa [vF] at hf)] at h0
theorem aJK{P:Program}{t:TypeId}{n:Nat}{ats:List AT}{x:V}(ek:cO P t=some (.agg n))(ea:iS P 12 t=some ats)(h:aAh P t x):x.fits (.agg n)=true∧ats.length=n∧∀i,i<ats.length→(ats.getD i .bool).ok (x.cell i):=by
 obtain⟨k,ats',hk,ha,hf,hl,ho⟩:=h
 rw[ek] at hk
 rw[ea] at ha
 injection hk with hk;injection ha with ha
 subst hk ha
 exact⟨hf,hl,ho⟩
theorem aKC{v:V}(hf:v.fits (.agg 4)=true)(h:∀i,i<4→(([AT.int .i64,AT.int .i64,AT.bool,AT.int .i64]:List AT).getD i .bool).ok (v.cell i)):∃w:Wy,v=w.v:=by
 cases v with
 |agg cs=>
  simp only[V.fits,Bool.and_eq_true,decide_eq_true_eq] at hf
  obtain⟨a,b,c,d,rfl⟩:∃a b c d,cs=[a,b,c,d]:=by
   match cs,hf.1 with
   | [a,b,c,d],_=>exact⟨a,b,c,d,rfl⟩
  obtain⟨x,hx⟩:=kA (h 0 (by omega))
  obtain⟨y,hy⟩:=kA (h 1 (by omega))
  obtain⟨z,hz⟩:=aFJ (h 2 (by omega))
  obtain⟨u,hu⟩:=kA (h 3 (by omega))
  simp only[zV,List.getD_cons_zero,List.getD_cons_succ] at hx hy hz hu
  exact⟨⟨x,y,⟨z,u⟩⟩,by rw[hx,hy,hz,hu];rfl⟩
 |_=>simp[V.fits] at hf
theorem aKg{v:V}(h:(AT.sl (.agg 4) [.int .i64, .int .i64, .bool, .int .i64]).ok v):∃o l,v=wys o l:=by
 cases h with
 |nil=>exact⟨.nil,[],rfl⟩
 |sl _ _ vs hl hf hc=>
  obtain⟨l,rfl⟩:=wV Wy.v vs (fun v hv=>aKC (hf v hv) (hc v hv))
  exact⟨.free,l,rfl⟩
end Go.Proofs.YtecepaehmojpgaaGreat
