/-
Texts of this proof,one behind the other. No conditions.
-/
import Derived.Test.YtemjhgboialjpaaGreatKdb
import Derived.Test.YtemjhgboialjpaaGreatKd
import Derived.Shelf.SlSortCmp.Whole1
import Derived.Test.YtemjhgboialjpaaGreatKcb
import Derived.Laws.IdiomCopy
import Derived.Test.YtemjhgboialjpaaGreatChecked
import Derived.Test.YtemjhgboialjpaaGreatKh
import Derived.Shelf.GgClosure.GivesRunes
import Derived.Shelf.GgClosure.StringsIndexFunc
import Derived.Shelf.GgClosure.StringsIndexFuncTop
import Derived.Below
import Derived.Shelf.RegionOpenPlain
import Derived.WalkKit
import Derived.Deep.LoopGhost
import Derived.Deep.RegionLaw
import Derived.Lib.Walk
import Derived.Sort.WalkB12
import Derived.Lib.Overlaps
import Derived.Laws.Externs
set_option linter.unusedSimpArgs false
set_option linter.unusedVariables false
set_option linter.unusedSectionVars false
namespace Go.Proofs.YtemjhgboialjpaaGreat
open Go.RowKit Go.Sort Go.Shelf Go.Lib
theorem eO{α:Type} [Inhabited α](enc:α→Value)(w:World)(blk off m:Nat)(dk:Array α)(os:Array Obj)(b:Nat)(hb:b<w.heap.size)(hne:b≠blk):(sortWorld enc w blk off m dk os).heap[b]?=w.heap[b]?:=by
 unfold sortWorld putRow mapBlock grow
 simp only[heap_ahead]
 rw[Array.getElem?_append_left (by simpa using hb),Array.getElem?_modify,if_neg (fun e=>hne e.symm)]
theorem kE{α:Type} [Inhabited α](enc:α→Value)(w:World)(blk off m:Nat)(dk:Array α)(os:Array Obj):w.heap.size≤(sortWorld enc w blk off m dk os).heap.size:=by
 unfold sortWorld putRow mapBlock grow
 simp only[heap_ahead,Array.size_append,Array.size_modify]
 omega
theorem lW{α:Type} [Inhabited α](enc:α→Value)(w:World)(blk off m:Nat)(dk:Array α)(os:Array Obj){c:Array Value}{T:TypeId}{fr:Nat×Nat}(hh:w.heap[blk]?=some (.cells c T fr)):∃c':Array Value,(sortWorld enc w blk off m dk os).heap[blk]?=some (.cells c' T fr)∧c'.size=c.size:=by
 have hb:blk<w.heap.size:=by
  rcases Nat.lt_or_ge blk w.heap.size with hlt|hge
  ·exact hlt
  rw[Array.getElem?_eq_none hge] at hh;exact absurd hh (by simp)
 refine⟨putCells enc off dk c,?_,by simp[putCells]⟩
 unfold sortWorld putRow mapBlock grow
 simp only[heap_ahead]
 rw[Array.getElem?_append_left (by simpa using hb),Array.getElem?_modify,if_pos rfl,hh]
 rfl
theorem nR{K:Ker}{α:Type} [Inhabited α](enc:α→Value)(blk off m:Nat)(dk:Array α)(os:Array Obj){c:Array Value}{T:TypeId}(hh:K.w.heap[blk]?=some (.cells c T (0,0)))(hf:¬K.fro blk)(hi:K.imm blk=0):
 K.le {K with w:=sortWorld enc K.w blk off m dk os} where
 live _ hn:=hn
 mu _ _:=rfl
 tp _ _:=rfl
 fro:=rfl
 imm _ _:=Nat.le_refl _
 cell b o hb hst:=by
  have hne:b≠blk:=by
   rintro rfl
   rcases hst with h|h
   ·exact hf h
   omega
  exact dD (eO enc K.w blk off m dk os b hb hne)
 shape b hb:=by
  by_cases e:b=blk
  ·subst e
   obtain⟨c',h1,h2⟩:=lW enc K.w b off m dk os hh
   simp only[World.shape?,h1,hh,h2]
  simp only[World.shape?,eO enc K.w blk off m dk os b hb e]
 below:=⟨rfl,rfl,rfl,Nat.le_add_right _ _,kE enc K.w blk off m dk os,fun b hb hF=>eO enc K.w blk off m dk os b hb (fun e=>hF.elim (fun hF=>hf (e▸hF)) fun hm=>by subst e;unfold dO at hm;rw[hh] at hm;cases hm)⟩
theorem yZ{P:Program}{ρ:Ren}(L:SlLaysF.n6 P ρ)(hen:eJ P (ρ.f 6)=true)
 {δ:Type} (e:δ→V) (hfit:∀d,(e d).fits .leaf=true) (cf:δ→δ→Int) (hO:SWO (ltOf cf)) (g:Nat) (caps:List V) (hcmp:∀x y,bH P g ([e x,e y]++caps) Hp.none (.int .i64 (cf x y)))
 (n:Nat) (ds:List δ) (hne:ds≠ []) (h:Hp) (nx:Nat) (hn:h n=some (.arr .leaf (ds.map e))) (hlen:ds.length<4611686018427387904):
 aP P (ρ.f 6) [.rs n .leaf 0 ds.length, .fn (.func g) [] caps] h nx fun v h' nx'=>v= .tup []∧nx'=nx∧∃ds':List δ,ds'.Perm ds∧eE cf ds'∧h'=h.set n (.arr .leaf (ds'.map e)):=by
 refine⟨hen,fun K cargs hlv hr hv=>?_⟩
 obtain⟨hsz,hv⟩:=hv
 have hsz:cargs.size=2:=by simpa using hsz.symm
 obtain⟨c1,c2,rfl⟩:∃c1 c2,cargs=#[c1,c2]:=⟨cargs[0],cargs[1],by
  apply Array.ext
  ·simp[hsz]
  intro i h1 h2
  have:i=0∨i=1:=by simp at h2;omega
  rcases this with rfl|rfl<;>rfl⟩
 have v1:=hv 0 (by simp)
 have v2:=hv 1 (by simp)
 have hb:=hr.blk n _ hn
 have hfro:=hr.base n _ hn
 cases hb with
 |arr _ _ c T hh hcs himm hfit' hcv=>
  have v1:VR K (.rs n .leaf 0 ds.length) c1:=v1
  have v2:VR K (.fn (.func g) [] caps) c2:=v2
  cases v1 with
  |rs _ _ _ _ cap hl hcap hm=>
   cases v2 with
   |fn _ _ _ cfirst ccap q1 q2 w1 w2=>
    have hcf:cfirst=#[]:=by
     have:cfirst.size=0:=by simpa using q1.symm
     exact Array.eq_empty_of_size_eq_zero this
    subst hcf
    have hcs:ds.length≤c.size:=by simpa [Sh.size] using hcs
    have hblk:K.mu n<K.w.heap.size:=by
     rcases Nat.lt_or_ge (K.mu n) K.w.heap.size with hlt|hge
     ·exact hlt
     rw[Array.getElem?_eq_none hge] at hh;exact absurd hh (by simp)
    let A:={p:δ×Value // VR K (e p.1) p.2}
    have hcell:∀i (hi:i<ds.length),VR K (e ds[i]) (c.getD i Go.undef):=fun i hi=>by
     have h1:=hcv i (by simpa using hi) 0 (by simp[Sh.size])
     simp only[List.getD_eq_getElem?_getD,List.getElem?_map,List.getElem?_eq_getElem hi,Option.map_some,Option.getD_some,Sh.size,Nat.mul_one,Nat.add_zero] at h1
     rwa [eW (by simpa [V.fits] using hfit ds[i])] at h1
    have hpos:0<ds.length:=List.length_pos_iff.2 hne
    haveI:Inhabited A:=⟨⟨(ds[0],c.getD 0 Go.undef),hcell 0 hpos⟩⟩
    let d:Array A:=Array.ofFn fun i:Fin ds.length=>(⟨(ds[i],c.getD i Go.undef),hcell i i.2⟩:A)
    have hds:d.size=ds.length:=by simp[d]
    have hd:∀i (hi:i<ds.length),d[i]! =(⟨(ds[i],c.getD i Go.undef),hcell i hi⟩:A):=fun i hi=>by
     rw[getElem!_pos d i (by rw[hds];exact hi)]
     simp[d]
    let enc:A→Value:=fun p=>p.1.2
    have h1:OneCell enc:=fun x=>x.2.oneCell (by simpa [V.fits] using hfit x.1.1)
    have hH:Holds enc K.w (K.mu n) 0 d:=by
     intro j hj
     rw[hds] at hj
     constructor
     ·rw[hd _ hj]
      simp only[World.cell?,hh,Nat.zero_add,enc,Option.isSome_none,Bool.false_eq_true,if_false]
      rw[Array.getD_eq_getD_getElem?,Array.getElem?_eq_getElem (by omega)]
      rfl
     simp only[World.frozen?,hh]
     simp
    have hC:CmpLays1 P g ccap enc (fun x y:A=>cf x.1.1 y.1.1) (K.mu n) 0 d.size K.w:=by
     intro m os dk _ x y
     have hle:=nR enc (K.mu n) 0 m dk os hh hfro himm
     generalize hW:sortWorld enc K.w (K.mu n) 0 m dk os=W at hle⊢
     have hp:=(hcmp x.1.1 y.1.1) Hp.none nx (aV _)
     have up:∀{v cv},VR K v cv→VR {K with w:=W,fro:=fun b=>b<W.heap.size} v cv:=fun r=>VR.refro (K:={K with w:=W}) (fun b hb=>Nat.lt_of_lt_of_le (hr.size b hb) (by rw[←hW];exact kE enc K.w _ _ m dk os)) (r.mono hle)
     have c:=hp.2 {K with w:=W,fro:=fun b=>b<W.heap.size} (#[enc x,enc y]++ccap) hlv ⟨(fun n b e=>by cases e),(fun n b e=>by cases e),(fun n b e=>by cases e),(fun n n' b b' e=>by cases e),(fun b hb=>hb)⟩
      ((show VRs _ [e x.1.1,e y.1.1] #[enc x,enc y] from⟨rfl,fun i hi=>by
        have:i=0∨i=1:=by simp at hi;omega
        rcases this with rfl|rfl
        ·exact up x.2
        exact up y.2⟩).append ⟨q2,fun i hi=>up (w2 i hi)⟩)
     refine c.mono ?_
     rintro e' w' ⟨K',v,cv,h',nx',rfl,rfl,a1,a2,a3,a4,a5,rfl,rfl,rfl⟩
     cases a2
     exact⟨rfl,tX a1.below⟩
    have key:=Any.slices_SortFunc L enc h1 (fun x y:A=>cf x.1.1 y.1.1) (qG (fun x:A=>x.1.1) hO) g ccap (K.mu n) 0 cap d K.w (fun args w=>eH (hcmp ds[0] ds[0] Hp.none 0 (aV _)).1 args w) hC hH hblk (by rw[hds];exact hlen)
    rw[hds] at key
    have e0:(0:Nat)*Sh.leaf.size=0:=Nat.zero_mul _
    rw[e0]
    refine key.mono ?_
    rintro e' w' ⟨rfl,d',m,os,hp,hs,rfl⟩
    obtain⟨hp1,_,hp3⟩:=hp
    have hp1:d'.size=ds.length:=by rw[hp1,hds]
    have hle:=nR enc (K.mu n) 0 m d' os hh hfro himm
    have hH':=holds_sortWorld enc K.w (K.mu n) 0 m d d' os hblk hH (by rw[hp1,hds])
    obtain⟨c',hh',hcz⟩:=lW enc K.w (K.mu n) 0 m d' os hh
    refine⟨{K with w:=sortWorld enc K.w (K.mu n) 0 m d' os}, .tup [], .tuple #[],h.set n (.arr .leaf ((d'.toList.map fun x=>x.1.1).map e)),nx,rfl,rfl,hle, .tup [] #[] rfl (fun i hi=>absurd hi (by simp)),?_,fun m hm=>⟨hlv m hm, .inl hm⟩,Nat.le_refl _,rfl,rfl,_,?_,?_,rfl⟩
    ·have live':∀m b,(h.set n (.arr .leaf ((d'.toList.map fun x=>x.1.1).map e))) m=some b→∃b',h m=some b':=fun m' b' e'=>by
      unfold Hp.set at e'
      split at e'
      ·rename_i em;subst em;exact⟨_,hn⟩
      exact⟨_,e'⟩
     refine⟨fun m' b' e'=>?_,fun m' b' e'=>?_,fun m' b' e'=>?_,fun m1 m2 b1 b2 e1 e2 em=>?_,fun b' hb'=>Nat.lt_of_lt_of_le (hr.size b' hb') hle.below.size⟩
     ·obtain⟨b2,e2⟩:=live' m' b' e';exact hr.lt m' b2 e2
     ·obtain⟨b2,e2⟩:=live' m' b' e';exact hr.base m' b2 e2
     ·by_cases em:m'=n
      ·subst em
       have eb:b'= .arr .leaf ((d'.toList.map fun x=>x.1.1).map e):=by simpa [Hp.set] using e'.symm
       subst eb
       refine .arr _ _ c' T hh' (by
        have e0:((d'.toList.map fun x=>x.1.1).map e).length=ds.length:=by
         simp only[List.length_map,Array.length_toList];omega
        rw[hcz,e0];simpa [Sh.size] using hcs) himm (fun v hv=>?_) fun i hi j hj=>?_
       ·obtain⟨x,_,rfl⟩:=List.mem_map.1 hv
        exact hfit x
       have hi:i<d'.size:=by simpa using hi
       have hj:j=0:=by simp[Sh.size] at hj;exact hj
       subst hj
       obtain⟨g1,_⟩:=hH' i hi
       simp only[World.cell?,hh',Option.isSome_none,Bool.false_eq_true,if_false,Nat.zero_add] at g1
       have:=(d'[i]!).2.mono hle
       have e1:(((d'.toList.map fun x=>x.1.1).map e).getD i V.undef)=e (d'[i]!).1.1:=by
        rw[getElem!_pos d' i hi]
        simp[List.getD_eq_getElem?_getD,hi]
       rw[e1,eW (by simpa [V.fits] using hfit _)]
       have e2:c'.getD (i*Sh.leaf.size+0) Go.undef=(d'[i]!).1.2:=by
        show c'.getD (i*1+0) Go.undef=_
        rw[Nat.mul_one,Nat.add_zero,Array.getD_eq_getD_getElem?,g1]
        rfl
       rw[e2]
       exact this
      have e2:h m'=some b':=by unfold Hp.set at e';rw[if_neg em] at e';exact e'
      have hne:K.mu m'≠K.mu n:=fun e3=>em (hr.inj m' n _ _ e2 hn e3)
      exact(hr.blk m' b' e2).mono hle (hr.lt m' b' e2) (eO enc K.w (K.mu n) 0 m d' os _ (hr.blk m' b' e2).lt_size hne) rfl
     obtain⟨b3,e3⟩:=live' m1 b1 e1
     obtain⟨b4,e4⟩:=live' m2 b2 e2
     exact hr.inj m1 m2 b3 b4 e3 e4 em
    ·have p:=hp3.map fun x:A=>x.1.1
     have ex:∀(x:Array A),x.size=ds.length→x.extract 0 ds.length=x:=fun x hx=>by rw[←hx];simp
     rw[ex d' hp1,ex d hds] at p
     have:d.toList.map (fun x:A=>x.1.1)=ds:=by
      apply List.ext_getElem
      ·simp[hds]
      intro i h1 h2
      simp[d]
     rw[this] at p
     exact p
    unfold eE
    rw[List.pairwise_map,List.pairwise_iff_getElem]
    intro i j hi hj hij
    have:=hs i j (Nat.zero_le _) hij (by simpa [hp1] using hj)
    rw[getElem!_pos d' i (by simpa using hi),getElem!_pos d' j (by simpa using hj)] at this
    simpa [ltOf] using this
end Go.Proofs.YtemjhgboialjpaaGreat
namespace Go.Proofs.YtemjhgboialjpaaGreat
open Go.RowKit
variable{P:Program}{K:Ker}{h:Hp}{k:Sh}
def iO(es:List V)(o:Nat)(ys:List V):List V:=es.take o++ys++es.drop (o+ys.length)
theorem sE{es ys:List V}{o:Nat}(hle:o+ys.length≤es.length):(iO es o ys).length=es.length:=by simp[iO];omega
theorem aCS{es ys:List V}{o:Nat}(hle:o+ys.length≤es.length)(q:Nat):(iO es o ys).getD q V.undef=if q<o then es.getD q V.undef else if q<o+ys.length then ys.getD (q-o) V.undef else es.getD q V.undef:=by
 simp only[iO,List.getD_eq_getElem?_getD,List.append_assoc]
 have htk:(es.take o).length=o:=by simp;omega
 by_cases e1:q<o
 ·rw[if_pos e1,List.getElem?_append_left (by rw[htk];exact e1),List.getElem?_take,if_pos e1]
 rw[if_neg e1,List.getElem?_append_right (by rw[htk];omega),htk]
 by_cases e2:q<o+ys.length
 ·rw[if_pos e2,List.getElem?_append_left (by omega)]
 rw[if_neg e2,List.getElem?_append_right (by omega),List.getElem?_drop]
 have:o+ys.length+(q-o-ys.length)=q:=by omega
 rw[this]
def jR(K:Ker)(k:Sh)(ys:List V)(cs:List Value):Prop:=cs.length=ys.length*k.size∧(∀y∈ys,y.fits k=true)∧∀i,i<ys.length→∀j,j<k.size→VR K ((ys.getD i V.undef).cell j) (cs.getD (i*k.size+j) Go.undef)
theorem jR.one{ys:List V}{cs:List Value}(c:jR K k ys cs):∀u∈cs,u.oneCell'=true:=by
 obtain⟨hcl,hfy,hv⟩:=c
 intro u hu
 obtain⟨q,hq,rfl⟩:=List.getElem_of_mem hu
 rw[hcl] at hq
 obtain⟨d1,d2,d3⟩:=lO hq
 have h1:=hv _ d1 _ d2
 rw[d3,List.getD_eq_getElem?_getD (l:=cs),List.getElem?_eq_getElem (by rw[hcl];exact hq)] at h1
 have hm:ys.getD (q / k.size) V.undef∈ys:=by rw[List.getD_eq_getElem?_getD,List.getElem?_eq_getElem d1];exact List.getElem_mem _
 have h2:=hfy _ hm
 refine VR.oneCell h1 ?_
 cases k with
 |leaf=>
  have hz:q % Sh.leaf.size=0:=by simp[Sh.size,Nat.mod_one]
  rw[hz]
  rw[V.fits] at h2
  generalize ys.getD (q / Sh.leaf.size) V.undef=y at h2
  cases y<;>first|rfl|(simp[V.leafy] at h2)
 |agg n=>
  generalize ys.getD (q / (Sh.agg n).size) V.undef=y at h2
  cases y with
  |agg cs2=>
   simp only[V.fits,Bool.and_eq_true,decide_eq_true_eq,List.all_eq_true] at h2
   show(cs2.getD _ V.undef).leafy=true
   have hlt:q % (Sh.agg n).size<cs2.length:=by rw[h2.1];exact d2
   rw[List.getD_eq_getElem?_getD,List.getElem?_eq_getElem hlt]
   exact h2.2 _ (List.getElem_mem _)
  |_=>simp[V.fits] at h2
theorem jR.mono{K K':Ker}(hle:K.le K'){ys:List V}{cs:List Value}(c:jR K k ys cs):jR K' k ys cs:=⟨c.1,c.2.1,fun i hi j hj=>(c.2.2 i hi j hj).mono hle⟩
theorem iA(hr:Rel K h){n o:Nat}{es ys:List V}(hn:h n=some (.arr k es))(hle:o+ys.length≤es.length){cs:List Value}(c:jR K k ys cs):
 ∃K',(storeCells ⟨K.mu n,o*k.size,none⟩ cs 0).run P K.w= .ok () K'.w∧K.le K'∧K'.live=K.live∧K'.mu=K.mu∧(∀b,K'.w.shape? b=K.w.shape? b)∧Rel K' (h.set n (.arr k (iO es o ys))):=by
 have hone:=c.one
 obtain⟨hcl,hfy,hv⟩:=c
 have hbr:=hr.blk n _ hn
 cases hbr with
 |arr _ _ c T hh hcs himm hfit hvs=>
  have hend:o*k.size+ys.length*k.size≤es.length*k.size:=by rw[←Nat.add_mul];exact Nat.mul_le_mul_right _ hle
  have hst:=run_storeCells_at P (K.mu n) (o*k.size) T cs 0 c K.w hh (by rw[hcl];omega) hone
  simp only[Nat.add_zero,hcl] at hst
  generalize hc':(c.toList.take (o*k.size)++cs++c.toList.drop (o*k.size+ys.length*k.size)).toArray=c' at hst
  have hcsz:c'.size=c.size:=by rw[←hc'];simp only[List.size_toArray,List.length_append,List.length_take,List.length_drop,Array.length_toList,hcl];omega
  have hle1:=K.le_row (K.mu n) c' c T hh hcsz (hr.base n _ hn) (fun o ho=>by rw[himm] at ho;omega)
  have hlen:=sE hle
  refine⟨K.row (K.mu n) c',hst,hle1,rfl,rfl,fun b=>nF K.w _ c' c T (0,0) hh hcsz b,?_⟩
  refine hr.row hn c' c T hh hcsz (fun o ho=>by rw[himm] at ho;omega) (.arr k _ c' T ?_ (by rw[hlen,hcsz];exact hcs) himm ?_ ?_)
  ·show(K.w.setRow (K.mu n) c').heap[K.mu n]?=_
   exact setRow_heap K.w (K.mu n) c c' T (0,0) hh
  ·intro x hx
   rcases List.mem_append.1 hx with hx|hx
   ·rcases List.mem_append.1 hx with hx|hx
    ·exact hfit x (List.mem_of_mem_take hx)
    exact hfy x hx
   exact hfit x (List.mem_of_mem_drop hx)
  intro q hq j hj
  rw[hlen] at hq
  have hidx:=bX hj hq
  have hget:c'[q*k.size+j]?=if q<o then c[q*k.size+j]? else if q<o+ys.length then cs[(q-o)*k.size+j]? else c[q*k.size+j]?:=by
   rw[←hc']
   simp only[List.getElem?_toArray,List.append_assoc]
   by_cases e1:q<o
   ·have h1:=bX hj e1
    rw[if_pos e1,List.getElem?_append_left (by simp;omega),List.getElem?_take,if_pos h1]
    simp
   rw[if_neg e1]
   have h1:o*k.size≤q*k.size:=Nat.mul_le_mul_right _ (by omega)
   have hsub:q*k.size-o*k.size=(q-o)*k.size:=(Nat.sub_mul _ _ _).symm
   have htk:(c.toList.take (o*k.size)).length=o*k.size:=by simp;omega
   rw[List.getElem?_append_right (by rw[htk];omega),htk]
   by_cases e2:q<o+ys.length
   ·have h2:=bX (k:=k.size) (i:=q-o) (n:=ys.length) hj (by omega)
    rw[if_pos e2,List.getElem?_append_left (by rw[hcl];omega)]
    have:q*k.size+j-o*k.size=(q-o)*k.size+j:=by omega
    rw[this]
   have h2:(o+ys.length)*k.size≤q*k.size:=Nat.mul_le_mul_right _ (by omega)
   rw[Nat.add_mul] at h2
   rw[if_neg e2,List.getElem?_append_right (by rw[hcl];omega),hcl,List.getElem?_drop]
   have:o*k.size+ys.length*k.size+(q*k.size+j-o*k.size-ys.length*k.size)=q*k.size+j:=by omega
   rw[this]
   simp
  rw[aCS hle,Array.getD_eq_getD_getElem?,hget]
  by_cases e1:q<o
  ·rw[if_pos e1,if_pos e1,←Array.getD_eq_getD_getElem?]
   exact(hvs q hq j hj).mono hle1
  rw[if_neg e1,if_neg e1]
  by_cases e2:q<o+ys.length
  ·rw[if_pos e2,if_pos e2,←List.getD_eq_getElem?_getD]
   exact(hv _ (by omega) j hj).mono hle1
  rw[if_neg e2,if_neg e2,←Array.getD_eq_getD_getElem?]
  exact(hvs q hq j hj).mono hle1
theorem lR(hr:Rel K h){n o m:Nat}{es:List V}(hn:h n=some (.arr k es))(hle:o+m≤es.length):
 ∃cs,jR K k ((es.drop o).take m) cs∧cs.length=m*k.size∧∀j u,cs[j]?=some u→K.w.cell? ⟨K.mu n,o*k.size+j,none⟩=some u:=by
 have hbr:=hr.blk n _ hn
 cases hbr with
 |arr _ _ c T hh hcs himm hfit hvs=>
  have hend:o*k.size+m*k.size≤es.length*k.size:=by rw[←Nat.add_mul];exact Nat.mul_le_mul_right _ hle
  have hml:((es.drop o).take m).length=m:=by simp;omega
  refine⟨(List.range (m*k.size)).map fun j=>c.getD (o*k.size+j) Go.undef,⟨by rw[hml];simp,fun y hy=>hfit y (List.mem_of_mem_drop (List.mem_of_mem_take hy)),fun i hi j hj=>?_⟩,by simp,fun j u hu=>?_⟩
  ·rw[hml] at hi
   have h1:=bX hj hi
   have h2:=hvs (o+i) (by omega) j hj
   have e1:((es.drop o).take m).getD i V.undef=es.getD (o+i) V.undef:=by rw[List.getD_eq_getElem?_getD,List.getD_eq_getElem?_getD,List.getElem?_take_of_lt hi,List.getElem?_drop]
   have e2:((List.range (m*k.size)).map fun j=>c.getD (o*k.size+j) Go.undef).getD (i*k.size+j) Go.undef=c.getD ((o+i)*k.size+j) Go.undef:=by
    rw[List.getD_eq_getElem?_getD,List.getElem?_map,List.getElem?_range h1,Nat.add_mul,Nat.add_assoc]
    rfl
   rw[e1,e2];exact h2
  rw[List.getElem?_map] at hu
  have hj:j<m*k.size:=by
   rcases Nat.lt_or_ge j (m*k.size) with h|h
   ·exact h
   rw[List.getElem?_eq_none (by simpa using h)] at hu;cases hu
  rw[List.getElem?_range hj] at hu
  have hu:c.getD (o*k.size+j) Go.undef=u:=by simpa using hu
  simp only[World.cell?,hh,Option.isSome_none,Bool.false_eq_true,if_false]
  rw[←hu,Array.getD_eq_getD_getElem?,Array.getElem?_eq_getElem (by omega)]
  rfl
theorem qI(w:World)(dT sT ty elem:TypeId)(i:TypeInfo)(b o dLen dCap:Nat)(a:Addr)(sLen sCap m:Nat)(cs:List Value){w':World}
 (hu:P.underlying dT=some (.slice elem)) (hi:P.info? elem=some i) (hm:m=Nat.min sLen dLen) (hn:cs.length=m*i.size)
 (hsrc:∀j v,cs[j]?=some v→w.cell? (a.add j)=some v) (hst:(storeCells ⟨b,o,none⟩ cs 0).run P w= .ok () w'):
 (Builtin.copy_ #[dT,sT] ty #[.slice (some ⟨b,o,none⟩) dLen dCap, .slice (some a) sLen sCap]).run P w= .ok (goInt m) w':=by
 have hl:=run_firstCells_some (P:=P) w i.size m a sLen sCap cs hn hsrc
 simp[Builtin.copy_,run_underlying hu,Builtin.lenOf,sizeOf,typeInfo,hi,←hm,hl,hst]
theorem nK(w:World)(t t' ty e e':TypeId)(i:TypeInfo)(b o n cap:Nat)(a:Addr)(m c:Nat)(cs:List Value){w':World}
 (hu:P.underlying t=some (.slice e)) (hu':P.underlying t'=some (.slice e')) (hi:P.info? e=some i) (hn:cs.length=m*i.size) (hroom:n+m≤cap)
 (hsrc:∀j v,cs[j]?=some v→w.cell? (a.add j)=some v) (hst:(storeCells ⟨b,o+n*i.size,none⟩ cs 0).run P w= .ok () w'):
 (Builtin.append_ #[t,t'] ty #[.slice (some ⟨b,o,none⟩) n cap, .slice (some a) m c]).run P w= .ok (.slice (some ⟨b,o,none⟩) (n+m) cap) w':=by
 have hl:=run_firstCells_some (P:=P) w i.size m a m c cs hn hsrc
 simp[Builtin.append_,run_underlying hu,run_underlying hu',sizeOf,typeInfo,hi,Builtin.lenOf,hroom,hl,Addr.add_lit,hst]
theorem nC{ops:Array Oper}{o:Oper}{a:Act}{w:World}{K:Act→World→Prop}{Q:Exit→Act→World→Prop}{E:Prop}(bi:Builtin)
 (hg:o.guard=none) (xs:Array Operand) (ts:Array TypeId) (hop:o.op=Op.call {callee:=Callee.builtin bi,args:=xs,argTypes:=ts})
 (F:Sem Value) (hF:∀cs,builtin bi ts o.type cs (xs.map a.eval)=(do pure (.value (←F)))) {v':Value} {w':World} (hr:F.run P w= .ok v' w') (hK:K (a.put o.dst v') w'):
 if Region.wanted o (yielded ops a.tmps)=true then Oper.wp P o a w K Q else E:=by
 have hw:Region.wanted o (yielded ops a.tmps)=true:=by simp[Region.wanted,hg]
 rw[if_pos hw]
 unfold Oper.wp
 simp[execOp,hop,resolve,invoke,hF,hr,Result.andThen]
 exact hK
theorem kA{ops:Array Oper}{rest:List Oper}{o:Oper}{a:Act}{w:World}{Q:Exit→Act→World→Prop}(bi:Builtin)
 (hg:o.guard=none) (xs:Array Operand) (ts:Array TypeId) (hop:o.op=Op.call {callee:=Callee.builtin bi,args:=xs,argTypes:=ts})
 (F:Sem Value) (hF:∀cs,builtin bi ts o.type cs (xs.map a.eval)=(do pure (.value (←F)))) {v':Value} {w':World} (hr:F.run P w= .ok v' w') (hK:wpList P ops Q rest (a.put o.dst v') w'):wpList P ops Q (o::rest) a w:=
 wpList_plain hg fun _ hk=>by
  unfold Oper.wp
  simp[execOp,hop,resolve,invoke,hF,hr,Result.andThen]
  exact hk _ _ hK
end Go.Proofs.YtemjhgboialjpaaGreat
namespace Go.Proofs.YtemjhgboialjpaaGreat
open Go.RowKit Go.Shelf Go.Lib Go.Sort
def gQ(w w':World):Prop:=Below w.heap.size w w'∧w.drawn≤w'.drawn
theorem gQ.trans{a b c:World}(h:gQ a b)(k:gQ b c):gQ a c:=⟨h.1.trans (k.1.mono h.1.size),Nat.le_trans h.2 k.2⟩
set_option maxHeartbeats 2000000 in
set_option maxRecDepth 1000000 in
theorem rK(g:Nat)(lb:Array Value)(eg:∀args w,(callFunc g args).run Tryz.prog w= .ok (.enter g args) w)(p:Nat→Bool)(s:ByteArray)(w:World)
 (hp:∀(W:World) (x:Nat),x≤1114111→gQ w W→Calls Tryz.prog g (#[.int .i32 x]++lb) W fun e w'=>e= .returned (.bool (p x))∧gQ W w'):
 Calls Tryz.prog 265 #[.string s, .func (.func g) #[] lb, .bool true] w fun e w'=>e= .returned (.int .i64 (Lib.idxFunc p true s))∧gQ w w':=by
 have mixed:Tryz.prog.follows .mixedOrders=true:=by kernel_rfl
 go_enter Tryz.func265,Tryz.ntmps265
 go_wp2
 go_loopg [] s.size (fun gf wx=>∃pos:Nat,wx.heap[w.heap.size]?=some (.stringIter s pos)∧gQ w wx∧Lib.idxFuncFrom p true s gf pos=Lib.idxFunc p true s∧s.size≤pos+gf)
 case atStart=>exact⟨0,World.iter_heap w s 0,⟨(Below.refl _ w).alloc (Nat.le_refl _) _,Nat.le_refl _⟩,rfl,by omega⟩
 case round=>
  obtain⟨pos,hit,hbw,hleft,hfu⟩:=hrel
  by_cases hps:pos<s.size
  ·obtain⟨g',rfl⟩:∃g',gk=g'+1:=⟨gk-1,by omega⟩
   have hnx:∀ty,(Instr.next (.pointer (some ⟨w.heap.size,0,none⟩)) true ty).run Tryz.prog wr=_:=fun ty=>Lib.run_next_any_at wr w.heap.size s pos ty hit hps
   have hwd:=Lib.width_pos s pos
   obtain⟨R,hR⟩:∃R,(Utf8.decode s pos).1=R:=⟨_,rfl⟩
   obtain⟨K,hK⟩:∃K,(Utf8.decode s pos).2=K:=⟨_,rfl⟩
   simp only[Lib.idxFuncFrom,hps,if_true,hR,hK] at hleft
   rw[hR,hK] at hnx
   rw[hK] at hwd
   have hit2:=Lib.iterAt_heap wr w.heap.size s pos (pos+K) hit
   have hbw2:gQ w (wr.iterAt w.heap.size s (pos+K)):=⟨Lib.below_iterAt hbw.1 (k:=w.heap.size) (Nat.le_refl _) s (pos+K),hbw.2⟩
   obtain⟨W,hWd⟩:∃W,wr.iterAt w.heap.size s (pos+K)=W:=⟨_,rfl⟩
   rw[hWd] at hnx hit2 hbw2
   have hltW:w.heap.size<W.heap.size:=(Array.getElem?_eq_some_iff.1 hit2).1
   have cS:Calls Tryz.prog g (#[.int .i32 (R:Int)]++lb) W _:=hp W R (by rw[←hR];exact Lib.rune_le s pos) hbw2
   clear hp
   cases hsp:p R<;>rw[hsp] at cS<;>simp only[hsp,if_true,Bool.false_eq_true,if_false] at hleft
   ·go_wp2_with (go_at_fn g;refine cS.mono ?_;rintro e W' ⟨rfl,hbc⟩)
    go_roundg g'
    case measure=>omega
    case rel=>exact⟨pos+K,(hbc.1.block _ hltW).trans hit2,hbw2.trans hbc,hleft,by omega⟩
   go_wp2_with (go_at_fn g;refine cS.mono ?_;rintro e W' ⟨rfl,hbc⟩)
   go_ret
   exact⟨by rw[←hleft]<;>rfl,hbw2.trans hbc⟩
  have hnx:∀ty,(Instr.next (.pointer (some ⟨w.heap.size,0,none⟩)) true ty).run Tryz.prog wr=_:=fun ty=>Lib.run_next_end_at wr w.heap.size s pos ty hit hps
  rw[Lib.idxFuncFrom_end p true s gk pos hps] at hleft
  go_wp2
  go_ret
  exact⟨by rw[←hleft]<;>rfl,hbw⟩
set_option maxHeartbeats 1000000 in
theorem oB(g:Nat)(lb:Array Value)(eg:∀args w,(callFunc g args).run Tryz.prog w= .ok (.enter g args) w)(p:Nat→Bool)(s:ByteArray)(w:World)
 (hp:∀(W:World) (x:Nat),x≤1114111→gQ w W→Calls Tryz.prog g (#[.int .i32 x]++lb) W fun e w'=>e= .returned (.bool (p x))∧gQ W w'):
 Calls Tryz.prog 207 #[.string s, .func (.func g) #[] lb] w fun e w'=>e= .returned (.bool (decide (0≤Lib.idxFunc p true s)))∧gQ w w':=by
 have mixed:Tryz.prog.follows .mixedOrders=true:=by kernel_rfl
 have cI:=rK g lb eg p s w hp
 have e1:∀args w,(callFunc 265 args).run Tryz.prog w= .ok (.enter 265 args) w:=enters_of Tryz.func265 (by kernel_rfl) rfl
 have cJ:Calls Tryz.prog 237 #[.string s, .func (.func g) #[] lb] w fun e w'=>e= .returned (.int .i64 (Lib.idxFunc p true s))∧gQ w w':=by
  go_enter Tryz.func237,Tryz.ntmps237
  go_wp2_with (go_at_fn 265;refine cI.mono ?_;rintro e w' ⟨rfl,hb⟩)
  go_ret
  exact⟨rfl,hb⟩
 have e2:∀args w,(callFunc 237 args).run Tryz.prog w= .ok (.enter 237 args) w:=enters_of Tryz.func237 (by kernel_rfl) rfl
 clear cI e1
 obtain⟨I,hI⟩:∃I,Lib.idxFunc p true s=I:=⟨_,rfl⟩
 rw[hI] at cJ⊢
 go_enter Tryz.func207,Tryz.ntmps207
 go_wp2_with (go_at_fn 237;refine cJ.mono ?_;rintro e w' ⟨rfl,hb⟩)
 go_ret
 exact⟨rfl,hb⟩
theorem rH{K:Ker}{W:World}(hb:gQ K.w W):K.le {K with w:=W} where
 live _ hn:=hn
 mu _ _:=rfl
 tp _ _:=rfl
 fro:=rfl
 imm _ _:=Nat.le_refl _
 cell b o hb' _:=dD (hb.1.block b hb')
 shape b hb':=fK (hb.1.block b hb')
 below:=⟨hb.1.os,hb.1.tape,hb.1.output,hb.2,hb.1.size,fun b hb' _=>hb.1.block b hb'⟩
theorem Rel.later{K:Ker}{h:Hp}(hr:Rel K h){W:World}(hb:gQ K.w W):Rel {K with w:=W} h:=
 ⟨hr.lt,hr.base,fun n b e=>(hr.blk n b e).mono (rH hb) (hr.lt n b e) (hb.1.block _ (hr.blk n b e).lt_size) rfl,hr.inj,fun b hf=>Nat.lt_of_lt_of_le (hr.size b hf) hb.1.size⟩
theorem pB(p:Nat→Bool)(g:Nat)(caps:List V)(hp:∀x:Nat,x≤1114111→bH Tryz.prog g ([.int .i32 x]++caps) Hp.none (.bool (p x)))(s:ByteArray)(h:Hp):bH Tryz.prog 207 [.str s, .fn (.func g) [] caps] h (.bool (decide (0≤Lib.idxFunc p true s))):=by
 refine aT (fun L=>trivial) fun h' nx hh=>⟨by kernel_rfl,fun K cargs hlv hr hv=>?_⟩
 obtain⟨hsz,hv⟩:=hv
 have hsz:cargs.size=2:=by simpa using hsz.symm
 obtain⟨c1,c2,rfl⟩:∃c1 c2,cargs=#[c1,c2]:=⟨cargs[0],cargs[1],by
  apply Array.ext
  ·simp[hsz]
  intro i h1 h2
  have:i=0∨i=1:=by simp at h2;omega
  rcases this with rfl|rfl<;>rfl⟩
 have v1:VR K (.str s) c1:=hv 0 (by simp)
 have v2:VR K (.fn (.func g) [] caps) c2:=hv 1 (by simp)
 cases v1
 cases v2 with
 |fn _ _ _ cfirst ccap q1 q2 w1 w2=>
  have hcf:cfirst=#[]:=by
   have:cfirst.size=0:=by simpa using q1.symm
   exact Array.eq_empty_of_size_eq_zero this
  subst hcf
  have hen:=(hp 0 (by omega) Hp.none 0 (aV _)).1
  refine(oB g ccap (fun args w=>eH hen args w) p s K.w fun W x hx hb=>?_).mono ?_
  ·have hle:=rH hb
   have c:=(hp x hx Hp.none nx (aV _)).2 {K with w:=W,fro:=fun b=>b<W.heap.size} (#[.int .i32 x]++ccap) hlv ⟨(fun n b e=>by cases e),(fun n b e=>by cases e),(fun n b e=>by cases e),(fun n n' b b' e=>by cases e),(fun b hb=>hb)⟩
    ((show VRs _ [.int .i32 x] #[.int .i32 x] from⟨rfl,fun i hi=>by
      have:i=0:=by simpa using hi
      subst this
      exact .int _ _⟩).append ⟨q2,fun i hi=>VR.refro (K:={K with w:=W}) (fun b hb'=>Nat.lt_of_lt_of_le (hr.size b hb') hb.1.size) ((w2 i hi).mono hle)⟩)
   refine c.mono ?_
   rintro e' w' ⟨K',v,cv,h',nx',rfl,rfl,a1,a2,a3,a4,a5,rfl,rfl,rfl⟩
   cases a2
   obtain⟨k1,k2,k3,k4,k5,k6⟩:=a1.below
   exact⟨rfl,⟨k1,k2,k3,k5,fun b hb=>k6 b hb (.inl hb)⟩,k4⟩
  rintro e w' ⟨rfl,hb⟩
  exact⟨{K with w:=w'},_,_,h',nx,rfl,rfl,rH hb, .bool _,hr.later hb,fun m hm=>⟨hlv m hm, .inl hm⟩,Nat.le_refl _,rfl,rfl⟩
theorem aDy:∃i,Tryz.prog.info? 109=some i∧i.size=3∧i.zero=some (.agg #[.int .i64 0, .int .i64 0, .string ⟨#[]⟩]):=by
 have h1:(Tryz.prog.info? 109).map (·.size)=some 3:=by kernel_rfl
 have h2:(Tryz.prog.info? 109).bind (·.zero)=some (.agg #[.int .i64 0, .int .i64 0, .string ⟨#[]⟩]):=by kernel_rfl
 obtain⟨i,hi,h3⟩:=Option.map_eq_some_iff.1 h1
 rw[hi] at h2
 exact⟨i,hi,h3,h2⟩
def zvl:V:=(⟨0,0,⟨#[]⟩⟩:Vl).v
theorem aDE(K:Ker):VR K zvl (.agg #[.int .i64 0, .int .i64 0, .string ⟨#[]⟩]):=by
 refine .agg _ _ rfl fun i hi=>?_
 have:i=0∨i=1∨i=2:=by simp at hi;omega
 rcases this with rfl|rfl|rfl
 ·exact .int _ _
 ·exact .int _ _
 exact .str _
set_option maxHeartbeats 4000000 in
set_option maxRecDepth 1000000 in
theorem aCM(b L cap i j:Nat)(hij:j=i+1)(hj:j≤L)(hcap:L≤cap)(w w1 w2:World)
 (hap:∀(ty:TypeId) (A:Addr) (c:Nat),A=⟨b,j*3,none⟩∨L=j→(Builtin.append_ #[106,106] ty #[.slice (some ⟨b,0,none⟩) i cap, .slice (some A) (L-j) c]).run Tryz.prog w.drew= .ok (.slice (some ⟨b,0,none⟩) (i+(L-j)) cap) w1)
 (hcl:∀ty,(Builtin.clear_ #[106] ty #[.slice (some ⟨b,(i+(L-j))*3,none⟩) (L-(i+(L-j))) (cap-(i+(L-j)))]).run Tryz.prog w1= .ok (.tuple #[]) w2):
 Calls Tryz.prog 111 #[.slice (some ⟨b,0,none⟩) L cap, .int .i64 i, .int .i64 j] w fun e w'=>e= .returned (.slice (some ⟨b,0,none⟩) (i+(L-j)) cap)∧w'=w2:=by
 have hne:¬(i:Int)=(j:Int):=by omega
 have hic:i≤cap:=by omega
 have hjc:j≤cap:=by omega
 obtain⟨A,hA,hap⟩:∃A:Addr,(if cap=j then some (⟨b,0,none⟩:Addr) else some ⟨b,j*3,none⟩)=some A∧Hid (∀(ty:TypeId) (c:Nat),(Builtin.append_ #[106,106] ty #[.slice (some ⟨b,0,none⟩) i cap, .slice (some A) (L-j) c]).run Tryz.prog w.drew= .ok (.slice (some ⟨b,0,none⟩) (i+(L-j)) cap) w1):=by
  by_cases h:cap=j
  ·exact⟨⟨b,0,none⟩,by simp[h],fun ty c=>hap ty _ c (.inr (by omega))⟩
  exact⟨⟨b,j*3,none⟩,by simp[h],fun ty c=>hap ty _ c (.inl rfl)⟩
 have mixed:Tryz.prog.follows .mixedOrders=true:=by kernel_rfl
 have hle:i≤j:=by omega
 have hlt:i<L:=by omega
 have hLi:¬L=i:=by omega
 have hci:¬cap=i:=by omega
 have hcm:¬cap=i+(L-j):=by omega
 have hml:i+(L-j)≤L:=by omega
 clear hij
 go_enter Tryz.func111,Tryz.ntmps111
 go_wp2_with fail
 go_region_law_o (refine nC .append rfl #[.tmp 22, .tmp 25] _ rfl _ (fun _=>rfl) (by simpa [Act.eval,Act.put] using hap.out _ _) ?_)
 go_wp2
 go_ret
 exact⟨rfl,rfl⟩
theorem vL(h:Hp)(n:Nat)(a b:Blk):(h.set n a).set n b=h.set n b:=by
 funext x;unfold Hp.set;split<;>rfl
theorem qF{K:Ker}{a b c:V}{cargs:Array Value}(hv:VRs K [a,b,c] cargs):∃x y z,cargs=#[x,y,z]∧VR K a x∧VR K b y∧VR K c z:=by
 obtain⟨hsz,hv⟩:=hv
 have hsz:cargs.size=3:=by simpa using hsz.symm
 have h0:=hv 0 (by simp)
 have h1:=hv 1 (by simp)
 have h2:=hv 2 (by simp)
 refine⟨_,_,_,?_,h0,h1,h2⟩
 apply Array.ext
 ·simp[hsz]
 intro i hi _
 have:i=0∨i=1∨i=2:=by omega
 rcases this with rfl|rfl|rfl<;>simp[Array.getD,hsz]
set_option maxHeartbeats 1000000 in
set_option maxRecDepth 100000 in
theorem wI(n:Nat)(es:List V)(i:Nat)(h:Hp)(nx:Nat)(hn:h n=some (.arr (.agg 3) es))(hi:i<es.length):
 aP Tryz.prog 111 [.rs n (.agg 3) 0 es.length, .int .i64 i, .int .i64 (i+1:Nat)] h nx fun v h' _=>v= .rs n (.agg 3) 0 (es.length-1)∧h'=h.set n (.arr (.agg 3) (es.take i++es.drop (i+1)++[zvl])):=by
 refine⟨by kernel_rfl,fun K cargs hlv hr hv=>?_⟩
 obtain⟨x,y,z,rfl,v1,v2,v3⟩:=qF hv
 obtain⟨i0,hi0,hs0,hz0⟩:=aDy
 cases v2;cases v3
 cases v1 with
 |rs _ _ _ _ cap hl hcap hm=>
  have hlt:=(hr.blk n _ hn).lt_size
  obtain⟨cs,hc,hcl,hcr⟩:=lR hr.drew hn (o:=i+1) (m:=es.length-(i+1)) (by omega)
  have hty:(es.drop (i+1)).take (es.length-(i+1))=es.drop (i+1):=List.take_of_length_le (by simp)
  rw[hty] at hc
  have hyl:(es.drop (i+1)).length=es.length-(i+1):=by simp
  have hbl:=sE (es:=es) (o:=i) (ys:=es.drop (i+1)) (by omega)
  obtain⟨K1,q1,q2,q3,q4,q5,q6⟩:=iA (P:=Tryz.prog) hr.drew hn (o:=i) (ys:=es.drop (i+1)) (by omega) hc
  have hn1:(h.set n (.arr (.agg 3) (iO es i (es.drop (i+1))))) n=some (.arr (.agg 3) (iO es i (es.drop (i+1)))):=by simp[Hp.set]
  have hK1:K.le K1:=K.le_drew.trans q2
  have hmu1:K1.mu n=K.mu n:=hK1.mu n hl
  obtain⟨T,m,hsh,hmm⟩:=hm
  have vr1:VR K1 (.rs n (.agg 3) (es.length-1) 1) (.slice (some ⟨K1.mu n,(es.length-1)*3,none⟩) 1 (cap-(es.length-1))):=
   .rs n (.agg 3) (es.length-1) 1 (cap-(es.length-1)) (hK1.live n hl) (by omega) ⟨T,m,by rw[hmu1,hK1.shape _ hlt];exact hsh,by rw[←hmm];congr 1;omega⟩
  obtain⟨K2,c1,c2,c3,c4⟩:=oC (P:=Tryz.prog) q6 hn1 (off:=es.length-1) (ln:=1) (by omega) vr1 Tryz.underlying106 hi0 hz0 (aDE K1) rfl 0
  have e1:i+(es.length-(i+1))=es.length-1:=by omega
  have e2:es.length-(es.length-1)=1:=by omega
  refine(aCM (K.mu n) es.length cap i (i+1) rfl (by omega) hcap K.w K1.w K2.w (fun ty A c hA=>?_) (fun ty=>?_)).mono ?_
  ·refine nK (P:=Tryz.prog) K.w.drew _ _ ty _ _ i0 (K.mu n) 0 i cap A (es.length-(i+1)) c cs Tryz.underlying106 Tryz.underlying106 hi0 (by rw[hcl,hs0];rfl) (by omega) (fun j u hj=>?_) ?_
   ·rcases hA with rfl|hA
    ·rw[Addr.add_lit];exact hcr j u hj
    have:cs=[]:=List.length_eq_zero_iff.1 (by rw[hcl,show es.length-(i+1)=0 by omega,Nat.zero_mul])
    rw[this] at hj;cases hj
   rw[hs0,Nat.zero_add];exact q1
  ·rw[e1,e2,←hmu1];exact c1
  rintro e w' ⟨rfl,rfl⟩
  have hK2:=hK1.trans c2
  have vr:VR K (.rs n (.agg 3) 0 (es.length-1)) (.slice (some ⟨K.mu n,0,none⟩) (es.length-1) cap):=by
   have:=VR.rs (K:=K) n (.agg 3) 0 (es.length-1) cap hl (by omega) ⟨T,m,hsh,hmm⟩
   rwa [Nat.zero_mul] at this
  refine⟨K2,_,_,_,nx,rfl,rfl,hK2,by rw[e1];exact vr.mono hK2,?_,fun m hm=>?_,Nat.le_refl _,rfl,rfl⟩
  ·rw[vL] at c4
   have:(iO es i (es.drop (i+1))).take (es.length-1)++List.replicate 1 zvl++(iO es i (es.drop (i+1))).drop (es.length-1+1)=es.take i++es.drop (i+1)++[zvl]:=by
    have hd:(iO es i (es.drop (i+1))).drop (es.length-1+1)=[]:=List.drop_of_length_le (by omega)
    have ht:(iO es i (es.drop (i+1))).take (es.length-1)=es.take i++es.drop (i+1):=by unfold iO;exact List.take_left' (by simp;omega)
    rw[hd,ht,List.append_nil]
    rfl
   rw[this] at c4
   exact c4
  have h1:=c3 m hm
  rw[q3] at h1
  exact⟨hlv m h1, .inl h1⟩
set_option maxHeartbeats 4000000 in
set_option maxRecDepth 1000000 in
theorem aDn(b n cap i:Nat)(va:Addr)(vc:Nat)(hi:i<n)(hcap:n+1≤cap)(hn63:n≤1000000)(w w1 w2:World)
 (hov:∀lb cb,(callFunc 118 #[.slice (some va) 1 vc, .slice (some ⟨b,(i+1)*3,none⟩) lb cb]).run Tryz.prog w= .ok (.value (.bool false)) w)
 (hcp1:∀ty dc sc,(Builtin.copy_ #[106,106] ty #[.slice (some ⟨b,(i+1)*3,none⟩) (n+1-(i+1)) dc, .slice (some ⟨b,i*3,none⟩) (n+1-i) sc]).run Tryz.prog w.drew= .ok (goInt ((n-i:Nat):Int)) w1)
 (hcp2:∀ty dc,(Builtin.copy_ #[106,105] ty #[.slice (some ⟨b,i*3,none⟩) (n+1-i) dc, .slice (some va) 1 vc]).run Tryz.prog w1= .ok (goInt 1) w2):
 Calls Tryz.prog 60 #[.slice (some ⟨b,0,none⟩) n cap, .int .i64 i, .slice (some va) 1 vc] w fun e w'=>e= .returned (.slice (some ⟨b,0,none⟩) (n+1) cap)∧w'=w2:=by
 have mixed:Tryz.prog.follows .mixedOrders=true:=by kernel_rfl
 have hne:¬(i:Int)=(n:Int):=by omega
 have hw1:IntKind.i64.wrap ((n:Int)+1)=(n:Int)+1:=by rw[IntKind.wrap_i64];omega
 have hw2:IntKind.i64.wrap ((i:Int)+1)=(i:Int)+1:=by rw[IntKind.wrap_i64];omega
 have hb1:(0:Int)≤(i:Int)+1:=by omega
 have hb2:(0:Int)≤(n:Int)+1:=by omega
 have hin:i≤n:=by omega
 have ht1:((i:Int)+1).toNat=i+1:=by omega
 have ht2:((n:Int)+1).toNat=n+1:=by omega
 have hc1:¬(cap=i+1):=by omega
 have hc2:¬(cap=i):=by omega
 have hc3:(i:Int)+1≤(n:Int)+1:=by omega
 have hc4:(i:Int)≤(n:Int)+1:=by omega
 have hc5:(n:Int)+1≤(cap:Int):=by omega
 have hc6:¬((cap:Int)<(n:Int)+1):=by omega
 clear hi hcap
 go_enter Tryz.func60,Tryz.ntmps60
 go_wp2_with (simp only[hov])
 go_region_law_o (refine nC .copy rfl #[.tmp 73, .tmp 76] _ rfl _ (fun _=>rfl) (by simpa [Act.eval,Act.put] using hcp1 _ _ _) ?_)
 go_wp2_with (at_builtin;refine kA .copy rfl #[.tmp 80, .tmp 81] _ rfl _ (fun _=>rfl) (by simpa [Act.eval,Act.put] using hcp2 _ _) ?_)
 go_ret
 exact⟨rfl,rfl⟩
set_option maxHeartbeats 4000000 in
set_option maxRecDepth 1000000 in
theorem aDo(b n cap:Nat)(va:Addr)(vc:Nat)(hcap:n+1≤cap)(w w1:World)
 (hap:∀(ty:TypeId),(Builtin.append_ #[106,105] ty #[.slice (some ⟨b,0,none⟩) n cap, .slice (some va) 1 vc]).run Tryz.prog w= .ok (.slice (some ⟨b,0,none⟩) (n+1) cap) w1):
 Calls Tryz.prog 60 #[.slice (some ⟨b,0,none⟩) n cap, .int .i64 n, .slice (some va) 1 vc] w fun e w'=>e= .returned (.slice (some ⟨b,0,none⟩) (n+1) cap)∧w'=w1:=by
 have hc2:¬(cap=n):=by omega
 clear hcap
 go_enter Tryz.func60,Tryz.ntmps60
 go_wp2_with (at_builtin;refine kA .append rfl #[.tmp 23, .tmp 24] _ rfl _ (fun _=>rfl) (by simpa [Act.eval,Act.put] using hap _) ?_)
 go_ret
 exact⟨rfl,rfl⟩
set_option maxHeartbeats 1000000 in
set_option maxRecDepth 100000 in
theorem wA(n m:Nat)(es:List V)(x:V)(i:Nat)(h:Hp)(nx:Nat)(hn:h n=some (.arr (.agg 3) es))(hm:h m=some (.arr (.agg 3) [x]))(hnm:m≠n)(hi:i<es.length)(hl:es.length≤1000000):
 aP Tryz.prog 60 [.rs n (.agg 3) 0 (es.length-1), .int .i64 i, .rs m (.agg 3) 0 1] h nx fun v h' _=>v= .rs n (.agg 3) 0 es.length∧h'=h.set n (.arr (.agg 3) (es.take i++[x]++(es.drop i).take (es.length-1-i))):=by
 refine⟨by kernel_rfl,fun K cargs hlv hr hv=>?_⟩
 obtain⟨c1,c2,c3,rfl,v1,v2,v3⟩:=qF hv
 obtain⟨i0,hi0,hs0,hz0⟩:=aDy
 cases v2
 have hbn:=hr.blk n _ hn
 have hbm:=hr.blk m _ hm
 have hne:K.mu m≠K.mu n:=fun e=>hnm (hr.inj m n _ _ hm hn e)
 cases v1 with
 |rs _ _ _ _ cap hl1 hcap hsn=>
 cases v3 with
 |rs _ _ _ _ vc hl2 hvcap hsm=>
  obtain⟨T,M,hsh,hmm⟩:=hsn
  obtain⟨T2,M2,hsh2,hmm2⟩:=hsm
  have hlt:=hbn.lt_size
  --room
  have hroom:es.length≤cap:=by
   cases hbn with
   |arr _ _ c T' hh hcs _ _ _=>
    have:M=c.size:=by simp[World.shape?,hh] at hsh;exact hsh.2.symm
    simp only[Sh.size] at hmm hcs
    omega
  have hMpos:M≠0:=by simp only[Sh.size] at hmm;omega
  have hfr:∀o,K.w.frozen? ⟨K.mu m,o,none⟩=false:=fun o=>by
   cases hbm with
   |arr _ _ c T' hh _ _ _ _=>simp only[World.frozen?,hh];simp
  have e1:es.length-1+1=es.length:=by omega
  have hsz:(0:Nat)*(Sh.agg 3).size=0:=Nat.zero_mul _
  have vr:VR K (.rs n (.agg 3) 0 es.length) (.slice (some ⟨K.mu n,0,none⟩) es.length cap):=by
   have:=VR.rs (K:=K) n (.agg 3) 0 es.length cap hl1 hroom ⟨T,M,hsh,hmm⟩
   rwa [Nat.zero_mul] at this
  rcases Nat.lt_or_ge i (es.length-1) with hlt1|hge
  ·obtain⟨cs,hc,hcl,hcr⟩:=lR hr.drew hn (o:=i) (m:=es.length-1-i) (by omega)
   have hyl:((es.drop i).take (es.length-1-i)).length=es.length-1-i:=by simp;omega
   have hbl:=sE (es:=es) (o:=i+1) (ys:=(es.drop i).take (es.length-1-i)) (by omega)
   obtain⟨K1,q1,q2,q3,q4,q5,q6⟩:=iA (P:=Tryz.prog) hr.drew hn (o:=i+1) (ys:=(es.drop i).take (es.length-1-i)) (by omega) hc
   have hn1:(h.set n (.arr (.agg 3) (iO es (i+1) ((es.drop i).take (es.length-1-i))))) n=some (.arr (.agg 3) (iO es (i+1) ((es.drop i).take (es.length-1-i)))):=by simp[Hp.set]
   have hm1:(h.set n (.arr (.agg 3) (iO es (i+1) ((es.drop i).take (es.length-1-i))))) m=some (.arr (.agg 3) [x]):=by simp only[Hp.set];rw[if_neg hnm];exact hm
   have hK1:K.le K1:=K.le_drew.trans q2
   obtain⟨ds,hd,hdl,hdr⟩:=lR q6 hm1 (o:=0) (m:=1) (by simp)
   simp only[List.drop_zero,List.take_succ_cons,List.take_zero] at hd
   obtain⟨K2,p1,p2,p3,p4,p5,p6⟩:=iA (P:=Tryz.prog) q6 hn1 (o:=i) (ys:=[x]) (by rw[hbl];simp;omega) hd
   have hmuN:K1.mu n=K.mu n:=hK1.mu n hl1
   have hmuM:K1.mu m=K.mu m:=hK1.mu m hl2
   have hK2:=hK1.trans p2
   refine(aDn (K.mu n) (es.length-1) cap i ⟨K.mu m,0*(Sh.agg 3).size,none⟩ vc hlt1 (by omega) (by omega) K.w K1.w K2.w (fun lb cb=>?_) (fun ty dc sc=>?_) (fun ty dc=>?_)).mono ?_
   ·rw[run_callFunc_extern Tryz.func118 (by kernel_rfl) (by kernel_rfl) (by kernel_rfl) (e:=Extern.SlicesOverlaps.overlaps #[105,105] #[4]) (by kernel_rfl),
     Lib.run_overlaps_apart K.w 105 4 109 Tryz.underlying105 3 Tryz.sizeOf109 _ _ 1 vc lb cb hne T2 T M2 M hsh2 hsh hMpos (hfr _) (hfr _)]
    rfl
   ·refine qI (P:=Tryz.prog) K.w.drew _ _ ty _ i0 (K.mu n) ((i+1)*3) _ dc ⟨K.mu n,i*3,none⟩ _ sc (es.length-1-i) cs Tryz.underlying106 hi0 ?_ (by rw[hcl,hs0];rfl) (fun j u hj=>by rw[Addr.add_lit];exact hcr j u hj) q1
    simp only[Nat.min_def];split<;>omega
   ·refine qI (P:=Tryz.prog) K1.w _ _ ty _ i0 (K.mu n) (i*3) _ dc _ _ vc 1 ds Tryz.underlying106 hi0 (by simp only[Nat.min_def];split<;>omega) (by rw[hdl,hs0];rfl) (fun j u hj=>by rw[Addr.add_lit];rw[hmuM] at hdr;exact hdr j u hj) (by rw[←hmuN];exact p1)
   rintro e w' ⟨rfl,rfl⟩
   refine⟨K2,_,_,_,nx,rfl,rfl,hK2,by rw[e1];exact vr.mono hK2,?_,fun q hq=>?_,Nat.le_refl _,rfl,rfl⟩
   ·rw[vL] at p6
    have:iO (iO es (i+1) ((es.drop i).take (es.length-1-i))) i [x]=es.take i++[x]++(es.drop i).take (es.length-1-i):=by
     generalize hys:(es.drop i).take (es.length-1-i)=ys at hyl hbl⊢
     unfold iO
     have h1:(es.take (i+1)).length=i+1:=by simp;omega
     have h2:es.drop (i+1+ys.length)=[]:=List.drop_of_length_le (by omega)
     rw[h2,List.append_nil,List.take_append_of_le_length (by omega),List.take_take,Nat.min_eq_left (by omega),List.length_singleton,List.drop_left' h1]
    rw[this] at p6
    exact p6
   rw[p3,q3] at hq
   exact⟨hlv q hq, .inl hq⟩
  have hie:i=es.length-1:=by omega
  subst hie
  obtain⟨ds,hd,hdl,hdr⟩:=lR hr hm (o:=0) (m:=1) (by simp)
  simp only[List.drop_zero,List.take_succ_cons,List.take_zero] at hd
  obtain⟨K1,q1,q2,q3,q4,q5,q6⟩:=iA (P:=Tryz.prog) hr hn (o:=es.length-1) (ys:=[x]) (by simp;omega) hd
  refine(aDo (K.mu n) (es.length-1) cap ⟨K.mu m,0*(Sh.agg 3).size,none⟩ vc (by omega) K.w K1.w (fun ty=>?_)).mono ?_
  ·refine nK (P:=Tryz.prog) K.w _ _ ty _ _ i0 (K.mu n) 0 (es.length-1) cap _ 1 vc ds Tryz.underlying106 Tryz.underlying105 hi0 (by rw[hdl,hs0];rfl) (by omega) (fun j u hj=>by rw[Addr.add_lit];exact hdr j u hj) (by rw[hs0,Nat.zero_add];exact q1)
  rintro e w' ⟨rfl,rfl⟩
  refine⟨K1,_,_,_,nx,rfl,rfl,q2,by rw[e1];exact vr.mono q2,?_,fun q hq=>?_,Nat.le_refl _,rfl,rfl⟩
  ·have:iO es (es.length-1) [x]=es.take (es.length-1)++[x]++(es.drop (es.length-1)).take (es.length-1-(es.length-1)):=by
    unfold iO
    rw[List.drop_of_length_le (by simp;omega),Nat.sub_self,List.take_zero]
   rw[this] at q6
   exact q6
  rw[q3] at hq
  exact⟨hlv q hq, .inl hq⟩
end Go.Proofs.YtemjhgboialjpaaGreat
