/-
Texts of this proof,one behind the other. No conditions.
-/
import Derived.Test.YthikfnmcjipobaaGreatKcb
import Derived.Shelf.SlSortCmp.WholeK
import Derived.Test.YthikfnmcjipobaaGreatKd
import Derived.Shelf.SlSortCmp.NoneTotal
/-
The abstract layer,twenty-third part:slices.SortFunc at structs,by the kit's own contract. No program in sight. No conditions beyond those named.
-/
namespace Go.Proofs.YthikfnmcjipobaaGreat
set_option linter.unusedSimpArgs false
set_option linter.unusedVariables false
set_option linter.unusedSectionVars false
open Go.RowKit Go.Sort Go.Shelf Go.Lib
theorem VR.refro{K:Ker}{F:Nat→Prop}(hF:∀b,K.fro b→F b){v:V}{cv:Value}(r:VR K v cv):VR {K with fro:=F} v cv:=by
 have st:∀b o,K.still b o→Ker.still {K with fro:=F} b o:=fun b o h=>h.elim (fun h=> .inl (hF b h)) .inr
 induction r with
 |bool b=>exact .bool b
 |int k n=>exact .int k n
 |str s=>exact .str s
 |nilPtr=>exact .nilPtr
 |ptr n k i o hn=>exact .ptr (K:={K with fro:=F}) n k i o hn
 |ept k es i o b off f hb hfit hcell hst hv ih=>exact .ept (K:={K with fro:=F}) k es i o b off f hb hfit hcell (fun j hj=>st _ _ (hst j hj)) ih
 |slnil k=>exact .slnil k
 |slz k a=>exact .slz k a
 |sl k own es b off cap f hb hfit hcell hst hv hcap hnil hfull htok ih=>exact .sl (K:={K with fro:=F}) k own es b off cap f hb hfit hcell (fun j hj=>st _ _ (hst j hj)) ih hcap hnil hfull htok
 |rs n k off len cap hn hcap hm=>exact .rs (K:={K with fro:=F}) n k off len cap hn hcap hm
 |nilMap=>exact .nilMap
 |map n hn=>exact .map (K:={K with fro:=F}) n hn
 |nilChan=>exact .nilChan
 |chan n hn=>exact .chan (K:={K with fro:=F}) n hn
 |fn f first cap cfirst ccap h1 h2 _ _ v1 v2=>exact .fn f first cap cfirst ccap h1 h2 v1 v2
 |nilFn=>exact .nilFn
 |yld n hn=>exact .yld (K:={K with fro:=F}) n hn
 |iface t v cv _ ih=>exact .iface t v cv ih
 |nilIface=>exact .nilIface
 |agg cs ccs hl _ ih=>exact .agg cs ccs hl ih
 |tup cs ccs hl _ ih=>exact .tup cs ccs hl ih
 |top cv=>exact .top cv
theorem aFw{w w':World}(h:pT (fun b=>b<w.heap.size) w w'):∃q os',w'=grow (w.drewN q) os':=by
 refine⟨w'.drawn-w.drawn,w'.heap.extract w.heap.size w'.heap.size,?_⟩
 obtain⟨h1,h2,h3,h4,h5,h6⟩:=h
 obtain⟨heap,tape,drawn,os,output⟩:=w
 obtain⟨heap',tape',drawn',os',output'⟩:=w'
 simp only at h1 h2 h3 h4 h5 h6
 subst h1 h2 h3
 unfold grow World.drewN
 simp only[World.mk.injEq,and_true,true_and]
 refine⟨?_,by omega⟩
 apply Array.ext_getElem?
 intro i
 by_cases hi:i<heap.size
 ·rw[h6 i hi (.inl hi),Array.getElem?_append_left hi]
 rw[Array.getElem?_append_right (by omega),Array.getElem?_extract]
 by_cases hi2:i<heap'.size
 ·rw[if_pos (by omega)]
  congr 1
  omega
 rw[if_neg (by omega),Array.getElem?_eq_none (by omega)]
theorem lM{α:Type} [Inhabited α](enc:α→List Value)(k:Nat)(w:World)(blk off m:Nat)(dk:Array α)(os:Array Obj)(b:Nat)(hb:b<w.heap.size)(hne:b≠blk):(sortWorldK enc k w blk off m dk os).heap[b]?=w.heap[b]?:=by
 unfold sortWorldK putRowK putRow mapBlock grow
 simp only[heap_ahead]
 rw[Array.getElem?_append_left (by simpa using hb),Array.getElem?_modify,if_neg (fun e=>hne e.symm)]
theorem rA{α:Type} [Inhabited α](enc:α→List Value)(k:Nat)(w:World)(blk off m:Nat)(dk:Array α)(os:Array Obj){c:Array Value}{T:TypeId}{fr:Nat×Nat}(hh:w.heap[blk]?=some (.cells c T fr)):∃c':Array Value,(sortWorldK enc k w blk off m dk os).heap[blk]?=some (.cells c' T fr)∧c'.size=c.size:=by
 have hb:blk<w.heap.size:=by
  rcases Nat.lt_or_ge blk w.heap.size with hlt|hge
  ·exact hlt
  rw[Array.getElem?_eq_none hge] at hh;exact absurd hh (by simp)
 refine⟨putCells id off (flatK enc k dk) c,?_,by simp[putCells]⟩
 unfold sortWorldK putRowK putRow mapBlock grow
 simp only[heap_ahead]
 rw[Array.getElem?_append_left (by simpa using hb),Array.getElem?_modify,if_pos rfl,hh]
 rfl
theorem sR{K:Ker}{α:Type} [Inhabited α](enc:α→List Value)(k:Nat)(blk off m:Nat)(dk:Array α)(os:Array Obj){c:Array Value}{T:TypeId}(hh:K.w.heap[blk]?=some (.cells c T (0,0)))(hf:¬K.fro blk)(hi:K.imm blk=0):
 K.le {K with w:=sortWorldK enc k K.w blk off m dk os} where
 live _ hn:=hn
 mu _ _:=rfl
 tp _ _:=rfl
 fro:=rfl
 imm _ _:=Nat.le_refl _
 cell b o hb hst:=by
  have hne:b≠blk:=by
   rintro rfl
   rcases hst with h|h
   ·exact hf h
   omega
  exact mQ (lM enc k K.w blk off m dk os b hb hne)
 shape b hb:=by
  by_cases e:b=blk
  ·subst e
   obtain⟨c',h1,h2⟩:=rA enc k K.w b off m dk os hh
   simp only[World.shape?,h1,hh,h2]
  simp only[World.shape?,lM enc k K.w blk off m dk os b hb e]
 below:=⟨rfl,rfl,rfl,Nat.le_add_right _ _,size_sortWorldK_c enc k K.w blk off m dk os,fun b hb hF=>lM enc k K.w blk off m dk os b hb (fun e=>hF.elim (fun hF=>hf (e▸hF)) fun hm=>by subst e;unfold lH at hm;rw[hh] at hm;cases hm)⟩
theorem aGe{α β:Type}(f:α→β){cf:β→β→Int}(h:SWO (ltOf cf)):SWO (ltOf fun x y:α=>cf (f x) (f y)):=
 ⟨fun x=>h.irrefl (f x),fun x y z=>h.trans (f x) (f y) (f z),fun x y z=>h.ntrans (f x) (f y) (f z)⟩
def lZ{δ:Type}(cf:δ→δ→Int)(l:List δ):Prop:=l.Pairwise fun x y=>ltOf cf y x=false
theorem nG{P:Program}{ρ:Ren}(L:SlLaysF0.n6 P ρ)(k:Nat)(aE:∀w,(isAgg (ρ.t 24)).run P w= .ok true w)(zE:∀w,(Go.sizeOf (ρ.t 24)).run P w= .ok k w)(hen:iU P (ρ.f 6)=true)
 {δ:Type} (e:δ→V) (hfit:∀d,(e d).fits (.agg k)=true) (cf:δ→δ→Int) (hO:SWO (ltOf cf)) (g:Nat) (caps:List V) (hcmp:∀x y,cM P g ([e x,e y]++caps) Hp.none (.int .i64 (cf x y)))
 (n:Nat) (ds:List δ) (hne:ds≠ []) (h:Hp) (nx:Nat) (hn:h n=some (.arr (.agg k) (ds.map e))) (hlen:ds.length<4611686018427387904):
 bM P (ρ.f 6) [.rs n (.agg k) 0 ds.length, .fn (.func g) [] caps] h nx fun v h' nx'=>v= .tup []∧nx'=nx∧∃ds':List δ,ds'.Perm ds∧lZ cf ds'∧h'=h.set n (.arr (.agg k) (ds'.map e)):=by
 refine⟨hen,fun K cargs hlv hr hv=>?_⟩
 obtain⟨hsz,hv⟩:=hv
 have hsz:cargs.size=2:=by simpa using hsz.symm
 obtain⟨c1,c2,rfl⟩:∃c1 c2,cargs=#[c1,c2]:=⟨cargs[0],cargs[1],by
  apply Array.ext
  ·simp[hsz]
  intro i h1 h2
  have:i=0∨i=1:=by simp at h2;omega
  rcases this with rfl|rfl<;>rfl⟩
 have v1:=hv 0 (by simp)
 have v2:=hv 1 (by simp)
 have hb:=hr.blk n _ hn
 have hfro:=hr.base n _ hn
 cases hb with
 |arr _ _ c T hh hcs himm hfit' hcv=>
  have v1:VR K (.rs n (.agg k) 0 ds.length) c1:=v1
  have v2:VR K (.fn (.func g) [] caps) c2:=v2
  cases v1 with
  |rs _ _ _ _ cap hl hcap hm=>
   cases v2 with
   |fn _ _ _ cfirst ccap q1 q2 w1 w2=>
    have hcf:cfirst=#[]:=by
     have:cfirst.size=0:=by simpa using q1.symm
     exact Array.eq_empty_of_size_eq_zero this
    subst hcf
    have hcs:ds.length*k≤c.size:=by simpa [Sh.size] using hcs
    have hblk:K.mu n<K.w.heap.size:=by
     rcases Nat.lt_or_ge (K.mu n) K.w.heap.size with hlt|hge
     ·exact hlt
     rw[Array.getElem?_eq_none hge] at hh;exact absurd hh (by simp)
    --data beside their cells
    let A:={p:δ×List Value // p.2.length=k∧VR K (e p.1) (.agg p.2.toArray)}
    let cells:Nat→List Value:=fun i=>(List.range k).map fun j=>c.getD (i*k+j) Go.undef
    have hcell:∀i (hi:i<ds.length),(cells i).length=k∧VR K (e ds[i]) (.agg (cells i).toArray):=fun i hi=>by
     refine⟨by simp[cells],VR.of_cells (hfit _) (by simp[cells]) fun j hj=>?_⟩
     have:=hcv i (by simpa using hi) j (by simpa [Sh.size] using hj)
     simp only[List.getD_eq_getElem?_getD,List.getElem?_map,List.getElem?_eq_getElem hi,Option.map_some,Option.getD_some,Sh.size] at this
     simpa [cells,Array.getD_eq_getD_getElem?,hj] using this
    have hpos:0<ds.length:=List.length_pos_iff.2 hne
    haveI:Inhabited A:=⟨⟨(ds[0],cells 0),hcell 0 hpos⟩⟩
    let d:Array A:=Array.ofFn fun i:Fin ds.length=>(⟨(ds[i],cells i),hcell i i.2⟩:A)
    have hds:d.size=ds.length:=by simp[d]
    have hd:∀i (hi:i<ds.length),d[i]! =(⟨(ds[i],cells i),hcell i hi⟩:A):=fun i hi=>by
     rw[getElem!_pos d i (by rw[hds];exact hi)]
     simp[d]
    let enc:A→List Value:=fun p=>p.1.2
    have hk:∀x:A,(enc x).length=k:=fun x=>x.2.1
    have h1:∀x:A,∀v∈enc x,v.oneCell'=true:=by
     intro x v hv
     obtain⟨a1,a2,a3,a4⟩:=x.2.2.cells (hfit x.1.1)
     obtain⟨j,hj,rfl⟩:=List.mem_iff_getElem.1 hv
     have hjk:j<k:=by rw[←hk x];exact hj
     have h3:=a3 j hjk
     have h4:=a4 j hjk
     have:=h3.oneCell h4
     have e1:(Value.agg x.1.2.toArray).cells.getD j Go.undef=(enc x)[j]:=by
      show x.1.2.toArray.getD j Go.undef=x.1.2[j]
      rw[Array.getD_eq_getD_getElem?]
      simp only[List.getElem?_toArray]
      rw[List.getElem?_eq_getElem hj]
      rfl
     rw[e1] at this
     exact this
    have hH:HoldsK enc k K.w (K.mu n) 0 d:=by
     intro j hj
     rw[size_flatK,hds] at hj
     rw[get_flatK _ _ _ _ (by rw[hds];exact hj)]
     have hk0:0<k:=by
      rcases Nat.eq_zero_or_pos k with h|h
      ·subst h;simp at hj
      exact h
     have hq:j / k<ds.length:=by rw[Nat.div_lt_iff_lt_mul hk0];exact hj
     have hm:j % k<k:=Nat.mod_lt _ hk0
     constructor
     ·rw[hd _ hq]
      simp only[World.cell?,hh,Nat.zero_add,enc,cells,id]
      have:j / k*k+j % k=j:=by rw[Nat.mul_comm];exact Nat.div_add_mod j k
      simp only[Option.isSome_none,Bool.false_eq_true,if_false]
      rw[getElem!_pos _ _ (by simpa using hm)]
      simp only[List.getElem_map,List.getElem_range,this]
      rw[Array.getD_eq_getD_getElem?,Array.getElem?_eq_getElem (by omega)]
      rfl
     simp only[World.frozen?,hh]
     simp
    have hC:CmpLays P g ccap enc k (fun x y:A=>cf x.1.1 y.1.1) (K.mu n) 0 d.size K.w:=by
     intro m os dk _ x y
     have hle:=sR enc k (K.mu n) 0 m dk os hh hfro himm
     generalize hW:sortWorldK enc k K.w (K.mu n) 0 m dk os=W at hle⊢
     have hp:=(hcmp x.1.1 y.1.1) Hp.none nx (aS _)
     have up:∀{v cv},VR K v cv→VR {K with w:=W,fro:=fun b=>b<W.heap.size} v cv:=fun r=>VR.refro (K:={K with w:=W}) (fun b hb=>Nat.lt_of_lt_of_le (hr.size b hb) (by rw[←hW];exact size_sortWorldK_c enc k K.w _ _ m dk os)) (r.mono hle)
     have c:=hp.2 {K with w:=W,fro:=fun b=>b<W.heap.size} (#[.agg (enc x).toArray, .agg (enc y).toArray]++ccap) hlv ⟨(fun n b e=>by cases e),(fun n b e=>by cases e),(fun n b e=>by cases e),(fun n n' b b' e=>by cases e),(fun b hb=>hb)⟩
      ((show VRs _ [e x.1.1,e y.1.1] #[.agg (enc x).toArray, .agg (enc y).toArray] from⟨rfl,fun i hi=>by
        have:i=0∨i=1:=by simp at hi;omega
        rcases this with rfl|rfl
        ·exact up x.2.2
        exact up y.2.2⟩).append ⟨q2,fun i hi=>up (w2 i hi)⟩)
     refine c.mono ?_
     rintro e' w' ⟨K',v,cv,h',nx',rfl,rfl,a1,a2,a3,a4,a5,rfl,rfl,rfl⟩
     cases a2
     exact⟨rfl,aFw a1.below⟩
    have key:=AnyQ.slices_SortFunc L k aE zE enc hk h1 (fun x y:A=>cf x.1.1 y.1.1) (aGe (fun x:A=>x.1.1) hO) g ccap (K.mu n) 0 cap d K.w (fun args w=>nH (hcmp ds[0] ds[0] Hp.none 0 (aS _)).1 args w) hC hH hblk (by rw[hds];exact hlen)
    rw[hds] at key
    have e0:(0:Nat)*(Sh.agg k).size=0:=Nat.zero_mul _
    rw[e0]
    refine key.mono ?_
    rintro e' w' ⟨rfl,d',m,os,hp,hs,rfl⟩
    obtain⟨hp1,_,hp3⟩:=hp
    have hp1:d'.size=ds.length:=by rw[hp1,hds]
    have hle:=sR enc k (K.mu n) 0 m d' os hh hfro himm
    have hH':=holdsK_sortWorldK_c enc k K.w (K.mu n) 0 d d' m os hH hblk (by rw[hp1,hds])
    obtain⟨c',hh',hcz⟩:=rA enc k K.w (K.mu n) 0 m d' os hh
    refine⟨{K with w:=sortWorldK enc k K.w (K.mu n) 0 m d' os}, .tup [], .tuple #[],h.set n (.arr (.agg k) ((d'.toList.map fun x=>x.1.1).map e)),nx,rfl,rfl,hle, .tup [] #[] rfl (fun i hi=>absurd hi (by simp)),?_,fun m hm=>⟨hlv m hm, .inl hm⟩,Nat.le_refl _,rfl,rfl,_,?_,?_,rfl⟩
    ·have keep:∀m b,h m=some b→m≠n→(sortWorldK enc k K.w (K.mu n) 0 (ds.length*0+0) d' os).heap.size=(sortWorldK enc k K.w (K.mu n) 0 (ds.length*0+0) d' os).heap.size:=fun _ _ _ _=>rfl
     have live':∀m b,(h.set n (.arr (.agg k) ((d'.toList.map fun x=>x.1.1).map e))) m=some b→∃b',h m=some b':=fun m' b' e'=>by
      unfold Hp.set at e'
      split at e'
      ·rename_i em;subst em;exact⟨_,hn⟩
      exact⟨_,e'⟩
     refine⟨fun m' b' e'=>?_,fun m' b' e'=>?_,fun m' b' e'=>?_,fun m1 m2 b1 b2 e1 e2 em=>?_,fun b' hb'=>Nat.lt_of_lt_of_le (hr.size b' hb') hle.below.size⟩
     ·obtain⟨b2,e2⟩:=live' m' b' e';exact hr.lt m' b2 e2
     ·obtain⟨b2,e2⟩:=live' m' b' e';exact hr.base m' b2 e2
     ·by_cases em:m'=n
      ·subst em
       have eb:b'= .arr (.agg k) ((d'.toList.map fun x=>x.1.1).map e):=by simpa [Hp.set] using e'.symm
       subst eb
       refine .arr _ _ c' T hh' (by
        have e0:((d'.toList.map fun x=>x.1.1).map e).length=ds.length:=by
         simp only[List.length_map,Array.length_toList];omega
        rw[hcz,e0];exact hcs) himm (fun v hv=>?_) fun i hi j hj=>?_
       ·obtain⟨x,_,rfl⟩:=List.mem_map.1 hv
        exact hfit x
       have hi:i<d'.size:=by simpa using hi
       have hj:j<k:=by simpa [Sh.size] using hj
       obtain⟨g1,_⟩:=hH'.cell hi hj
       simp only[World.cell?,hh',Option.isSome_none,Bool.false_eq_true,if_false,Nat.zero_add] at g1
       have x2:=(d'[i]!).2.2
       obtain⟨_,_,a3,_⟩:=x2.cells (hfit (d'[i]!).1.1)
       have:=(a3 j hj).mono hle
       have e1:(((d'.toList.map fun x=>x.1.1).map e).getD i V.undef)=e (d'[i]!).1.1:=by
        rw[getElem!_pos d' i hi]
        simp[List.getD_eq_getElem?_getD,hi]
       have e2:c'.getD (i*(Sh.agg k).size+j) Go.undef=(Value.agg (d'[i]!).1.2.toArray).cells.getD j Go.undef:=by
        show c'.getD (i*k+j) Go.undef=(d'[i]!).1.2.toArray.getD j Go.undef
        rw[Array.getD_eq_getD_getElem?,g1,Array.getD_eq_getD_getElem?]
        have hjl:j<(d'[i]!).1.2.length:=by rw[(d'[i]!).2.1];exact hj
        simp only[List.getElem?_toArray,List.getElem?_eq_getElem hjl,Option.getD_some]
        exact getElem!_pos (d'[i]!).1.2 j hjl
       rw[e1,e2]
       exact this
      have e2:h m'=some b':=by unfold Hp.set at e';rw[if_neg em] at e';exact e'
      have hne:K.mu m'≠K.mu n:=fun e3=>em (hr.inj m' n _ _ e2 hn e3)
      exact(hr.blk m' b' e2).mono hle (hr.lt m' b' e2) (lM enc k K.w (K.mu n) 0 m d' os _ (hr.blk m' b' e2).lt_size hne) rfl
     obtain⟨b3,e3⟩:=live' m1 b1 e1
     obtain⟨b4,e4⟩:=live' m2 b2 e2
     exact hr.inj m1 m2 b3 b4 e3 e4 em
    ·have p:=hp3.map fun x:A=>x.1.1
     have ex:∀(x:Array A),x.size=ds.length→x.extract 0 ds.length=x:=fun x hx=>by rw[←hx];simp
     rw[ex d' hp1,ex d hds] at p
     have:d.toList.map (fun x:A=>x.1.1)=ds:=by
      apply List.ext_getElem
      ·simp[hds]
      intro i h1 h2
      simp[d]
     rw[this] at p
     exact p
    unfold lZ
    rw[List.pairwise_map,List.pairwise_iff_getElem]
    intro i j hi hj hij
    have:=hs i j (Nat.zero_le _) hij (by simpa [hp1] using hj)
    rw[getElem!_pos d' i (by simpa using hi),getElem!_pos d' j (by simpa using hj)] at this
    simpa [ltOf] using this
end Go.Proofs.YthikfnmcjipobaaGreat
/-
Fresh lists handed over as lists that nobody writes;slices.SortedFunc,where the comparison parts whatever two that are not one. No program in sight. No conditions beyond those named.
-/
namespace Go.Proofs.YthikfnmcjipobaaGreat
open Nat renaming reduceAdd→jA,reduceSub→jB,reduceLT→jC,reduceLeDiff→jD,reduceEqDiff→jE
open Int renaming reduceToNat→jF,toNat_natCast→jG,natCast_add→jH,natCast_one→jI,natCast_zero→jJ
open List renaming length_map→jK,length_cons→jL,length_nil→jM,replicate_succ→jN,replicate_zero→jO,cons_append→jP,nil_append→jQ
set_option linter.unusedSimpArgs false
set_option linter.unusedVariables false
set_option linter.unusedSectionVars false
open Go.RowKit Go.Sort Go.Shelf Go.Lib
attribute [local go_sem] Option.some.injEq Prod.mk.injEq false_and and_false Bool.true_eq_false mP jR jX gG iV if_true Bool.true_and mF dS iH gL dQ aA.ok aA.next LOp.ok LOp.next bC.ok bC.out aQ.ev bN iI cH bO cO V.undef Sh.size gH fW cK aA.dok aA.dres LOp.dok LOp.dout lI iD gI eX List.take_succ_cons List.take_zero List.take_nil List.drop_succ_cons List.drop_zero List.drop_nil List.set_cons_succ List.set_cons_zero List.getD_cons_succ List.getD_cons_zero jL jM List.map_cons List.map_nil List.all_cons List.all_nil List.mem_cons List.not_mem_nil jN jO jP jQ List.append_nil List.isEmpty_cons List.isEmpty_nil dW fJ hM Option.getD_some Option.isSome_some Option.isSome_none Nat.add_eq Nat.zero_add Nat.add_zero true_and and_true and_self true_implies implies_true false_implies forall_const forall_eq forall_eq_or_imp ne_eq not_false_eq_true not_true_eq_false Bool.not_true Bool.not_false decide_true decide_false Bool.and_true Bool.true_and Bool.and_false Bool.false_and true_or or_true false_or or_false eq_self Bool.false_eq_true mK iO gC aD fH eT eB dU cL dT aZ aX dN jG Int.toNat_zero List.take_length Hp.set_app Hp.del_app gW fV aA.plain LOp.isCall aA.dplain LOp.isStop eM kT gY lY fN V.gd_true V.gd_false fM eK eL fL bG aY aU fK eS beq_true beq_false dD dE dF cB cC bH bI cP eQ cE dK dH bJ dI dL eN eO bK dJ bF cD eP bP dG bQ bB gQ gO gP gN dM cG dX cR eG eF eE eD eC bX bW cZ cY cX cA bZ bY eJ eI eH dC dB dA cQ cF bS kM Hp.turn fT Option.isNone_some Option.isNone_none
def lst(k:Sh)(es:List V):V:=if es.isEmpty=true then .sl k .nil [] else .sl k .free es
theorem iJ{k:Sh}{es:List V}(h:∀L,dY L es)(L:Nat→Prop):(lst k es).names L:=by
 unfold lst;split<;>simp[V.names,h L,dY]
theorem mN(k:Sh)(es:List V):∃own,lst k es= .sl k own es:=by
 cases es with
 |nil=>exact⟨.nil,rfl⟩
 |cons e es=>exact⟨.free,rfl⟩
theorem aFs(k:Sh)(es:List V):(lst k es).leafy=true:=by cases es<;>rfl
def aAB(nx:Nat)(h:Hp)(k:Sh)(es:List V)(v:V)(h':Hp):Prop:=
 (es=[]∧v= .sl k .nil []∧h'=h)∨(es≠ []∧∃id,nx≤id∧v= .sl k (.tok id) es∧h'=h.set id .tip)
def aEy(nx:Nat)(h:Hp)(k:Sh)(es:List V)(v:V)(h':Hp):Prop:=
 (es=[]∧v= .sl k .nil []∧h'=h)∨(es≠ []∧∃id,nx≤id∧v= .rs id k 0 es.length∧h'=h.set id (.arr k es))
theorem aAB.loose{nx:Nat}{h:Hp}{k:Sh}{es:List V}{v:V}{h':Hp}(f:aAB nx h k es v h'):v.loose=lst k es:=by
 rcases f with⟨rfl,rfl,_⟩|⟨hne,id,_,rfl,_⟩
 ·rfl
 cases es with
 |nil=>exact absurd rfl hne
 |cons=>rfl
theorem aAB.le{nx:Nat}{h:Hp}{k:Sh}{es:List V}{v:V}{h':Hp}(f:aAB nx h k es v h')(hd:aT h nx):h.le h':=by
 rcases f with⟨_,_,rfl⟩|⟨_,id,hid,_,rfl⟩
 ·exact Hp.le_refl _
 exact iR (Hp.le_refl _) (hd.none hid) _
theorem bM.conv{P:Program}{f:FuncId}{args:List V}{h:Hp}{nx:Nat}{R R':V→Hp→Nat→Prop}(c:bM P f args h nx R)(hc:∀v h' nx',nx≤nx'→aT h' nx'→R v h' nx'→∃h2,h2.le h'∧R' v.loose h2 nx'):bM P f args h nx R':=by
 refine⟨c.1,fun K cargs hl hr hv=>(c.2 K cargs hl hr hv).mono ?_⟩
 rintro e w' ⟨K',v,cv,h',nx',rfl,he,hle,hvr,hrel,hlv,hnx,hR⟩
 obtain⟨h2,q1,q2⟩:=hc v h' nx' hnx (fun m b hm=>(hlv m (hrel.lt m b hm)).1) hR
 exact⟨K',v.loose,cv,h2,nx',rfl,he,hle,hvr.loose,hrel.weaken q1,hlv,hnx,q2⟩
theorem iG{P:Program}{f:FuncId}{args:List V}{h:Hp}{v:V}(hv:∀L,v.names L)(hc:∀h' nx,h.has h'→bM P f args h' nx fun v' h'' _=>v'.loose=v∧h'.le h''):cM P f args h v:=
 bL hv fun h' nx hh=>(hc h' nx hh).conv fun v' h'' nx' _ _ hq=>⟨h',hq.2,hq.1,rfl⟩
theorem bM.freezeA{P:Program}{f:FuncId}{args:List V}{h:Hp}{nx:Nat}{k:Sh}{G:List V→Prop}
 (c:bM P f args h nx fun v h' _=>∃es,G es∧aEy nx h k es v h'):bM P f args h nx fun v h' _=>∃es,G es∧aAB nx h k es v h':=by
 refine⟨c.1,fun K cargs hl hr hv=>(c.2 K cargs hl hr hv).mono ?_⟩
 rintro e w' ⟨K',v,cv,h',nx',rfl,he,hle,hvr,hrel,hlv,hnx,es,hG,(⟨rfl,rfl,rfl⟩|⟨hne,n,hn,rfl,rfl⟩)⟩
 ·exact⟨K',_,cv,_,nx',rfl,he,hle,hvr,hrel,hlv,hnx,[],hG, .inl ⟨rfl,rfl,rfl⟩⟩
 have hfr:¬K'.live nx':=fun hh=>Nat.lt_irrefl _ (hlv nx' hh).1
 have hset:(h.set n (.arr k es)) n=some (.arr k es):=by simp[Hp.set]
 obtain⟨K'',q1,q2,q3,q4,q5⟩:=aHV hrel hset hfr hvr
 have hdom:h n=none:=by
  cases hd:h n with
  |none=>rfl
  |some b=>exact absurd (hl n (hr.lt n b hd)) (by omega)
 have hh:((h.set n (.arr k es)).del n).set nx' .tip=h.set nx' .tip:=by
  funext x
  unfold Hp.set Hp.del
  by_cases e1:x=nx'
  ·simp[e1]
  by_cases e2:x=n
  ·subst e2;simp[e1,hdom]
  simp[e1,e2]
 rw[hh] at q5
 refine⟨K'',_,cv,_,nx'+1,q1,he,hle.trans q2,q4,q5,fun m hm=>?_,by omega,es,hG, .inr ⟨hne,nx',hnx,rfl,rfl⟩⟩
 rcases q3 m hm with hm|rfl
 ·exact⟨by have:=(hlv m hm).1;omega,(hlv m hm).2⟩
 exact⟨by omega, .inr hnx⟩
def gD{α:Type}(cf:α→α→Int)(l:List α):List α:=l.mergeSort fun x y=> !(ltOf cf y x)
theorem gJ{α:Type}(cf:α→α→Int)(l:List α):(gD cf l).Perm l:=List.mergeSort_perm _ _
theorem oV{α:Type}{cf:α→α→Int}(hT:∀x y,ltOf cf x y=false→ltOf cf y x=false→x=y):∀(a b:List α),a.Perm b→lZ cf a→lZ cf b→a=b:=by
 intro a b hp ha hb
 exact List.Perm.eq_of_pairwise (le:=fun x y=>ltOf cf y x=false) (fun x y _ _ h1 h2=>hT x y h2 h1) ha hb hp
theorem kV{α:Type}{cf:α→α→Int}(hO:SWO (ltOf cf))(l:List α):lZ cf (gD cf l):=by
 have:=List.pairwise_mergeSort (le:=fun x y=> !(ltOf cf y x)) (fun x y z h1 h2=>by
  simp only[Bool.not_eq_true'] at h1 h2⊢
  exact hO.ntrans z y x h2 h1) (fun x y=>by
  cases h1:ltOf cf y x with
  |false=>rfl
  |true=>
   cases h2:ltOf cf x y with
   |false=>rfl
   |true=>have:=hO.trans x y x h2 h1;rw[hO.irrefl] at this;cases this) l
 unfold lZ gD
 exact this.imp fun{x y} h=>by simpa using h
theorem sN{P:Program}{ρ:Ren}(L:SlLaysF0.n6 P ρ)(hen:iU P (ρ.f 6)=true)(k:Sh)(fv:V)(h:Hp)(nx:Nat):bM P (ρ.f 6) [.sl k .nil [],fv] h nx fun v h' nx'=>v= .tup []∧h'=h:=by
 refine⟨hen,fun K cargs hlv hr hv=>?_⟩
 obtain⟨hsz,hv⟩:=hv
 have hsz:cargs.size=2:=by simpa using hsz.symm
 obtain⟨c1,c2,rfl⟩:∃c1 c2,cargs=#[c1,c2]:=⟨cargs[0],cargs[1],by
  apply Array.ext
  ·simp[hsz]
  intro i h1 h2
  have:i=0∨i=1:=by simp at h2;omega
  rcases this with rfl|rfl<;>rfl⟩
 have v1:VR K (.sl k .nil []) c1:=hv 0 (by simp)
 cases v1 with
 |sl _ _ _ b off cap f hb hfit hcell hst hv hcap hnil hfull htok=>exact absurd rfl hnil
 |slnil=>
  refine(AnyF.slices_SortFunc_none L none 0 c2 K.w).mono ?_
  rintro e w' ⟨rfl,rfl⟩
  exact⟨K, .tup [], .tuple #[],h,nx,rfl,rfl, .refl K, .tup [] #[] rfl (fun i hi=>absurd hi (by simp)),hr,fun n hn=>⟨hlv n hn, .inl hn⟩,Nat.le_refl _,rfl,rfl⟩
section
variable{P:Program}{α:Type}(e:α→V)
theorem pG{ρ:Ren}(L:SlLaysF0.n6 P ρ){n:Nat}(hfit:∀x,(e x).fits (.agg n)=true)(aE:∀w,(isAgg (ρ.t 24)).run P w= .ok true w)(zE:∀w,(Go.sizeOf (ρ.t 24)).run P w= .ok n w)(hen:iU P (ρ.f 6)=true)
 {f f0 f1 f2 bs:Nat} {z:V} (hL:aH P f=some (LB.SortedFunc (.agg n) f0 f1)) (hL0:aH P f0=some (LB.Collect (.agg n) f2)) (hL2:aH P f2=some (LB.AppendSeq (.agg n) z bs)) (hz:z.fits (.agg n)=true) (hbs:bs≤140737) (hf1:f1=ρ.f 6)
 (g:Nat) (caps:List V) (hb:Hp) (xs:List α) (hit:aEx P g caps hb (xs.map fun x=>[e x])) (hl:xs.length≤100000000)
 (cf:α→α→Int) (hO:SWO (ltOf cf)) (gc:Nat) (capc:List V) (hcmp:∀x y,cM P gc ([e x,e y]++capc) Hp.none (.int .i64 (cf x y))) (h':Hp) (nx:Nat) (hh:hb.has h'):
 bM P f [.fn (.func g) [] caps, .fn (.func gc) [] capc] h' nx fun v h'' _=>∃es,(∃ys:List α,ys.Perm xs∧lZ cf ys∧es=ys.map e)∧aEy nx h' (.agg n) es v h'':=by
 refine aG hL fun hd=>?_
 simp only[jL,jM,jA,jB,jN,jO,jP,jQ,V.undef]
 repeat (first|with_reducible refine aN ?_|with_reducible refine aI ?_|with_reducible refine aP ?_|with_reducible refine aB ?_|with_reducible refine aC ?_|with_reducible refine aO ?_|(refine aR rfl (by simp only[ go_sem,reduceIte,jA,jB,jC,jD,reduceCtorEq,jE,jF];try omega) ?_;simp only[ go_sem,reduceIte,jA,jB,jC,jD,reduceCtorEq,jE,jF])|(with_reducible refine aK ?_))
 refine bU ((aDt e hfit hL0 hL2 hz hbs g caps hb xs hit hl _ _ hh).mono ?_)
 intro v h'' nx' hnx hv
 unfold gM
 rcases hv with⟨rfl,rfl,rfl⟩|⟨hne,id,hid,rfl,rfl⟩
 ·simp only[go_sem,reduceIte,jA,jB,jC,jD,reduceCtorEq,jE,jF]
  repeat (first|with_reducible refine aN ?_|with_reducible refine aI ?_|with_reducible refine aP ?_|with_reducible refine aB ?_|with_reducible refine aC ?_|with_reducible refine aO ?_|(refine aR rfl (by simp only[ go_sem,reduceIte,jA,jB,jC,jD,reduceCtorEq,jE,jF];try omega) ?_;simp only[ go_sem,reduceIte,jA,jB,jC,jD,reduceCtorEq,jE,jF])|(with_reducible refine aK ?_))
  refine bU ?_
  subst hf1
  refine(sN L hen (.agg n) _ _ _).mono ?_
  rintro v h'' nx'' _ ⟨rfl,rfl⟩
  unfold gM
  simp only[go_sem,reduceIte,jA,jB,jC,jD,reduceCtorEq,jE,jF]
  repeat (first|with_reducible refine aN ?_|with_reducible refine aI ?_|with_reducible refine aP ?_|with_reducible refine aB ?_|with_reducible refine aC ?_|with_reducible refine aO ?_|(refine aR rfl (by simp only[ go_sem,reduceIte,jA,jB,jC,jD,reduceCtorEq,jE,jF];try omega) ?_;simp only[ go_sem,reduceIte,jA,jB,jC,jD,reduceCtorEq,jE,jF])|(with_reducible refine aK ?_))
  exact cV (aM h'' (Hp.le_refl _) ⟨[],⟨[],List.Perm.refl _,List.Pairwise.nil,rfl⟩, .inl ⟨rfl,rfl,rfl⟩⟩)
 simp only[go_sem,reduceIte,jA,jB,jC,jD,reduceCtorEq,jE,jF]
 repeat (first|with_reducible refine aN ?_|with_reducible refine aI ?_|with_reducible refine aP ?_|with_reducible refine aB ?_|with_reducible refine aC ?_|with_reducible refine aO ?_|(refine aR rfl (by simp only[ go_sem,reduceIte,jA,jB,jC,jD,reduceCtorEq,jE,jF];try omega) ?_;simp only[ go_sem,reduceIte,jA,jB,jC,jD,reduceCtorEq,jE,jF])|(with_reducible refine aK ?_))
 refine bU ?_
 subst hf1
 refine(nG L n aE zE hen e hfit cf hO gc capc hcmp id xs hne _ _ (by simp[Hp.set]) (by omega)).mono ?_
 rintro v h'' nx'' _ ⟨rfl,rfl,ys,hp,hs,rfl⟩
 unfold gM
 simp only[go_sem,reduceIte,jA,jB,jC,jD,reduceCtorEq,jE,jF]
 repeat (first|with_reducible refine aN ?_|with_reducible refine aI ?_|with_reducible refine aP ?_|with_reducible refine aB ?_|with_reducible refine aC ?_|with_reducible refine aO ?_|(refine aR rfl (by simp only[ go_sem,reduceIte,jA,jB,jC,jD,reduceCtorEq,jE,jF];try omega) ?_;simp only[ go_sem,reduceIte,jA,jB,jC,jD,reduceCtorEq,jE,jF])|(with_reducible refine aK ?_))
 have hlen:ys.length=xs.length:=hp.length_eq
 refine cV (aM _ (Hp.le_refl _) ⟨ys.map e,⟨ys,hp,hs,rfl⟩, .inr ⟨?_,id,hid,?_,?_⟩⟩)
 ·intro hys
  have:ys=[]:=by simpa using hys
  subst this
  exact hne (List.length_eq_zero_iff.1 (by simpa using hlen.symm))
 ·simp only[jK,hlen,go_sem,reduceIte,jA,jB,jC,jD,reduceCtorEq,jE,jF]
 funext m;simp only[Hp.set_app];split<;>rfl
theorem xX{ρ:Ren}(L:SlLaysF0.n6 P ρ){n:Nat}(hfit:∀x,(e x).fits (.agg n)=true)(hnm:∀x L,(e x).names L)(aE:∀w,(isAgg (ρ.t 24)).run P w= .ok true w)(zE:∀w,(Go.sizeOf (ρ.t 24)).run P w= .ok n w)(hen:iU P (ρ.f 6)=true)
 {f f0 f1 f2 bs:Nat} {z:V} (hL:aH P f=some (LB.SortedFunc (.agg n) f0 f1)) (hL0:aH P f0=some (LB.Collect (.agg n) f2)) (hL2:aH P f2=some (LB.AppendSeq (.agg n) z bs)) (hz:z.fits (.agg n)=true) (hbs:bs≤140737) (hf1:f1=ρ.f 6)
 (g:Nat) (caps:List V) (hb:Hp) (xs:List α) (hit:aEx P g caps hb (xs.map fun x=>[e x])) (hl:xs.length≤100000000)
 (cf:α→α→Int) (hO:SWO (ltOf cf)) (hT:∀x y,ltOf cf x y=false→ltOf cf y x=false→x=y) (gc:Nat) (capc:List V) (hcmp:∀x y,cM P gc ([e x,e y]++capc) Hp.none (.int .i64 (cf x y))):
 cM P f [.fn (.func g) [] caps, .fn (.func gc) [] capc] hb (lst (.agg n) ((gD cf xs).map e)):=by
 refine iG (fun L=>iJ (fun L=>eV (fun x=>hnm x L) _) L) fun h' nx hh=>?_
 have c:=(pG e L hfit aE zE hen hL hL0 hL2 hz hbs hf1 g caps hb xs hit hl cf hO gc capc hcmp h' nx hh).freezeA
 refine⟨c.1,fun K cargs hlv hr hv=>((c.mono (R':=fun v' h'' _=>v'.loose=lst (.agg n) ((gD cf xs).map e)∧h'.le h'') ?_).2 K cargs hlv hr hv)⟩
 rintro v h'' nx' hnx ⟨es,⟨ys,hp,hs,rfl⟩,hf⟩
 have hy:ys=gD cf xs:=oV hT _ _ (hp.trans (gJ cf xs).symm) hs (kV hO xs)
 subst hy
 exact⟨hf.loose,hf.le (fun m b hm=>hlv m (hr.lt m b hm))⟩
end
end Go.Proofs.YthikfnmcjipobaaGreat
/-
Iterators whose order is not settled:slices.AppendSeq,Collect and SortedFunc over them. No program in sight. No conditions beyond those named.
-/
namespace Go.Proofs.YthikfnmcjipobaaGreat
open Nat renaming reduceAdd→jA,reduceSub→jB,reduceLT→jC,reduceLeDiff→jD,reduceEqDiff→jE
open Int renaming reduceToNat→jF,toNat_natCast→jG,natCast_add→jH,natCast_one→jI,natCast_zero→jJ
open List renaming length_map→jK,length_cons→jL,length_nil→jM,replicate_succ→jN,replicate_zero→jO,cons_append→jP,nil_append→jQ
set_option linter.unusedSimpArgs false
set_option linter.unusedVariables false
set_option linter.unusedSectionVars false
open Go.RowKit Go.Sort Go.Shelf
attribute [local go_sem] Option.some.injEq Prod.mk.injEq false_and and_false Bool.true_eq_false mP jR jX gG iV if_true Bool.true_and mF dS iH gL dQ aA.ok aA.next LOp.ok LOp.next bC.ok bC.out aQ.ev bN iI cH bO cO V.undef Sh.size gH fW cK aA.dok aA.dres LOp.dok LOp.dout lI iD gI eX List.take_succ_cons List.take_zero List.take_nil List.drop_succ_cons List.drop_zero List.drop_nil List.set_cons_succ List.set_cons_zero List.getD_cons_succ List.getD_cons_zero jL jM List.map_cons List.map_nil List.all_cons List.all_nil List.mem_cons List.not_mem_nil jN jO jP jQ List.append_nil List.isEmpty_cons List.isEmpty_nil dW fJ hM Option.getD_some Option.isSome_some Option.isSome_none Nat.add_eq Nat.zero_add Nat.add_zero true_and and_true and_self true_implies implies_true false_implies forall_const forall_eq forall_eq_or_imp ne_eq not_false_eq_true not_true_eq_false Bool.not_true Bool.not_false decide_true decide_false Bool.and_true Bool.true_and Bool.and_false Bool.false_and true_or or_true false_or or_false eq_self Bool.false_eq_true mK iO gC aD fH eT eB dU cL dT aZ aX dN jG Int.toNat_zero List.take_length Hp.set_app Hp.del_app gW fV aA.plain LOp.isCall aA.dplain LOp.isStop eM kT gY lY fN V.gd_true V.gd_false fM eK eL fL bG aY aU fK eS beq_true beq_false dD dE dF cB cC bH bI cP eQ cE dK dH bJ dI dL eN eO bK dJ bF cD eP bP dG bQ bB gQ gO gP gN dM cG dX cR eG eF eE eD eC bX bW cZ cY cX cA bZ bY eJ eI eH dC dB dA cQ cF bS kM Hp.turn fT Option.isNone_some Option.isNone_none
def aBG{α:Type}(P:Program)(gf:Nat)(caps:List V)(hb:Hp)(e:α→List V)(ok:List α→α→Prop)(fin:List α→Prop):Prop:=
 ∀(yn n0:Nat) (J:Hp→List α→Hp→Nat→Prop) (D:Hp→Nat→Prop),
  (∀F i h nx,J F i h nx→F.le h)→(∀F i h nx nx',J F i h nx→nx≤nx'→J F i h nx')→
  (∀F i h nx b,J F i h nx→aT h nx→n0≤nx→J (F.set nx b) i (h.set nx b) (nx+1))→
  (∀F i h nx n b b',J F i h nx→n0≤n→F n=some b→J (F.set n b') i (h.set n b') nx)→(∀h nx nx',D h nx→nx≤nx'→D h nx')→
  (∀F i x,ok i x→∀h nx,J F i h nx→aT h nx→n0≤nx→jZ P yn (e x) h nx fun v h' nx'=>(v= .bool true∧J F (i++[x]) h' nx')∨(v= .bool false∧D h' nx'))→
  ∀F h,J F [] h n0→hb.has F→aT h n0→bM P gf (.yld yn::caps) h n0 fun _ h' nx'=>(∃F' i,F.le F'∧fin i∧J F' i h' nx')∨D h' nx'
theorem xY{α:Type}{e0:α→List V}{ok:List α→α→Prop}{fin:List α→Prop}{P:Program}{g:aQ}{ps:List Nat}{asg b:cU}{Q:eZ→St→Prop}{s:St}{gf:Nat}{caps:List V}{hb:Hp}(hit:aBG P gf caps hb e0 ok fin)(hg:g.ev s.sl= .fn (.func gf) [] caps)
 (hlen:∀x,(e0 x).length=ps.length) (hd:aT s.h s.nx) (I:Hp→List α→Hp→Nat→Prop) (E:eZ→Hp→Nat→Prop)
 (hlI:∀F i h nx,I F i h nx→F.le h) (hnI:∀F i h nx nx',I F i h nx→nx≤nx'→I F i h nx') (hsI:∀F i h nx b,I F i h nx→F s.nx=none→I F i (h.set s.nx b) nx)
 (haI:∀F i h nx b,I F i h nx→aT h nx→s.nx<nx→I (F.set nx b) i (h.set nx b) (nx+1)) (huI:∀F i h nx n b b',I F i h nx→s.nx<n→F n=some b→I (F.set n b') i (h.set n b') nx)
 (hnE:∀e h nx nx',E e h nx→nx≤nx'→E e h nx') (hsE:∀e h nx b,E e h nx→E e (h.set s.nx b) nx)
 (F0:Hp) (h0:I F0 [] s.h (s.nx+1)) (hb0:hb.has F0) (hF0:F0 s.nx=none)
 (hround:∀F i x,ok i x→∀h nx X,I F i h nx→F s.nx=none→s.nx<nx→h s.nx=some X→aT h nx→
   lwp P asg (aIc s.nx X fun s1=>∀X',lwp P b (tH s.nx X' (I F (i++[x])) E) ⟨s1.sl,s1.h.set s.nx X',s1.nx⟩) ⟨putAll s.sl ps (e0 x),h,nx⟩)
 (hend:∀F i,fin i→F0.le F→∀h nx,I F i h nx→s.nx<nx→aT h nx→Q .normal ⟨s.sl,h.del s.nx,nx⟩)
 (hex:∀e h nx,E e h nx→s.nx<nx→aT h nx→(e= .ret∨∃id,e= .exit id)→Q e ⟨s.sl,h.del s.nx,nx⟩):lwp P (.range g ps asg b) Q s:=by
 simp only[lwp,hg]
 intro rcd U hpl hY
 have hset:∀(h:Hp) (b:Blk),(h.set s.nx b) s.nx=some b:=fun h b=>by simp[Hp.set]
 refine((hit s.nx (s.nx+1) (fun F i h nx=>I F i h nx∧h s.nx=some (.obj (rcd .ready none) U)∧F s.nx=none)
  (fun h nx=>(h s.nx=some (.obj (rcd .done (some .ret)) U)∧E .ret h nx)∨∃id,h s.nx=some (.obj (rcd .done (some (.exit id))) U)∧E (.exit id) h nx)
  (fun F i h nx hj=>hlI F i h nx hj.1) (fun F i h nx nx' hj hle=>⟨hnI F i h nx nx' hj.1 hle,hj.2⟩)
  (fun F i h nx b hj hdm hle=>⟨haI F i h nx b hj.1 hdm (by omega),by simp only[Hp.set];rw[if_neg (by omega)];exact hj.2.1,by simp only[Hp.set];rw[if_neg (by omega)];exact hj.2.2⟩)
  (fun F i h nx n b b' hj hle hn=>⟨huI F i h nx n b b' hj.1 (by omega) hn,by simp only[Hp.set];rw[if_neg (by omega)];exact hj.2.1,by simp only[Hp.set];rw[if_neg (by omega)];exact hj.2.2⟩)
  (fun h nx nx' hD hle=>hD.imp (fun hD=>⟨hD.1,hnE _ _ _ _ hD.2 hle⟩) (fun⟨id,hD⟩=>⟨id,hD.1,hnE _ _ _ _ hD.2 hle⟩)) ?_ F0 _ ⟨hsI _ _ _ _ _ h0 hF0,hset _ _,hF0⟩ hb0 ?_).dom).mono ?_
 ·rintro F i x hi h nx ⟨hI,hr,hFn⟩ hdom hle0
  refine hY (e0 x) h nx _ (hlen _) hr ?_
  refine oA ?_ (hround F i x hi h nx _ hI hFn (hdom _ _ hr) hr hdom)
  intro e s1 hq
  cases e with
  |exit id=>exact hq.elim
  |ret=>exact hq.elim
  |normal=>
   refine⟨hq.1,oA ?_ (hq.2 (.obj (rcd .busy none) U))⟩
   intro e s2 hq2
   cases e with
   |normal=>exact⟨hq2.1, .inl ⟨rfl,hsI _ _ _ _ _ hq2.2 hFn,hset _ _,hFn⟩⟩
   |ret=>exact⟨hq2.1, .inr ⟨rfl, .inl ⟨hset _ _,hsE _ _ _ _ hq2.2⟩⟩⟩
   |exit id=>exact⟨hq2.1, .inr ⟨rfl, .inr ⟨id,hset _ _,hsE _ _ _ _ hq2.2⟩⟩⟩
 ·intro m b hm
  unfold Hp.set at hm
  split at hm
  ·omega
  have:=hd m b hm;omega
 rintro v h' nx' _ ⟨(⟨F',i,hFF,hfin,hI,hr,_⟩|(⟨hr,hE⟩|⟨id,hr,hE⟩)),hdom,hle⟩
 ·exact .inl ⟨hr,hend F' i hfin hFF _ _ hI (by omega) hdom⟩
 ·exact .inr (.inl ⟨hr,hex _ _ _ hE (by omega) hdom (.inl rfl)⟩)
 exact .inr (.inr ⟨id,hr,hex _ _ _ hE (by omega) hdom (.inr ⟨id,rfl⟩)⟩)
section
variable{P:Program}{k:Sh}{α:Type}(e:α→V)(hfit:∀x,(e x).fits k=true)
include hfit
theorem aAw{f bs:Nat}{z:V}(hL:aH P f=some (LB.AppendSeq k z bs))(hz:z.fits k=true)(hbs:bs≤140737)(g:Nat)(caps:List V)(hb:Hp)(ok:List α→α→Prop)(fin:List α→Prop)(hit:aBG P g caps hb (fun x=>[e x]) ok fin)(hl:∀xs x,ok xs x→xs.length<100000000)
 (h':Hp) (nx:Nat) (hh:hb.has h'):
 bM P f [.sl k .nil [], .fn (.func g) [] caps] h' nx fun v h'' _=>∃xs,fin xs∧((xs=[]∧v= .sl k .nil []∧h''=h')∨(xs≠ []∧∃id,nx≤id∧v= .rs id k 0 xs.length∧h''=h'.set id (.arr k (xs.map e)))):=by
 refine aG hL fun hd=>?_
 simp only[jL,jM,jA,jB,jN,jO,jP,jQ,V.undef]
 repeat (first|with_reducible refine aN ?_|with_reducible refine aI ?_|with_reducible refine aP ?_|with_reducible refine aB ?_|with_reducible refine aC ?_|with_reducible refine aO ?_|(refine aR rfl (by simp only[ go_sem,reduceIte,jA,jB,jC,jD,reduceCtorEq,jE,jF];try omega) ?_;simp only[ go_sem,reduceIte,jA,jB,jC,jD,reduceCtorEq,jE,jF])|(with_reducible refine aK ?_))
 have hnone:∀n,nx≤n→h' n=none:=fun n hn=>aT.none hd hn
 obtain⟨I,hI⟩:∃I:Hp→List α→Hp→Nat→Prop,∀F i h nx1,I F i h nx1↔(h'.le F∧F.le h∧F nx=none∧∃acc,h nx=some (.arr .leaf [acc])∧((i=[]∧acc= .sl k .nil [])∨(i≠ []∧∃id,nx≤id∧id≠nx∧id≠nx+1∧F id=none∧acc= .rs id k 0 i.length∧h id=some (.arr k (i.map e))))):=⟨_,fun _ _ _ _=>Iff.rfl⟩
 refine xY hit rfl (by simp) (aT.set hd (by simp) (by simp) _) I (fun _ _ _=>False) ?_ ?_ ?_ ?_ ?_ (fun _ _ _ _ h=>h.elim) (fun _ _ _ _ h=>h.elim) h' ?_ hh (hnone _ (by simp)) ?_ ?_ (fun _ _ _ h=>h.elim)
 ·exact fun F i h nx1 hi=>((hI _ _ _ _).1 hi).2.1
 ·exact fun F i h nx1 nx2 hi _=>(hI _ _ _ _).2 ((hI _ _ _ _).1 hi)
 ·intro F i h nx1 b hi hFn
  obtain⟨hle,hFh,hF0,acc,h1,h2⟩:=(hI _ _ _ _).1 hi
  refine(hI _ _ _ _).2 ⟨hle,iR hFh hFn b,hF0,acc,?_,?_⟩
  ·simp only[Hp.set_app]
   rw[if_neg (by simp)];exact h1
  rcases h2 with h2|⟨hi,id,h3,h4,h5,hFi,h6,h7⟩
  ·exact .inl h2
  refine .inr ⟨hi,id,h3,h4,h5,hFi,h6,?_⟩
  simp only[Hp.set_app]
  rw[if_neg h5];exact h7
 ·intro F i h nx1 b hi hdm hlt
  obtain⟨hle,hFh,hF0,acc,h1,h2⟩:=(hI _ _ _ _).1 hi
  simp only at hlt
  have hFd:=hdm.le hFh
  have hnew:∀(G:Hp),aT G nx1→G.le (G.set nx1 b):=fun G hG=>iR (Hp.le_refl _) (aT.none hG (Nat.le_refl _)) b
  have hsub:(F.set nx1 b).le (h.set nx1 b):=fun m c hm=>by
   unfold Hp.set at hm⊢
   split
   ·rename_i e1;rw[if_pos e1] at hm;exact hm
   rename_i e1;rw[if_neg e1] at hm;exact hFh m c hm
  refine(hI _ _ _ _).2 ⟨Hp.le_trans hle (hnew F hFd),hsub,?_,acc,?_,?_⟩
  ·simp only[Hp.set_app];rw[if_neg (by omega)];exact hF0
  ·simp only[Hp.set_app];rw[if_neg (by omega)];exact h1
  rcases h2 with h2|⟨hi,id,h3,h4,h5,hFi,h6,h7⟩
  ·exact .inl h2
  have hid:id<nx1:=hdm _ _ h7
  refine .inr ⟨hi,id,h3,h4,h5,?_,h6,?_⟩
  ·simp only[Hp.set_app];rw[if_neg (by omega)];exact hFi
  simp only[Hp.set_app];rw[if_neg (by omega)];exact h7
 ·intro F i h nx1 n b b' hi hlt hn
  obtain⟨hle,hFh,hF0,acc,h1,h2⟩:=(hI _ _ _ _).1 hi
  simp only at hlt
  have hsub:(F.set n b').le (h.set n b'):=fun m c hm=>by
   unfold Hp.set at hm⊢
   split
   ·rename_i e1;rw[if_pos e1] at hm;exact hm
   rename_i e1;rw[if_neg e1] at hm;exact hFh m c hm
  refine(hI _ _ _ _).2 ⟨iR hle (hnone _ (by omega)) b',hsub,?_,acc,?_,?_⟩
  ·simp only[Hp.set_app];rw[if_neg (by omega)];exact hF0
  ·simp only[Hp.set_app];rw[if_neg (by omega)];exact h1
  rcases h2 with h2|⟨hi,id,h3,h4,h5,hFi,h6,h7⟩
  ·exact .inl h2
  have hne:id≠n:=fun e=>by rw[e,hn] at hFi;cases hFi
  refine .inr ⟨hi,id,h3,h4,h5,?_,h6,?_⟩
  ·simp only[Hp.set_app];rw[if_neg hne];exact hFi
  simp only[Hp.set_app];rw[if_neg hne];exact h7
 ·exact(hI _ _ _ _).2 ⟨Hp.le_refl _,iR (Hp.le_refl _) (hnone _ (by simp)) _,hnone _ (Nat.le_refl _), .sl k .nil [],by simp[Hp.set_app], .inl ⟨rfl,rfl⟩⟩
 ·intro F i x hi h nx1 X hii hFn hnx hX hdm
  obtain⟨hle0,hFh,hF0,acc,h1,h2⟩:=(hI _ _ _ _).1 hii
  simp only at hnx hX hFn
  have hFd:=hdm.le hFh
  have hi':=hl i x hi
  have hnx0:nx<nx1:=by omega
  have e1:(nx=nx1)=False:=by simp;omega
  have e2:(nx+1=nx1)=False:=by simp;omega
  have e4:(nx1=nx+1)=False:=by simp;omega
  have e6:(nx1=nx)=False:=by simp;omega
  have e7:(nx=nx1+2)=False:=by simp;omega
  have e8:(nx+1=nx1+2)=False:=by simp;omega
  have e9:(nx=nx1+3)=False:=by simp;omega
  have e10:(nx+1=nx1+3)=False:=by simp;omega
  simp only[putAll,List.set_cons_succ,List.set_cons_zero]
  repeat (first|with_reducible refine aN ?_|with_reducible refine aI ?_|with_reducible refine aP ?_|with_reducible refine aB ?_|with_reducible refine aC ?_|with_reducible refine aO ?_|(refine aR rfl (by simp only[hz,hfit,e1,e2,e4,go_sem,reduceIte,jA,jB,jC,jD,reduceCtorEq,jE,jF];try omega) ?_;simp only[hz,hfit,e1,e2,e4,go_sem,reduceIte,jA,jB,jC,jD,reduceCtorEq,jE,jF])|(with_reducible refine aK ?_))
  refine rS (by simp only[e1,e2,e4,go_sem,reduceIte,jA,jB,jC,jD,reduceCtorEq,jE,jF];exact hX) fun X'=>?_
  simp only[go_sem,reduceIte,jA,jB,jC,jD,reduceCtorEq,jE,jF]
  refine aI (aO ?_)
  have hone:∀(h'':Hp) (nx2 id:Nat),F.le h''→nx1≤id→h'' nx=some (.arr .leaf [.rs id k 0 (i.length+1)])→h'' (nx+1)=some X'→h'' id=some (.arr k ((i++[x]).map e))→∀sl,kL 1 (tH (nx+1) X' (I F (i++[x])) (fun _ _ _=>False)) .normal ⟨sl,h'',nx2⟩:=by
   intro h'' nx2 id q1 q2 q3 q4 q5 sl
   exact aC (oY q4 ((hI _ _ _ _).2 ⟨hle0,q1,hF0,_,q3, .inr ⟨by simp,id,by omega,by omega,by omega,aT.none hFd q2,by simp,q5⟩⟩))
  generalize hQ:kL 1 (tH (nx+1) X' (I F (i++[x])) (fun _ _ _=>False)) .normal=Qn at hone⊢
  have hFx:∀n,(nx1≤n∨n=nx∨n=nx+1)→F n=none:=fun n hn=>by
   rcases hn with hn|rfl|rfl
   ·exact aT.none hFd hn
   ·exact hF0
   exact hFn
  have hle3:∀n,(nx1≤n∨n=nx∨n=nx+1)→∀{h2:Hp},F.le h2→∀b,F.le (h2.set n b):=fun n hn h2 q b=>iR q (hFx n hn) b
  rcases h2 with⟨rfl,rfl⟩|⟨hpos,id,h3,h4,h5,hFi,rfl,h7⟩
  ·refine bR 3 rfl (by simp only[h1,hfit,hz,e1,e2,e4,e6,go_sem,reduceIte,jA,jB,jC,jD,reduceCtorEq,jE,jF]) ?_
   simp only[h1,hfit,hz,e1,e2,e4,e6,go_sem,reduceIte,jA,jB,jC,jD,reduceCtorEq,jE,jF]
   refine nC rfl rfl (by simp) (by simp only[jL,jM];omega) ?_
   refine aR rfl (by simp only[h1,hfit,hz,e1,e2,e4,e6,e7,e8,e9,e10,go_sem,reduceIte,jA,jB,jC,jD,reduceCtorEq,jE,jF];try omega) ?_
   simp only[h1,hfit,hz,e1,e2,e4,e6,e7,e8,e9,e10,go_sem,reduceIte,jA,jB,jC,jD,reduceCtorEq,jE,jF]
   refine hone _ _ (nx1+3) ?_ (by omega) ?_ ?_ ?_ _
   ·repeat (first|exact hFh|refine hle3 _ (by omega) ?_ _)
   ·simp only[h1,e1,e2,e4,e6,e7,e8,e9,e10,go_sem,reduceIte,jA,jB,jC,jD,reduceCtorEq,jE,jF]
   ·simp only[h1,e1,e2,e4,e6,e7,e8,e9,e10,go_sem,reduceIte,jA,jB,jC,jD,reduceCtorEq,jE,jF]
   simp only[jQ,List.map_cons,List.map_nil,go_sem,reduceIte,jA,jB,jC,jD,reduceCtorEq,jE,jF]
   have:(nx1+3=nx)=False:=by simp;omega
   simp only[this,go_sem,reduceIte,jA,jB,jC,jD,reduceCtorEq,jE,jF]
  have hid:id<nx1:=hdm _ _ h7
  have f1:(id=nx1)=False:=by simp;omega
  have f2:(id=nx1+2)=False:=by simp;omega
  have f3:(id=nx)=False:=by simp;omega
  have f4:(id=nx+1)=False:=by simp;omega
  have f5:(id=nx1+3)=False:=by simp;omega
  have f6:(nx=id)=False:=by simp;omega
  have f7:(nx+1=id)=False:=by simp;omega
  have f8:(nx1+3=id)=False:=by simp;omega
  have hlen:(i.map e).length=i.length:=by simp
  have hb1:(i.length+1)*bs≤140737488355328:=xD (by omega) hbs
  refine aR rfl (by simp only[h1,h7,hlen,hb1,hfit,hz,e1,e2,e4,e6,e7,e8,e9,e10,f1,f2,f3,f4,f5,f6,f7,f8,go_sem,reduceIte,jA,jB,jC,jD,reduceCtorEq,jE,jF];try omega) ?_
  simp only[h1,h7,hlen,hb1,hfit,hz,e1,e2,e4,e6,e7,e8,e9,e10,f1,f2,f3,f4,f5,f6,f7,f8,go_sem,reduceIte,jA,jB,jC,jD,reduceCtorEq,jE,jF]
  refine hone _ _ (nx1+3) ?_ (by omega) ?_ ?_ ?_ _
  ·repeat (first|exact hFh|refine hle3 _ (by omega) ?_ _|refine qE ?_ hFi)
  ·simp only[h1,e1,e2,e4,e6,e7,e8,e9,e10,go_sem,reduceIte,jA,jB,jC,jD,reduceCtorEq,jE,jF]
  ·simp only[h1,e1,e2,e4,e6,e7,e8,e9,e10,f6,f7,go_sem,reduceIte,jA,jB,jC,jD,reduceCtorEq,jE,jF]
  have:(nx1+3=nx)=False:=by simp;omega
  rw[List.map_append]
  simp only[this,List.map_cons,List.map_nil,go_sem,reduceIte,jA,jB,jC,jD,reduceCtorEq,jE,jF]
 intro F xs hfin hFF h nx1 hii hnx hdm
 obtain⟨hle0,hFh,hF0,acc,h1,h2⟩:=(hI _ _ _ _).1 hii
 have hle:=Hp.le_trans hle0 hFh
 simp only at hnx
 have e1:(nx=nx+1)=False:=by simp
 repeat (first|with_reducible refine aN ?_|with_reducible refine aI ?_|with_reducible refine aP ?_|with_reducible refine aB ?_|with_reducible refine aC ?_|with_reducible refine aO ?_|(refine aR rfl (by simp only[h1,e1,go_sem,reduceIte,jA,jB,jC,jD,reduceCtorEq,jE,jF];try omega) ?_;simp only[h1,e1,go_sem,reduceIte,jA,jB,jC,jD,reduceCtorEq,jE,jF])|(with_reducible refine aK ?_))
 rcases h2 with⟨h2,rfl⟩|⟨hpos,id,h3,h4,h5,hFi,rfl,h7⟩
 ·refine cV (aM h' ?_ ⟨xs,hfin, .inl ⟨h2,?_,rfl⟩⟩)
  ·exact qE hle (hnone _ (by simp))
  simp only[go_sem,reduceIte,jA,jB,jC,jD,reduceCtorEq,jE,jF]
 refine cV (aM (h'.set id (.arr k (xs.map e))) ?_ ⟨xs,hfin, .inr ⟨hpos,id,h3,?_,rfl⟩⟩)
 ·refine aBc (qE hle (hnone _ (by simp))) ?_
  simp only[Hp.del_app]
  rw[if_neg h5,h7]
 simp only[jK,go_sem,reduceIte,jA,jB,jC,jD,reduceCtorEq,jE,jF]
theorem aCf{f f0 bs:Nat}{z:V}(hL:aH P f=some (LB.Collect k f0))(hL0:aH P f0=some (LB.AppendSeq k z bs))(hz:z.fits k=true)(hbs:bs≤140737)(g:Nat)(caps:List V)(hb:Hp)(ok:List α→α→Prop)(fin:List α→Prop)(hit:aBG P g caps hb (fun x=>[e x]) ok fin)(hl:∀xs x,ok xs x→xs.length<100000000)
 (h':Hp) (nx:Nat) (hh:hb.has h'):
 bM P f [.fn (.func g) [] caps] h' nx fun v h'' _=>∃xs,fin xs∧((xs=[]∧v= .sl k .nil []∧h''=h')∨(xs≠ []∧∃id,nx≤id∧v= .rs id k 0 xs.length∧h''=h'.set id (.arr k (xs.map e)))):=by
 refine aG hL fun hd=>?_
 simp only[jL,jM,jA,jB,jN,jO,jP,jQ,V.undef]
 repeat (first|with_reducible refine aN ?_|with_reducible refine aI ?_|with_reducible refine aP ?_|with_reducible refine aB ?_|with_reducible refine aC ?_|with_reducible refine aO ?_|(refine aR rfl (by simp only[ go_sem,reduceIte,jA,jB,jC,jD,reduceCtorEq,jE,jF];try omega) ?_;simp only[ go_sem,reduceIte,jA,jB,jC,jD,reduceCtorEq,jE,jF])|(with_reducible refine aK ?_))
 refine bU ((aAw e hfit hL0 hz hbs g caps hb ok fin hit hl _ _ hh).mono ?_)
 intro v h'' nx' hnx hv
 unfold gM
 simp only[go_sem,reduceIte,jA,jB,jC,jD,reduceCtorEq,jE,jF]
 repeat (first|with_reducible refine aN ?_|with_reducible refine aI ?_|with_reducible refine aP ?_|with_reducible refine aB ?_|with_reducible refine aC ?_|with_reducible refine aO ?_|(refine aR rfl (by simp only[ go_sem,reduceIte,jA,jB,jC,jD,reduceCtorEq,jE,jF];try omega) ?_;simp only[ go_sem,reduceIte,jA,jB,jC,jD,reduceCtorEq,jE,jF])|(with_reducible refine aK ?_))
 exact cV (aM h'' (Hp.le_refl _) hv)
end
section
variable{P:Program}{α:Type}(e:α→V)
theorem uX{ρ:Ren}(L:SlLaysF0.n6 P ρ){n:Nat}(hfit:∀x,(e x).fits (.agg n)=true)(aE:∀w,(isAgg (ρ.t 24)).run P w= .ok true w)(zE:∀w,(Go.sizeOf (ρ.t 24)).run P w= .ok n w)(hen:iU P (ρ.f 6)=true)
 {f f0 f1 f2 bs:Nat} {z:V} (hL:aH P f=some (LB.SortedFunc (.agg n) f0 f1)) (hL0:aH P f0=some (LB.Collect (.agg n) f2)) (hL2:aH P f2=some (LB.AppendSeq (.agg n) z bs)) (hz:z.fits (.agg n)=true) (hbs:bs≤140737) (hf1:f1=ρ.f 6)
 (g:Nat) (caps:List V) (hb:Hp) (ok:List α→α→Prop) (fin:List α→Prop) (hit:aBG P g caps hb (fun x=>[e x]) ok fin) (hl:∀xs x,ok xs x→xs.length<100000000) (hfl:∀xs,fin xs→xs.length≤100000000)
 (cf:α→α→Int) (hO:SWO (ltOf cf)) (gc:Nat) (capc:List V) (hcmp:∀x y,cM P gc ([e x,e y]++capc) Hp.none (.int .i64 (cf x y))) (h':Hp) (nx:Nat) (hh:hb.has h'):
 bM P f [.fn (.func g) [] caps, .fn (.func gc) [] capc] h' nx fun v h'' _=>∃es,(∃xs ys:List α,fin xs∧ys.Perm xs∧lZ cf ys∧es=ys.map e)∧aEy nx h' (.agg n) es v h'':=by
 refine aG hL fun hd=>?_
 simp only[jL,jM,jA,jB,jN,jO,jP,jQ,V.undef]
 repeat (first|with_reducible refine aN ?_|with_reducible refine aI ?_|with_reducible refine aP ?_|with_reducible refine aB ?_|with_reducible refine aC ?_|with_reducible refine aO ?_|(refine aR rfl (by simp only[ go_sem,reduceIte,jA,jB,jC,jD,reduceCtorEq,jE,jF];try omega) ?_;simp only[ go_sem,reduceIte,jA,jB,jC,jD,reduceCtorEq,jE,jF])|(with_reducible refine aK ?_))
 refine bU ((aCf e hfit hL0 hL2 hz hbs g caps hb ok fin hit hl _ _ hh).mono ?_)
 intro v h'' nx' hnx hv
 unfold gM
 obtain⟨xs,hfin,hv⟩:=hv
 have hlx:=hfl _ hfin
 rcases hv with⟨rfl,rfl,rfl⟩|⟨hne,id,hid,rfl,rfl⟩
 ·simp only[go_sem,reduceIte,jA,jB,jC,jD,reduceCtorEq,jE,jF]
  repeat (first|with_reducible refine aN ?_|with_reducible refine aI ?_|with_reducible refine aP ?_|with_reducible refine aB ?_|with_reducible refine aC ?_|with_reducible refine aO ?_|(refine aR rfl (by simp only[ go_sem,reduceIte,jA,jB,jC,jD,reduceCtorEq,jE,jF];try omega) ?_;simp only[ go_sem,reduceIte,jA,jB,jC,jD,reduceCtorEq,jE,jF])|(with_reducible refine aK ?_))
  refine bU ?_
  subst hf1
  refine(sN L hen (.agg n) _ _ _).mono ?_
  rintro v h'' nx'' _ ⟨rfl,rfl⟩
  unfold gM
  simp only[go_sem,reduceIte,jA,jB,jC,jD,reduceCtorEq,jE,jF]
  repeat (first|with_reducible refine aN ?_|with_reducible refine aI ?_|with_reducible refine aP ?_|with_reducible refine aB ?_|with_reducible refine aC ?_|with_reducible refine aO ?_|(refine aR rfl (by simp only[ go_sem,reduceIte,jA,jB,jC,jD,reduceCtorEq,jE,jF];try omega) ?_;simp only[ go_sem,reduceIte,jA,jB,jC,jD,reduceCtorEq,jE,jF])|(with_reducible refine aK ?_))
  exact cV (aM h'' (Hp.le_refl _) ⟨[],⟨[],[],hfin,List.Perm.refl _,List.Pairwise.nil,rfl⟩, .inl ⟨rfl,rfl,rfl⟩⟩)
 simp only[go_sem,reduceIte,jA,jB,jC,jD,reduceCtorEq,jE,jF]
 repeat (first|with_reducible refine aN ?_|with_reducible refine aI ?_|with_reducible refine aP ?_|with_reducible refine aB ?_|with_reducible refine aC ?_|with_reducible refine aO ?_|(refine aR rfl (by simp only[ go_sem,reduceIte,jA,jB,jC,jD,reduceCtorEq,jE,jF];try omega) ?_;simp only[ go_sem,reduceIte,jA,jB,jC,jD,reduceCtorEq,jE,jF])|(with_reducible refine aK ?_))
 refine bU ?_
 subst hf1
 refine(nG L n aE zE hen e hfit cf hO gc capc hcmp id xs hne _ _ (by simp[Hp.set]) (by omega)).mono ?_
 rintro v h'' nx'' _ ⟨rfl,rfl,ys,hp,hs,rfl⟩
 unfold gM
 simp only[go_sem,reduceIte,jA,jB,jC,jD,reduceCtorEq,jE,jF]
 repeat (first|with_reducible refine aN ?_|with_reducible refine aI ?_|with_reducible refine aP ?_|with_reducible refine aB ?_|with_reducible refine aC ?_|with_reducible refine aO ?_|(refine aR rfl (by simp only[ go_sem,reduceIte,jA,jB,jC,jD,reduceCtorEq,jE,jF];try omega) ?_;simp only[ go_sem,reduceIte,jA,jB,jC,jD,reduceCtorEq,jE,jF])|(with_reducible refine aK ?_))
 have hlen:ys.length=xs.length:=hp.length_eq
 refine cV (aM _ (Hp.le_refl _) ⟨ys.map e,⟨xs,ys,hfin,hp,hs,rfl⟩, .inr ⟨?_,id,hid,?_,?_⟩⟩)
 ·intro hys
  have:ys=[]:=by simpa using hys
  subst this
  exact hne (List.length_eq_zero_iff.1 (by simpa using hlen.symm))
 ·simp only[jK,hlen,go_sem,reduceIte,jA,jB,jC,jD,reduceCtorEq,jE,jF]
 funext m;simp only[Hp.set_app];split<;>rfl
theorem wK{ρ:Ren}(L:SlLaysF0.n6 P ρ){n:Nat}(hfit:∀x,(e x).fits (.agg n)=true)(hnm:∀x L,(e x).names L)(aE:∀w,(isAgg (ρ.t 24)).run P w= .ok true w)(zE:∀w,(Go.sizeOf (ρ.t 24)).run P w= .ok n w)(hen:iU P (ρ.f 6)=true)
 {f f0 f1 f2 bs:Nat} {z:V} (hL:aH P f=some (LB.SortedFunc (.agg n) f0 f1)) (hL0:aH P f0=some (LB.Collect (.agg n) f2)) (hL2:aH P f2=some (LB.AppendSeq (.agg n) z bs)) (hz:z.fits (.agg n)=true) (hbs:bs≤140737) (hf1:f1=ρ.f 6)
 (g:Nat) (caps:List V) (hb:Hp) (xs0:List α) (ok:List α→α→Prop) (hit:aBG P g caps hb (fun x=>[e x]) ok (fun xs=>xs.Perm xs0)) (hl:∀xs x,ok xs x→xs.length<100000000) (hfl:xs0.length≤100000000)
 (cf:α→α→Int) (hO:SWO (ltOf cf)) (hT:∀x y,ltOf cf x y=false→ltOf cf y x=false→x=y) (gc:Nat) (capc:List V) (hcmp:∀x y,cM P gc ([e x,e y]++capc) Hp.none (.int .i64 (cf x y))):
 cM P f [.fn (.func g) [] caps, .fn (.func gc) [] capc] hb (lst (.agg n) ((gD cf xs0).map e)):=by
 refine iG (fun L=>iJ (fun L=>eV (fun x=>hnm x L) _) L) fun h' nx hh=>?_
 have c:=(uX e L hfit aE zE hen hL hL0 hL2 hz hbs hf1 g caps hb ok _ hit hl (fun xs hp=>by rw[hp.length_eq];exact hfl) cf hO gc capc hcmp h' nx hh).freezeA
 refine⟨c.1,fun K cargs hlv hr hv=>((c.mono (R':=fun v' h'' _=>v'.loose=lst (.agg n) ((gD cf xs0).map e)∧h'.le h'') ?_).2 K cargs hlv hr hv)⟩
 rintro v h'' nx' hnx ⟨es,⟨xs,ys,hfin,hp,hs,rfl⟩,hf⟩
 have hy:ys=gD cf xs0:=oV hT _ _ ((hp.trans hfin).trans (gJ cf xs0).symm) hs (kV hO xs0)
 subst hy
 exact⟨hf.loose,hf.le (fun m b hm=>hlv m (hr.lt m b hm))⟩
end
end Go.Proofs.YthikfnmcjipobaaGreat
