/-
Texts of this proof,one behind the other. No conditions.
-/
import Derived.Test.YtecepaehmojpgaaGreatKb
import Derived.Laws.MakeOwn
import Derived.Lib.AppendZeros
import Derived.RangeFuncNested
import Derived.Deep.LoopGhost
import Derived.Sort.LoopGhostIn
import Derived.TacticsIn
import Derived.OrdersIn
import Derived.RangeFuncSeq
import Derived.RangeFuncBound
import Derived.Scope
import Derived.StillTailTactics
set_option linter.unusedSimpArgs false
set_option linter.unusedVariables false
set_option linter.unusedSectionVars false
namespace Go.Proofs.YtecepaehmojpgaaGreat
open Go.RowKit
def fF(a:Nat)(own:Own)(ys:List V):Own:=
 match own with
 | .nil=>if ys.isEmpty then .nil else .tok a
 | .full=>if ys.isEmpty then .full else .tok a
 | .tok _=> .tok a
 | .free=> .free
def eQ(h:Hp)(a:Nat)(own:Own)(ys:List V):Hp:=
 match own with
 | .nil=>if ys.isEmpty then h else h.set a .tip
 | .full=>if ys.isEmpty then h else h.set a .tip
 | .tok n=>(h.del n).set a .tip
 | .free=>h
def tP(K:Ker)(k:Sh)(es:List V)(cv:Value):Prop:=∃a cap,cv= .slice a es.length cap∧es.length≤cap∧(∀e∈es,e.fits k=true)∧∃f:Nat→Value,
 (∀j,j<es.length*k.size→∃ad,a=some ad∧K.w.cell? (ad.add j)=some (f j))∧(∀j,j<es.length*k.size→(f j).oneCell'=true)∧
 ∀i,i<es.length→∀j,j<k.size→VR K ((es.getD i V.undef).cell j) (f (i*k.size+j))
theorem aBv{K:Ker}{k:Sh}{es:List V}(hfit:∀e∈es,e.fits k=true){f:Nat→Value}(hv:∀i,i<es.length→∀j,j<k.size→VR K ((es.getD i V.undef).cell j) (f (i*k.size+j))):∀j,j<es.length*k.size→(f j).oneCell'=true:=by
 intro j hj
 obtain⟨h1,h2,h3⟩:=vI hj
 have:=hv (j / k.size) h1 (j % k.size) h2
 rw[h3] at this
 have hmem:es.getD (j / k.size) V.undef∈es:=by
  rw[List.getD_eq_getElem?_getD,List.getElem?_eq_getElem h1];exact List.getElem_mem _
 refine this.oneCell ?_
 have hf:=hfit _ hmem
 cases k with
 |leaf=>
  have:j % Sh.leaf.size=0:=by simp[Sh.size,Nat.mod_one]
  rw[this]
  simp only[V.fits] at hf
  generalize es.getD (j / Sh.leaf.size) V.undef=e at hf
  cases e<;>first|rfl|(simp[V.leafy] at hf)
 |agg n=>
  generalize es.getD (j / (Sh.agg n).size) V.undef=e at hf
  cases e<;>simp[V.fits] at hf
  rename_i cs
  show((cs).getD (j % (Sh.agg n).size) V.undef).leafy=true
  have hlt:j % (Sh.agg n).size<cs.length:=by rw[hf.1];exact h2
  rw[List.getD_eq_getElem?_getD,List.getElem?_eq_getElem hlt]
  exact hf.2 _ (List.getElem_mem _)
theorem aCJ{K:Ker}{k:Sh}{own:Own}{es:List V}{cv:Value}(r:VR K (.sl k own es) cv):tP K k es cv:=by
 cases r with
 |slnil=>exact⟨none,0,rfl,Nat.le_refl _,fun e he=>absurd he (by simp),fun _=>Go.undef,fun j hj=>by simp at hj,fun j hj=>by simp at hj,fun i hi=>by simp at hi⟩
 |slz _ ad=>exact⟨some ad,0,rfl,Nat.le_refl _,fun e he=>absurd he (by simp),fun _=>Go.undef,fun j hj=>by simp at hj,fun j hj=>by simp at hj,fun i hi=>by simp at hi⟩
 |sl _ _ _ b off cap f hb hfit hcell hst hv hcap hnil hfull htok=>
  exact⟨some ⟨b,off,none⟩,cap,rfl,hcap,hfit,f,fun j hj=>⟨_,rfl,by rw[dU];exact hcell j hj⟩,aBv hfit hv,hv⟩
def dX(h:Hp):V→Option (Sh×List V)
 | .sl k _ es=>some (k,es)
 | .rs n k off len=>match h n with
  |some (.arr k' es)=>if k'=k∧off+len≤es.length then some (k,(es.drop off).take len) else none
  |_=>none
 |_=>none
theorem aBN{K:Ker}{h:Hp}(hr:Rel K h){v:V}{cv:Value}(r:VR K v cv){k:Sh}{es:List V}(he:dX h v=some (k,es)):tP K k es cv:=by
 cases v with
 |sl k' own es'=>simp only[dX,Option.some.injEq,Prod.mk.injEq] at he;obtain⟨rfl,rfl⟩:=he;exact aCJ r
 |rs n k' off len=>
  simp only[dX] at he
  cases hn:h n with
  |none=>simp[hn] at he
  |some b=>cases b with
   |tip=>simp[hn] at he
   |obj o _=>simp[hn] at he
   |mp _ _=>simp[hn] at he
   |mit _ _ _ _=>simp[hn] at he
   |arr k2 es2=>
    rw[hn] at he
    simp only at he
    split at he
    ·rename_i hc
     obtain⟨rfl,hle⟩:=hc
     simp only[Option.some.injEq,Prod.mk.injEq] at he
     obtain⟨rfl,rfl⟩:=he
     have hb:=hr.blk n _ hn
     cases hb with
     |arr _ _ c T hh hsz himm hfit hv=>
      cases r with
      |rs _ _ _ _ cap hl hcap hm=>
       have hlen:((es2.drop off).take len).length=len:=by simp;omega
       have hfit':∀e∈(es2.drop off).take len,e.fits k2=true:=fun e he=>hfit e (List.mem_of_mem_drop (List.mem_of_mem_take he))
       have hget:∀i,i<len→((es2.drop off).take len).getD i V.undef=es2.getD (off+i) V.undef:=fun i hi=>by
        simp only[List.getD_eq_getElem?_getD,List.getElem?_take,if_pos hi,List.getElem?_drop]
       have hv':∀i,i<((es2.drop off).take len).length→∀j,j<k2.size→VR K ((((es2.drop off).take len).getD i V.undef).cell j) ((fun j=>c.getD (off*k2.size+j) Go.undef) (i*k2.size+j)):=by
        intro i hi j hj
        rw[hlen] at hi
        rw[hget i hi]
        have:=hv (off+i) (by omega) j hj
        have e:(off+i)*k2.size+j=off*k2.size+(i*k2.size+j):=by rw[Nat.add_mul];omega
        rw[e] at this
        exact this
       refine⟨some ⟨K.mu n,off*k2.size,none⟩,cap,by rw[hlen],by rw[hlen];exact hcap,hfit',fun j=>c.getD (off*k2.size+j) Go.undef,?_,aBv hfit' hv',hv'⟩
       intro j hj
       rw[hlen] at hj
       refine⟨_,rfl,?_⟩
       rw[dU]
       have:(off+len)*k2.size≤es2.length*k2.size:=Nat.mul_le_mul_right _ hle
       rw[Nat.add_mul] at this
       simp only[World.cell?,hh]
       rw[Array.getD_eq_getD_getElem?,Array.getElem?_eq_getElem (by omega)]
       rfl
    simp at he
 |_=>simp[dX] at he
theorem wG{k:Sh}{xs ys:List V}(hx:∀e∈xs,e.fits k=true)(hy:∀e∈ys,e.fits k=true):∀e∈xs++ys,e.fits k=true:=fun e he=>by
 rcases List.mem_append.1 he with h|h
 ·exact hx e h
 exact hy e h
theorem lP{K:Ker}{k:Sh}{xs ys:List V}{f g:Nat→Value}{c:Nat→Value}(hx:∀i,i<xs.length→∀j,j<k.size→VR K ((xs.getD i V.undef).cell j) (f (i*k.size+j)))
 (hy:∀i,i<ys.length→∀j,j<k.size→VR K ((ys.getD i V.undef).cell j) (g (i*k.size+j)))
 (hf:∀j,j<xs.length*k.size→c j=f j) (hg:∀j,j<ys.length*k.size→c (xs.length*k.size+j)=g j):
 ∀i,i<(xs++ys).length→∀j,j<k.size→VR K (((xs++ys).getD i V.undef).cell j) (c (i*k.size+j)):=by
 intro i hi j hj
 rw[List.length_append] at hi
 by_cases e:i<xs.length
 ·have e1:(xs++ys).getD i V.undef=xs.getD i V.undef:=by simp only[List.getD_eq_getElem?_getD];rw[List.getElem?_append_left e]
  rw[e1,hf _ (dS hj e)]
  exact hx i e j hj
 have e1:(xs++ys).getD i V.undef=ys.getD (i-xs.length) V.undef:=by simp only[List.getD_eq_getElem?_getD];rw[List.getElem?_append_right (by omega)]
 have e2:i*k.size+j=xs.length*k.size+((i-xs.length)*k.size+j):=by
  rw[←Nat.add_assoc,←Nat.add_mul]
  congr 2
  omega
 rw[e1,e2,hg _ (dS hj (by omega))]
 exact hy _ (by omega) j hj
theorem aAF{P:Program}{K:Ker}{h:Hp}(hr:Rel K h){a:Nat}(ha:¬K.live a){k:Sh}{t e:TypeId}{i:TypeInfo}{z:Value}(ht:P.underlying t=some (.slice e))(hi:P.info? e=some i)(hz:i.zero=some z)
 (hsz:i.size=k.size) (hzs:z.cells.size=k.size) (hpos:0<k.size) {ty:TypeId} {own:Own} {xs ys:List V} {cx cy:Value} (hx:VR K (.sl k own xs) cx) (hy:tP K k ys cy)
 (hown:own≠ .free) (htokn:∀n,own= .tok n→h n=some .tip) (hb:(xs.length+ys.length)*i.bytes≤140737488355328) (hm:xs.length+ys.length≤9223372036854775807):
 ∃cv K',(Builtin.append_ #[t,t] ty #[cx,cy]).run P K.w= .ok cv K'.w∧K.le K'∧(∀n,K'.live n→K.live n∨n=a)∧VR K' (.sl k (fF a own ys) (xs++ys)) cv∧Rel K' (eQ h a own ys):=by
 obtain⟨ay,capy,rfl,hcy,hfy,g,gc,gl,gv⟩:=hy
 obtain⟨ax,capx,rfl,hcx,hfx,f,fc,fl,fv⟩:=aCJ hx
 have hfit:=wG hfx hfy
 have hnl:((List.range (ys.length*k.size)).map g).length=ys.length*i.size:=by simp[hsz]
 have hol:((List.range (xs.length*k.size)).map f).length=xs.length*i.size:=by simp[hsz]
 have hz2:z.cells.size=i.size:=by omega
 --what is new,wherever it lies
 have grown:∀(K0:Ker) (h0:Hp) (w0:World) (nc:Nat),K0.w=w0→K.le K0→(∀n,K0.live n→K.live n)→Rel K0 h0→xs.length+ys.length≤nc→
  ∃K',K'.w=w0.alloc (.cells (((List.range (xs.length*k.size)).map f).toArray++((List.range (ys.length*k.size)).map g).toArray++Builtin.zeroCells z.cells (nc-(xs.length+ys.length))) e)∧K.le K'∧(∀n,K'.live n→K.live n∨n=a)∧
   VR K' (.sl k (.tok a) (xs++ys)) (.slice (some ⟨w0.heap.size,0,none⟩) (xs++ys).length nc)∧Rel K' (h0.set a .tip):=by
  intro K0 h0 w0 nc hw0 hle0 hl0 hr0 hnc
  subst hw0
  have hcs:∀j,j<(xs.length+ys.length)*k.size→(((List.range (xs.length*k.size)).map f).toArray++((List.range (ys.length*k.size)).map g).toArray++Builtin.zeroCells z.cells (nc-(xs.length+ys.length))).getD j Go.undef=if j<xs.length*k.size then f j else g (j-xs.length*k.size):=by
   intro j hj
   rw[Nat.add_mul] at hj
   rw[Array.getD_eq_getD_getElem?,Array.getElem?_append_left (by simp;omega)]
   by_cases e:j<xs.length*k.size
   ·rw[Array.getElem?_append_left (by simp;omega),if_pos e]
    simp[e]
   rw[Array.getElem?_append_right (by simp;omega),if_neg e]
   have:j-xs.length*k.size<ys.length*k.size:=by omega
   simp[this]
  obtain⟨K',q1,q2,q3,q4,q5⟩:=lZ (K:=K0) (h:=h0) hr0 (fun hl=>ha (hl0 a hl)) (k:=k) (es:=xs++ys) hfit (((List.range (xs.length*k.size)).map f).toArray++((List.range (ys.length*k.size)).map g).toArray++Builtin.zeroCells z.cells (nc-(xs.length+ys.length))) e nc (by simpa using hnc)
   (by
     simp only[Array.size_append,List.size_toArray,List.length_map,List.length_range,size_zeroCells,hzs]
     have:nc*k.size=(xs.length+ys.length)*k.size+(nc-(xs.length+ys.length))*k.size:=by rw[←Nat.add_mul];congr 1;omega
     rw[this,Nat.add_mul]
     omega)
   (lP (f:=f) (g:=g) (fun i hi j hj=>(fv i hi j hj).mono hle0) (fun i hi j hj=>(gv i hi j hj).mono hle0) (c:=fun j=>(((List.range (xs.length*k.size)).map f).toArray++((List.range (ys.length*k.size)).map g).toArray++Builtin.zeroCells z.cells (nc-(xs.length+ys.length))).getD j Go.undef)
     (fun j hj=>by rw[hcs j (by rw[Nat.add_mul];omega),if_pos hj])
     (fun j hj=>by rw[hcs _ (by rw[Nat.add_mul];omega),if_neg (by omega)];congr 1;omega))
  exact⟨K',q1,hle0.trans q2,fun n hn=>(q3 n hn).imp (hl0 n) id,q4,q5⟩
 have hxe:xs=[]→((List.range (xs.length*k.size)).map f).toArray=#[]:=fun e=>by subst e;simp
 by_cases hye:ys=[]
 ·--nothing is appended
  subst hye
  have hrun:∀(b:Option Addr),(Builtin.append_ #[t,t] ty #[.slice b xs.length capx, .slice ay 0 capy]).run P K.w= .ok (.slice b xs.length capx) K.w:=by
   intro b
   have h1:xs.length≤capx:=hcx
   cases ay<;>cases b<;>simp[Builtin.append_,run_underlying ht,sizeOf,typeInfo,hi,Builtin.lenOf,Builtin.firstCells,loadCells,loadCellsFrom,h1,storeCells]
  simp only[List.append_nil]
  cases hx with
  |slnil=>exact⟨_,K,hrun none, .refl K,fun n hn=> .inl hn,by simpa [fF] using VR.slnil k,by simpa [eQ] using hr⟩
  |slz=>exact absurd rfl hown
  |sl _ _ _ b off cap f' hb' hfit' hcell hst hv hcap hnil hfull htok=>
   cases own with
   |nil=>exact absurd rfl hnil
   |free=>exact absurd rfl hown
   |full=>exact⟨_,K,hrun _, .refl K,fun n hn=> .inl hn,by simpa [fF] using VR.sl k .full xs b off capx f' hb' hfit' hcell hst hv hcap hnil hfull htok,by simpa [eQ] using hr⟩
   |tok n=>
    have htn:=htokn n rfl
    obtain⟨hln,htk⟩:=htok n rfl
    have hle:=K.le_claim (b:=K.mu n) (m:=K.imm (K.mu n)) ha (Nat.le_refl _)
    refine⟨_,K.claim a (K.mu n) (K.imm (K.mu n)),hrun _,hle,fun n hn=>hn.symm,?_,?_⟩
    ·refine .sl k (.tok a) xs b off capx f' hb' hfit' hcell (fun j hj=>hle.still hb' (hst j hj)) (fun i hi j hj=>(hv i hi j hj).mono hle) hcap (by simp) (by simp) ?_
     intro m hm
     injection hm with hm
     subst hm
     refine⟨.inl rfl,?_⟩
     rcases htk with q|⟨q1,q2,q3⟩
     ·exact .inl q
     refine .inr ⟨by simp[Ker.claim,q1],?_,q3⟩
     have hbr:=hr.blk n _ htn
     cases hbr with
     |tip c T hh hi ht=>simp[Ker.claim,hi,q2]
    refine hr.claim htn ha (Nat.le_refl _) ?_
    have hbr:=hr.blk n _ htn
    cases hbr with
    |tip c T hh hi ht=>exact .tip c T (by simpa [Ker.claim] using hh) (by simp[Ker.claim]) (by simpa [Ker.claim,hi] using ht)
 have hyl:0<ys.length:=List.length_pos_iff.2 hye
 have hemp:ys.isEmpty=false:=by cases ys with
  |nil=>exact absurd rfl hye
  |cons _ _=>rfl
 obtain⟨ady,hady⟩:∃ad,ay=some ad:=by
  obtain⟨ad,h1,_⟩:=gc 0 (Nat.mul_pos hyl hpos)
  exact⟨ad,h1⟩
 subst hady
 have hnews:∀j u,((List.range (ys.length*k.size)).map g)[j]?=some u→K.w.cell? (ady.add j)=some u:=by
  intro j u hju
  have hlt:j<ys.length*k.size:=by
   have:=(List.getElem?_eq_some_iff.1 hju).1
   simpa using this
  obtain⟨ad,e1,e2⟩:=gc j hlt
  injection e1 with e1
  subst e1
  rw[e2]
  simp[hlt] at hju
  rw[hju]
 cases hx with
 |slz=>exact absurd rfl hown
 |slnil=>
  have hrun:=run_append_nil (P:=P) K.w t ty e i z ht hi hz ady ys.length capy _ hnl hnews hyl (by simp at hm;omega) (by simp at hb;omega)
  obtain⟨K',q1,q2,q3,q4,q5⟩:=grown K.drew h K.w.drew (grownCap K.w ys.length 0 e) rfl K.le_drew (fun n hn=>hn) hr.drew (by have:=grownCap_ge K.w ys.length 0 e;simpa using this)
  refine⟨_,K',?_,q2,q3,by simpa [fF,hemp] using q4,by simpa [eQ,hemp] using q5⟩
  rw[q1]
  rw[show([]:List V).length=0 from rfl,hrun]
  simp
 |sl _ _ _ b off cap f' hb' hfit' hcell hst hv hcap hnil hfull htok=>
  have holds:∀j u,((List.range (xs.length*k.size)).map f)[j]?=some u→K.w.cell? ((⟨b,off,none⟩:Addr).add j)=some u:=by
   intro j u hju
   have hlt:j<xs.length*k.size:=by
    have:=(List.getElem?_eq_some_iff.1 hju).1
    simpa using this
   obtain⟨ad,e1,e2⟩:=fc j hlt
   injection e1 with e1
   subst e1
   rw[e2]
   simp[hlt] at hju
   rw[hju]
  by_cases hroom:xs.length+ys.length≤capx
  ·--in place
   cases own with
   |nil=>exact absurd rfl hnil
   |free=>exact absurd rfl hown
   |full=>have:=hfull rfl;omega
   |tok n=>
    have htn:=htokn n rfl
    obtain⟨hln,htk⟩:=htok n rfl
    rcases htk with q|⟨q1,q2,T,m,q4,q5⟩
    ·omega
    have q3:¬K.fro b:=by rw[←q1];exact hr.base n _ htn
    have hbr:=hr.blk n _ htn
    cases hbr with
    |tip c T' hh hi' ht'=>
     rw[q1] at hh hi'
     have hcs:m=c.size:=by simp[World.shape?,hh] at q4;exact q4.2.symm
     subst hcs
     have hfitc:off+xs.length*k.size+ys.length*k.size≤c.size:=by
      have:(xs.length+ys.length)*k.size≤capx*k.size:=Nat.mul_le_mul_right _ hroom
      rw[Nat.add_mul] at this
      omega
     have hst':=run_storeCells_at P b (off+xs.length*k.size) T' ((List.range (ys.length*k.size)).map g) 0 c K.w hh (by simpa using hfitc) (by
      intro u hu
      obtain⟨j,hj,rfl⟩:=List.mem_map.1 hu
      exact gl j (by simpa using hj))
     simp only[Nat.add_zero,List.length_map,List.length_range] at hst'
     generalize hc':(c.toList.take (off+xs.length*k.size)++(List.range (ys.length*k.size)).map g++c.toList.drop (off+xs.length*k.size+ys.length*k.size)).toArray=c' at hst'
     have hcsz:c'.size=c.size:=by rw[←hc'];simp;omega
     have hcl:∀j,j<off+xs.length*k.size→c'[j]?=c[j]?:=by
      intro j hj
      rw[←hc']
      simp only[List.getElem?_toArray,List.append_assoc]
      rw[List.getElem?_append_left (by simp;omega),List.getElem?_take,if_pos hj]
      simp
     have hcr:∀j,j<ys.length*k.size→c'[off+xs.length*k.size+j]?=some (g j):=by
      intro j hj
      rw[←hc']
      simp only[List.getElem?_toArray,List.append_assoc]
      rw[List.getElem?_append_right (by simp;omega),List.getElem?_append_left (by simp;omega)]
      have:off+xs.length*k.size+j-(c.toList.take (off+xs.length*k.size)).length=j:=by simp;omega
      rw[this]
      simp[hj]
     have himm:K.imm b=off+xs.length*k.size:=by rw[hi',q2]
     have hle1:=K.le_row b c' c T' hh hcsz q3 (fun o ho=>hcl o (by omega))
     have hrow:=hr.row (b1:= .tip) htn c' c T' (by rw[q1];exact hh) hcsz (fun o ho=>hcl o (by rw[q1] at ho;omega)) (by
      rw[q1]
      exact .tip c' T' (by show(K.w.setRow b c').heap[K.mu n]?=_;rw[q1];exact setRow_heap K.w b c c' T' (0,0) hh) (by show K.imm (K.mu n)=K.tp n;rw[q1,himm,q2]) (by show K.tp n≤_;rw[hcsz];omega))
     rw[q1] at hrow
     have hn1:(h.set n .tip) n=some .tip:=by simp[Hp.set]
     have hmu1:(K.row b c').mu n=b:=q1
     have hle2:=(K.row b c').le_claim (a:=a) (b:=b) (m:=off+(xs.length+ys.length)*k.size) ha (by show K.imm b≤_;rw[himm,Nat.add_mul];omega)
     have hcl2:=hrow.claim hn1 (a:=a) (m:=off+(xs.length+ys.length)*k.size) ha (by rw[hmu1];show K.imm b≤_;rw[himm,Nat.add_mul];omega) (b1:= .tip) (by
      rw[hmu1]
      refine .tip c' T' ?_ ?_ ?_
      ·show(K.w.setRow b c').heap[if a=a then b else K.mu a]?=_
       rw[if_pos rfl]
       exact setRow_heap K.w b c c' T' (0,0) hh
      ·simp[Ker.claim]
      simp only[Ker.claim,if_true];rw[hcsz,Nat.add_mul];omega)
     rw[hmu1] at hcl2
     have hdel:((h.set n .tip).del n).set a .tip=(h.del n).set a .tip:=by
      funext x
      unfold Hp.set Hp.del
      by_cases e1:x=a
      ·simp[e1]
      by_cases e2:x=n<;>simp[e1,e2]
     rw[hdel] at hcl2
     have hle:=hle1.trans hle2
     have hsz2:xs.length*i.size=xs.length*k.size:=by rw[hsz]
     have hf:=run_firstCells_some (P:=P) K.w i.size ys.length ady ys.length capy _ hnl hnews
     refine⟨.slice (some ⟨b,off,none⟩) (xs.length+ys.length) capx,(K.row b c').claim a b (off+(xs.length+ys.length)*k.size),?_,hle,fun n hn=>hn.symm,?_,by simpa [eQ] using hcl2⟩
     ·have had:(⟨b,off,none⟩:Addr).add (xs.length*k.size)=⟨b,off+xs.length*k.size,none⟩:=dU _ _ _
      simp only[hsz] at hf
      simp only[Builtin.append_,Sem.run_bind,run_underlying ht,Result.andThen_ok,sizeOf,typeInfo,hi,Builtin.lenOf,hroom,hf,hsz,had]
      simp[run_underlying ht,hroom,hf,hi,hsz,had,hst',Builtin.lenOf]
      rfl
     have hres:=VR.sl (K:=(K.row b c').claim a b (off+(xs.length+ys.length)*k.size)) k (.tok a) (xs++ys) b off capx (fun j=>c'.getD (off+j) Go.undef)
      (by show b<(K.w.setRow b c').heap.size;rw[oK];exact hb') hfit
      (fun j hj=>by
        show(K.w.setRow b c').cell? _=_
        simp only[World.cell?,setRow_heap K.w b c c' T' (0,0) hh]
        rw[List.length_append,Nat.add_mul] at hj
        rw[Array.getD_eq_getD_getElem?,Array.getElem?_eq_getElem (by omega)]
        rfl)
      (fun j hj=> .inr (by
        show off+j<(if b=b then _ else _)
        rw[if_pos rfl]
        rw[List.length_append] at hj
        omega))
      (lP (f:=f') (g:=g) (fun i hi j hj=>(hv i hi j hj).mono hle) (fun i hi j hj=>(gv i hi j hj).mono hle) (c:=fun j=>c'.getD (off+j) Go.undef)
        (fun j hj=>by
          have h1:=hcell j hj
          simp only[World.cell?,hh] at h1
          have h2:=hcl (off+j) (by omega)
          simp only[Array.getD_eq_getD_getElem?,h2]
          simp at h1
          rw[h1];rfl)
        (fun j hj=>by
          have h2:=hcr j hj
          simp only[Array.getD_eq_getD_getElem?,←Nat.add_assoc,h2]
          rfl))
      (by simpa using hroom) (by simp) (by simp)
      (fun n' hn'=>by
        injection hn' with hn'
        subst hn'
        refine⟨.inl rfl, .inr ⟨by simp[Ker.claim],by simp[Ker.claim],T',c.size,?_,q5⟩⟩
        show(K.w.setRow b c').shape? b=_
        simp only[World.shape?,setRow_heap K.w b c c' T' (0,0) hh,hcsz])
     simpa [fF] using hres
  --it grows
  have hrun:=run_append_grow (P:=P) K.w t ty e i z ht hi hz ⟨b,off,none⟩ xs.length capx _ hol holds ady ys.length capy _ hnl hnews (by omega) (by omega) (growslice_fits (by omega) hb)
  have hd:∀n,own= .tok n→(h.del n).le h:=fun n _=>h.del_le n
  have hne:own≠ .nil:=hnil
  have hge:=grownCap_ge K.w (xs.length+ys.length) capx e
  cases own with
  |nil=>exact absurd rfl hnil
  |free=>exact absurd rfl hown
  |full=>
   obtain⟨K',q1,q2,q3,q4,q5⟩:=grown K.drew h K.w.drew (grownCap K.w (xs.length+ys.length) capx e) rfl K.le_drew (fun n hn=>hn) hr.drew hge
   exact⟨_,K',by rw[q1];exact hrun,q2,q3,by simpa [fF,hemp] using q4,by simpa [eQ,hemp] using q5⟩
  |tok n=>
   obtain⟨K',q1,q2,q3,q4,q5⟩:=grown K.drew (h.del n) K.w.drew (grownCap K.w (xs.length+ys.length) capx e) rfl K.le_drew (fun n hn=>hn) (hr.drew.weaken (h.del_le n)) hge
   exact⟨_,K',by rw[q1];exact hrun,q2,q3,by simpa [fF] using q4,by simpa [eQ] using q5⟩
theorem gO{K:Ker}{h:Hp}(hr:Rel K h){a:Nat}(ha:¬K.live a){k:Sh}{es:List V}(hf:∀e∈es,e.fits k=true)(c:Array Value)(e:TypeId)(cap:Nat)(hcap:es.length≤cap)(hsz:cap*k.size=c.size)
 (hv:∀i,i<es.length→∀j,j<k.size→VR K ((es.getD i V.undef).cell j) (c.getD (i*k.size+j) Go.undef)):
 ∃K',K'.w=K.w.alloc (.cells c e)∧K.le K'∧(∀n,K'.live n→K.live n∨n=a)∧VR K' (.rs a k 0 es.length) (.slice (some ⟨K.w.heap.size,0,none⟩) es.length cap)∧Rel K' (h.set a (.arr k es)):=by
 have hle:=K.le_push a ha (.cells c e) 0
 have hmu:(K.push a (.cells c e) 0).mu a=K.w.heap.size:=by simp[Ker.push]
 have hlen:es.length*k.size≤cap*k.size:=Nat.mul_le_mul_right _ hcap
 refine⟨K.push a (.cells c e) 0,rfl,hle,fun n hn=>hn.symm,?_,?_⟩
 ·have:=VR.rs (K:=K.push a (.cells c e) 0) a k 0 es.length cap (.inl rfl) hcap ⟨e,c.size,by
   rw[hmu]
   show(K.w.alloc _).shape? _=_
   simp only[World.shape?,cQ],by simpa using hsz⟩
  rw[hmu] at this
  simpa using this
 refine hr.set_push ha _ _ (.arr k es c e ?_ (by omega) ?_ hf fun i hi j hj=>(hv i hi j hj).mono hle)
 ·rw[hmu];exact cQ _ _
 rw[hmu];simp[Ker.push]
theorem aDR{k:Sh}{xs ys:List V}{f g:Nat→Value}{z:Array Value}(hz:z.size=k.size)(nc:Nat)(hnc:xs.length+ys.length≤nc):
 (((List.range (xs.length*k.size)).map f).toArray++((List.range (ys.length*k.size)).map g).toArray++Builtin.zeroCells z (nc-(xs.length+ys.length))).size=nc*k.size∧
 (∀j,j<xs.length*k.size→(((List.range (xs.length*k.size)).map f).toArray++((List.range (ys.length*k.size)).map g).toArray++Builtin.zeroCells z (nc-(xs.length+ys.length))).getD j Go.undef=f j)∧
 ∀j,j<ys.length*k.size→(((List.range (xs.length*k.size)).map f).toArray++((List.range (ys.length*k.size)).map g).toArray++Builtin.zeroCells z (nc-(xs.length+ys.length))).getD (xs.length*k.size+j) Go.undef=g j:=by
 refine⟨?_,?_,?_⟩
 ·simp only[Array.size_append,List.size_toArray,List.length_map,List.length_range,size_zeroCells,hz]
  have:nc*k.size=(xs.length+ys.length)*k.size+(nc-(xs.length+ys.length))*k.size:=by rw[←Nat.add_mul];congr 1;omega
  rw[this,Nat.add_mul]
 ·intro j hj
  rw[Array.getD_eq_getD_getElem?,Array.getElem?_append_left (by simp;omega),Array.getElem?_append_left (by simp;omega)]
  simp[hj]
 intro j hj
 rw[Array.getD_eq_getD_getElem?,Array.getElem?_append_left (by simp;omega),Array.getElem?_append_right (by simp)]
 simp[hj]
theorem lW{P:Program}{K:Ker}{h:Hp}(hr:Rel K h){a:Nat}(ha:¬K.live a){k:Sh}{t e:TypeId}{i:TypeInfo}{z:Value}(ht:P.underlying t=some (.slice e))(hi:P.info? e=some i)(hz:i.zero=some z)
 (hsz:i.size=k.size) (hzs:z.cells.size=k.size) (hpos:0<k.size) {ty:TypeId} {x:V} {xs ys:List V} {cx cy:Value} (hx:VR K x cx) (hy:tP K k ys cy) (hye:ys≠ [])
 (hown:(x= .sl k .nil []∧xs=[])∨∃n,x= .rs n k 0 xs.length∧h n=some (.arr k xs)) (hb:(xs.length+ys.length)*i.bytes≤140737488355328) (hm:xs.length+ys.length≤9223372036854775807):
 ∃cv K',(Builtin.append_ #[t,t] ty #[cx,cy]).run P K.w= .ok cv K'.w∧K.le K'∧(∀n,K'.live n→K.live n∨n=a)∧VR K' (.rs a k 0 (xs.length+ys.length)) cv∧Rel K' ((match x with| .rs n _ _ _=>h.del n|_=>h).set a (.arr k (xs++ys))):=by
 obtain⟨ay,capy,rfl,hcy,hfy,g,gc,gl,gv⟩:=hy
 have hyl:0<ys.length:=List.length_pos_iff.2 hye
 have hnl:((List.range (ys.length*k.size)).map g).length=ys.length*i.size:=by simp[hsz]
 obtain⟨ady,hady⟩:∃ad,ay=some ad:=by
  obtain⟨ad,h1,_⟩:=gc 0 (Nat.mul_pos hyl hpos)
  exact⟨ad,h1⟩
 subst hady
 have hnews:∀j u,((List.range (ys.length*k.size)).map g)[j]?=some u→K.w.cell? (ady.add j)=some u:=by
  intro j u hju
  have hlt:j<ys.length*k.size:=by
   have:=(List.getElem?_eq_some_iff.1 hju).1
   simpa using this
  obtain⟨ad,e1,e2⟩:=gc j hlt
  injection e1 with e1
  subst e1
  rw[e2]
  simp[hlt] at hju
  rw[hju]
 rcases hown with⟨rfl,rfl⟩|⟨n,rfl,hn⟩
 ·cases hx with
  |slnil=>
   have hrun:=run_append_nil (P:=P) K.w t ty e i z ht hi hz ady ys.length capy _ hnl hnews hyl (by simp at hm;omega) (by simp at hb;omega)
   have hge:ys.length≤grownCap K.w ys.length 0 e:=by have:=grownCap_ge K.w ys.length 0 e;simpa using this
   obtain⟨c1,c2,c3⟩:=aDR (k:=k) (xs:=[]) (ys:=ys) (f:=g) (g:=g) (z:=z.cells) hzs (grownCap K.w ys.length 0 e) (by simpa using hge)
   simp only[List.length_nil,Nat.zero_mul,Nat.zero_add] at c1 c3
   obtain⟨K',q1,q2,q3,q4,q5⟩:=gO (K:=K.drew) (h:=h) hr.drew (a:=a) ha hfy _ e (grownCap K.w ys.length 0 e) hge (by rw[c1]) (fun i hi j hj=>by
    rw[c3 _ (dS hj hi)]
    exact(gv i hi j hj).mono K.le_drew)
   refine⟨_,K',?_,K.le_drew.trans q2,q3,by simpa using q4,by simpa using q5⟩
   rw[q1,hrun]
   simp
   exact⟨rfl,rfl⟩
  |sl _ _ _ b off cap f' hb' hfit' hcell hst hv hcap hnil hfull htok=>exact absurd rfl hnil
 have hbr:=hr.blk n _ hn
 cases hbr with
 |arr _ _ c T hh hcs himm hfit hv=>
  cases hx with
  |rs _ _ _ _ cap hl hcap hmm=>
   obtain⟨T',m,hm1,hm2⟩:=hmm
   have hcm:m=c.size:=by simp[World.shape?,hh] at hm1;exact hm1.2.symm
   subst hcm
   simp only[Nat.zero_add,Nat.zero_mul] at hm2⊢
   have hfitA:=wG hfit hfy
   by_cases hroom:xs.length+ys.length≤cap
   ·have hfitc:xs.length*k.size+ys.length*k.size≤c.size:=by
     have:(xs.length+ys.length)*k.size≤cap*k.size:=Nat.mul_le_mul_right _ hroom
     rw[Nat.add_mul] at this
     omega
    have hst':=run_storeCells_at P (K.mu n) (xs.length*k.size) T ((List.range (ys.length*k.size)).map g) 0 c K.w hh (by simpa using hfitc) (by
     intro u hu
     obtain⟨j,hj,rfl⟩:=List.mem_map.1 hu
     exact gl j (by simpa using hj))
    simp only[Nat.add_zero,List.length_map,List.length_range] at hst'
    generalize hc':(c.toList.take (xs.length*k.size)++(List.range (ys.length*k.size)).map g++c.toList.drop (xs.length*k.size+ys.length*k.size)).toArray=c' at hst'
    have hcsz:c'.size=c.size:=by rw[←hc'];simp;omega
    have hcl:∀j,j<xs.length*k.size→c'[j]?=c[j]?:=by
     intro j hj
     rw[←hc']
     simp only[List.getElem?_toArray,List.append_assoc]
     rw[List.getElem?_append_left (by simp;omega),List.getElem?_take,if_pos hj]
     simp
    have hcr:∀j,j<ys.length*k.size→c'[xs.length*k.size+j]?=some (g j):=by
     intro j hj
     rw[←hc']
     simp only[List.getElem?_toArray,List.append_assoc]
     rw[List.getElem?_append_right (by simp;omega),List.getElem?_append_left (by simp;omega)]
     have:xs.length*k.size+j-(c.toList.take (xs.length*k.size)).length=j:=by simp;omega
     rw[this]
     simp[hj]
    have hle1:=K.le_row (K.mu n) c' c T hh hcsz (hr.base n _ hn) (fun o ho=>by rw[himm] at ho;omega)
    have hvs:∀i,i<(xs++ys).length→∀j,j<k.size→VR (K.row (K.mu n) c') (((xs++ys).getD i V.undef).cell j) (c'.getD (i*k.size+j) Go.undef):=
     lP (f:=fun j=>c.getD j Go.undef) (g:=g) (fun i hi j hj=>(hv i hi j hj).mono hle1) (fun i hi j hj=>(gv i hi j hj).mono hle1) (c:=fun j=>c'.getD j Go.undef)
      (fun j hj=>by simp only[Array.getD_eq_getD_getElem?,hcl j hj]) (fun j hj=>by simp only[Array.getD_eq_getD_getElem?,hcr j hj];rfl)
    have hrow:=hr.row (b1:= .arr k (xs++ys)) hn c' c T hh hcsz (fun o ho=>by rw[himm] at ho;omega) (.arr k (xs++ys) c' T (by show(K.w.setRow (K.mu n) c').heap[K.mu n]?=_;exact setRow_heap K.w (K.mu n) c c' T (0,0) hh) (by rw[List.length_append,Nat.add_mul,hcsz];exact hfitc) himm hfitA hvs)
    have hn1:(h.set n (.arr k (xs++ys))) n=some (.arr k (xs++ys)):=by simp[Hp.set]
    have hmu1:(K.row (K.mu n) c').mu n=K.mu n:=rfl
    have hle2:=(K.row (K.mu n) c').le_claim (a:=a) (b:=K.mu n) (m:=0) ha (by show K.imm (K.mu n)≤0;omega)
    have hcl2:=hrow.claim hn1 (a:=a) (m:=0) ha (by show K.imm (K.mu n)≤0;omega) (b1:= .arr k (xs++ys)) (.arr k (xs++ys) c' T (by
     show(K.w.setRow (K.mu n) c').heap[if a=a then K.mu n else K.mu a]?=_
     rw[if_pos rfl]
     exact setRow_heap K.w (K.mu n) c c' T (0,0) hh) (by rw[List.length_append,Nat.add_mul,hcsz];exact hfitc) (by simp[Ker.claim]) hfitA (fun i hi j hj=>(hvs i hi j hj).mono hle2))
    have hdel:((h.set n (.arr k (xs++ys))).del n).set a (.arr k (xs++ys))=(h.del n).set a (.arr k (xs++ys)):=by
     funext x
     unfold Hp.set Hp.del
     by_cases e1:x=a
     ·simp[e1]
     by_cases e2:x=n<;>simp[e1,e2]
    rw[hdel] at hcl2
    have hf:=run_firstCells_some (P:=P) K.w i.size ys.length ady ys.length capy _ hnl hnews
    refine⟨.slice (some ⟨K.mu n,0,none⟩) (xs.length+ys.length) cap,(K.row (K.mu n) c').claim a (K.mu n) 0,?_,hle1.trans hle2,fun n hn=>hn.symm,?_,hcl2⟩
    ·have had:(⟨K.mu n,0,none⟩:Addr).add (xs.length*k.size)=⟨K.mu n,xs.length*k.size,none⟩:=by rw[dU,Nat.zero_add]
     simp only[hsz] at hf
     simp only[Builtin.append_,Sem.run_bind,run_underlying ht,Result.andThen_ok,sizeOf,typeInfo,hi,Builtin.lenOf,hroom,hf,hsz,had]
     simp[run_underlying ht,hroom,hf,hi,hsz,had,hst',Builtin.lenOf]
     rfl
    have:=VR.rs (K:=(K.row (K.mu n) c').claim a (K.mu n) 0) a k 0 (xs.length+ys.length) cap (.inl rfl) hroom ⟨T,c.size,by
     have hma:((K.row (K.mu n) c').claim a (K.mu n) 0).mu a=K.mu n:=by simp[Ker.claim]
     rw[hma]
     show(K.w.setRow (K.mu n) c').shape? _=_
     simp only[World.shape?,setRow_heap K.w (K.mu n) c c' T (0,0) hh,hcsz],by simpa using hm2⟩
    have hma:((K.row (K.mu n) c').claim a (K.mu n) 0).mu a=K.mu n:=by simp[Ker.claim]
    rw[hma] at this
    simpa using this
   have hol:((List.range (xs.length*k.size)).map fun j=>c.getD j Go.undef).length=xs.length*i.size:=by simp[hsz]
   have holds:∀j u,((List.range (xs.length*k.size)).map fun j=>c.getD j Go.undef)[j]?=some u→K.w.cell? ((⟨K.mu n,0,none⟩:Addr).add j)=some u:=by
    intro j u hju
    have hlt:j<xs.length*k.size:=by
     have:=(List.getElem?_eq_some_iff.1 hju).1
     simpa using this
    rw[dU,Nat.zero_add]
    simp[hlt] at hju
    simp only[World.cell?,hh]
    rw[←hju,Array.getElem?_eq_getElem (by omega)]
    rfl
   have hrun:=run_append_grow (P:=P) K.w t ty e i z ht hi hz ⟨K.mu n,0,none⟩ xs.length cap _ hol holds ady ys.length capy _ hnl hnews (by omega) (by omega) (growslice_fits (by omega) hb)
   have hge:=grownCap_ge K.w (xs.length+ys.length) cap e
   obtain⟨c1,c2,c3⟩:=aDR (k:=k) (xs:=xs) (ys:=ys) (f:=fun j=>c.getD j Go.undef) (g:=g) (z:=z.cells) hzs (grownCap K.w (xs.length+ys.length) cap e) hge
   obtain⟨K',q1,q2,q3,q4,q5⟩:=gO (K:=K.drew) (h:=h.del n) (hr.drew.weaken (h.del_le n)) (a:=a) ha hfitA _ e (grownCap K.w (xs.length+ys.length) cap e) (by simpa using hge) (by rw[c1])
    (lP (f:=fun j=>c.getD j Go.undef) (g:=g) (fun i hi j hj=>(hv i hi j hj).mono K.le_drew) (fun i hi j hj=>(gv i hi j hj).mono K.le_drew) (c:=fun j=>_) c2 c3)
   refine⟨_,K',?_,K.le_drew.trans q2,q3,by simpa using q4,by simpa using q5⟩
   rw[q1]
   exact hrun
theorem aGZ(off:Nat)(c0:Array Value)(cs:Array Value):
 (cs.zipIdx.foldl (fun a (c,j)=>a.setIfInBounds (off+j) c) c0).size=c0.size∧
 ∀j,j<c0.size→(cs.zipIdx.foldl (fun a (c,j)=>a.setIfInBounds (off+j) c) c0).getD j Go.undef=if off≤j∧j<off+cs.size then cs.getD (j-off) Go.undef else c0.getD j Go.undef:=by
 have key:∀(cs:List Value) (s:Nat) (c0:Array Value),((cs.zipIdx s).foldl (fun cs (p:Value×Nat)=>cs.setIfInBounds (off+p.2) p.1) c0).size=c0.size∧
  ∀j,j<c0.size→((cs.zipIdx s).foldl (fun cs (p:Value×Nat)=>cs.setIfInBounds (off+p.2) p.1) c0).getD j Go.undef=if off+s≤j∧j<off+s+cs.length then cs.getD (j-(off+s)) Go.undef else c0.getD j Go.undef:=by
  intro cs
  induction cs with
  |nil=>intro s c0;exact⟨rfl,fun j hj=>by simp;omega⟩
  |cons c cs ih=>
   intro s c0
   obtain⟨i1,i2⟩:=ih (s+1) (c0.setIfInBounds (off+s) c)
   rw[List.zipIdx_cons,List.foldl_cons]
   refine⟨by rw[i1];simp,fun j hj=>?_⟩
   rw[i2 j (by simpa using hj)]
   by_cases e:j=off+s
   ·subst e
    simp[hj,Array.getD_eq_getD_getElem?]
    intro h1
    omega
   by_cases e2:off+(s+1)≤j∧j<off+(s+1)+cs.length
   ·rw[if_pos e2,if_pos (by simp;omega)]
    have:j-(off+s)=(j-(off+(s+1)))+1:=by omega
    rw[this]
    simp
   rw[if_neg e2,if_neg (by simp;omega)]
   simp only[Array.getD_eq_getD_getElem?]
   rw[Array.getElem?_setIfInBounds_ne (by omega)]
 have e:cs.zipIdx.foldl (fun a (c,j)=>a.setIfInBounds (off+j) c) c0=(cs.toList.zipIdx 0).foldl (fun cs (p:Value×Nat)=>cs.setIfInBounds (off+p.2) p.1) c0:=by
  rw[←Array.foldl_toList,Array.toList_zipIdx]
 obtain⟨k1,k2⟩:=key cs.toList 0 c0
 refine⟨by rw[e,k1],fun j hj=>?_⟩
 rw[e,k2 j hj]
 simp[Array.getD_eq_getD_getElem?,List.getD_eq_getElem?_getD]
theorem aCg(k:Nat)(place:Nat→Option (Nat×Nat))(hp:∀i,place i=some (i*k,k)):∀(cvs:List Value) (s:Nat) (c0:Array Value),(∀cv∈cvs,cv.cells.size=k)→(s+cvs.length)*k≤c0.size→
 ∃c,Instr.fill place c0 ((cvs.zipIdx s).map fun p=>(p.2,p.1))=some c∧c.size=c0.size∧(∀j,j<s*k→c.getD j Go.undef=c0.getD j Go.undef)∧
  ∀i,i<cvs.length→∀j,j<k→c.getD ((s+i)*k+j) Go.undef=(cvs.getD i Go.undef).cells.getD j Go.undef
 | [],s,c0,_,_=>⟨c0,rfl,rfl,fun _ _=>rfl,fun i hi=>absurd hi (by simp)⟩
 |cv::cvs,s,c0,hc,hs=>by
  have h0:=hc cv (by simp)
  simp only[List.length_cons] at hs
  have hs1:s*k+k≤c0.size:=by
   have:(s+1)*k≤(s+(cvs.length+1))*k:=Nat.mul_le_mul_right _ (by omega)
   rw[Nat.add_mul,Nat.one_mul] at this
   omega
  obtain⟨f1,f2⟩:=aGZ (s*k) c0 cv.cells
  generalize hc1:cv.cells.zipIdx.foldl (fun a (c,j)=>a.setIfInBounds (s*k+j) c) c0=c1 at f1 f2
  obtain⟨c,g1,g2,g3,g4⟩:=aCg k place hp cvs (s+1) c1 (fun x hx=>hc x (by simp[hx])) (by rw[f1,show s+1+cvs.length=s+(cvs.length+1) by omega];exact hs)
  refine⟨c,?_,by rw[g2,f1],?_,?_⟩
  ·rw[List.zipIdx_cons,List.map_cons,Instr.fill]
   simp only[hp,h0]
   rw[if_neg (by simp;omega),hc1]
   exact g1
  ·intro j hj
   rw[g3 j (by rw[Nat.add_mul];omega),f2 j (by omega),if_neg (by omega)]
  intro i hi j hj
  cases i with
  |zero=>
   rw[Nat.add_zero,g3 _ (by rw[Nat.add_mul];omega),f2 _ (by omega),if_pos (by omega)]
   simp
  |succ i=>
   have:=g4 i (by simpa using hi) j hj
   have e:s+1+i=s+(i+1):=by omega
   rw[e] at this
   simpa using this
theorem aAD{P:Program}{K:Ker}{h:Hp}(hr:Rel K h){a:Nat}(ha:¬K.live a){k:Sh}{t e:TypeId}{i:TypeInfo}{z:Value}(ht:P.underlying t=some (.slice e))(hi:P.info? e=some i)(hz:i.zero=some z)
 (hsz:i.size=k.size) {vs:List V} {cvs:List Value} (hl:vs.length=cvs.length) (hv:∀i,i<vs.length→VR K (vs.getD i V.undef) (cvs.getD i Go.undef)) (hf:∀v∈vs,v.fits k=true) (hsmall:cvs.length*k.size≤16777216):
 ∃cv K',(Instr.buildSlice t cvs.length ((cvs.zipIdx 0).map fun p=>(p.2,p.1)).toArray).run P K.w= .ok cv K'.w∧K.le K'∧(∀n,K'.live n→K.live n∨n=a)∧VR K' (.sl k (.tok a) vs) cv∧Rel K' (h.set a .tip):=by
 have hmem:∀i,i<vs.length→vs.getD i V.undef∈vs:=fun i hi=>by
  rw[List.getD_eq_getElem?_getD,List.getElem?_eq_getElem hi];exact List.getElem_mem _
 have hcs:∀cv∈cvs,cv.cells.size=k.size:=by
  intro cv hcv
  obtain⟨j,hj,rfl⟩:=List.getElem_of_mem hcv
  have:=(hv j (by omega)).cells (hf _ (hmem j (by omega)))
  rw[List.getD_eq_getElem?_getD (l:=cvs),List.getElem?_eq_getElem hj] at this
  exact this.2.1
 obtain⟨zs,hzs0,hzs1⟩:∃zs:Array Value,(cvs.length*k.size=0→zs=#[])∧(¬cvs.length*k.size=0→zs=z.cells):=by
  by_cases e0:cvs.length*k.size=0
  ·exact⟨#[],fun _=>rfl,fun h=>absurd e0 h⟩
  exact⟨z.cells,fun h=>absurd h e0,fun _=>rfl⟩
 obtain⟨c,g1,g2,g3,g4⟩:=aCg k.size (fun i=>some (i*k.size,k.size)) (fun _=>rfl) cvs 0 ((Array.range (cvs.length*k.size)).map (fun x=>zs[x % zs.size]!)) hcs (by simp)
 obtain⟨K',q1,q2,q3,q4,q5⟩:=lZ hr ha hf c e cvs.length (by omega) (by rw[g2];simp) (fun i hi j hj=>by
  have h1:=(hv i hi).cells (hf _ (hmem i hi))
  have h2:=g4 i (by omega) j hj
  rw[Nat.zero_add] at h2
  rw[h2]
  exact h1.2.2.1 j hj)
 refine⟨_,K',?_,q2,q3,q4,q5⟩
 rw[q1]
 have hgt:¬(cvs.length*i.size>2 ^ 24):=by rw[hsz];omega
 rw[hl]
 simp only[hsz] at hgt
 have hsizeOf:(sizeOf e).run P K.w= .ok k.size K.w:=by simp[sizeOf,typeInfo,hi,hsz]
 by_cases e0:cvs.length*k.size=0
 ·rw[hzs0 e0] at g1
  simp only[Instr.buildSlice,Sem.run_bind,run_underlying ht,Result.andThen_ok,hsizeOf,if_neg hgt,Sem.run_pure,if_pos e0,g1]
  rfl
 rw[hzs1 e0] at g1
 have hzv:(zeroValue e).run P K.w= .ok z K.w:=by simp[zeroValue,typeInfo,hi,hz]
 simp only[Instr.buildSlice,Sem.run_bind,run_underlying ht,Result.andThen_ok,hsizeOf,if_neg hgt,Sem.run_pure,if_neg e0,hzv,g1]
 rfl
def bR(t:Sh)(o:Nat)(e v:V):V:=
 match t,e with
 | .leaf, .agg cs=> .agg (cs.set o v)
 | .leaf,_=>v
 | .agg m, .agg cs=>if o=0∧cs.length=m then v else .agg (cs.take o++v.cells++cs.drop (o+m))
 | .agg _,e=>e
theorem wL{k t:Sh}{o:Nat}{e v:V}(hp:cJ k t o)(hf:e.fits k=true)(hv:v.fits t=true):(bR t o e v).fits k=true∧o+t.size≤k.size∧
 ∀j,j<k.size→(bR t o e v).cell j=if o≤j∧j<o+t.size then v.cell (j-o) else e.cell j:=by
 cases k with
 |leaf=>
  cases t with
  |leaf=>
   simp only[cJ] at hp;subst hp
   have e1:bR .leaf 0 e v=v:=by
    cases e<;>first|rfl|(simp[V.fits,V.leafy] at hf)
   refine⟨by rw[e1];exact hv,by simp[Sh.size],?_⟩
   intro j hj
   have:j=0:=by simp[Sh.size] at hj;exact hj
   subst this
   rw[e1,if_pos (by simp[Sh.size])]
  |agg m=>exact hp.elim
 |agg n=>
  cases e with
  |agg cs=>
   simp only[V.fits,Bool.and_eq_true,decide_eq_true_eq,List.all_eq_true] at hf
   obtain⟨h1,h2⟩:=hf
   cases t with
   |leaf=>
    simp only[cJ] at hp
    simp only[V.fits] at hv
    have hvc:v.cells=[v]:=by cases v<;>first|rfl|(simp[V.leafy] at hv)
    refine⟨?_,by simp[Sh.size];omega,?_⟩
    ·simp only[bR,V.fits,Bool.and_eq_true,decide_eq_true_eq,List.all_eq_true,List.length_set]
     refine⟨h1,fun x hx=>?_⟩
     rcases List.mem_or_eq_of_mem_set hx with hx|rfl
     ·exact h2 x hx
     exact hv
    intro j hj
    show(cs.set o v).getD j V.undef=_
    by_cases e:o=j
    ·subst e
     rw[if_pos (by simp[Sh.size])]
     simp only[V.cell,hvc,Nat.sub_self,List.getD_eq_getElem?_getD]
     rw[List.getElem?_set_self (by omega)]
     rfl
    rw[if_neg (by simp[Sh.size];omega)]
    simp only[V.cell,V.cells,List.getD_eq_getElem?_getD]
    rw[List.getElem?_set_ne e]
   |agg m=>
    simp only[cJ] at hp
    cases v with
    |agg us=>
     simp only[V.fits,Bool.and_eq_true,decide_eq_true_eq,List.all_eq_true] at hv
     obtain⟨g1,g2⟩:=hv
     unfold bR
     by_cases hc:o=0∧cs.length=m
     ·simp only[if_pos hc]
      refine⟨?_,by simp[Sh.size];omega,fun j hj=>?_⟩
      ·simp only[V.fits,Bool.and_eq_true,decide_eq_true_eq,List.all_eq_true]
       exact⟨by omega,g2⟩
      have hj':j<n:=hj
      have hsz:(Sh.agg m).size=m:=rfl
      rw[if_pos (by rw[hsz];omega)]
      have:j-o=j:=by omega
      rw[this]
     simp only[if_neg hc]
     refine⟨?_,by simp[Sh.size];omega,?_⟩
     ·simp only[V.fits,V.cells,Bool.and_eq_true,decide_eq_true_eq,List.all_eq_true]
      refine⟨by simp;omega,fun x hx=>?_⟩
      rcases List.mem_append.1 hx with hx|hx
      ·rcases List.mem_append.1 hx with hx|hx
       ·exact h2 x (List.mem_of_mem_take hx)
       exact g2 x hx
      exact h2 x (List.mem_of_mem_drop hx)
     intro j hj
     have hj:j<n:=hj
     have hsz:(Sh.agg m).size=m:=rfl
     rw[hsz]
     show(cs.take o++us++cs.drop (o+m)).getD j V.undef=_
     simp only[V.cell,V.cells,List.getD_eq_getElem?_getD,List.append_assoc]
     by_cases e1:o≤j∧j<o+m
     ·rw[if_pos e1,List.getElem?_append_right (by simp;omega),List.getElem?_append_left (by simp;omega)]
      have:j-(cs.take o).length=j-o:=by simp;omega
      rw[this]
     rw[if_neg e1]
     by_cases e2:j<o
     ·rw[List.getElem?_append_left (by simp;omega),List.getElem?_take,if_pos e2]
     rw[List.getElem?_append_right (by simp;omega),List.getElem?_append_right (by simp;omega),List.getElem?_drop]
     congr 2
     simp
     omega
    |_=>simp[V.fits] at hv
  |_=>simp[V.fits] at hf
theorem aEd{K:Ker}{t:Sh}{v:V}{cv:Value}(r:VR K v cv)(hf:v.fits t=true):cv.cells.toList.length=t.size∧∀x∈cv.cells.toList,x.oneCell'=true:=by
 obtain⟨c1,c2,c3,c4⟩:=r.cells hf
 refine⟨by simpa using c2,fun x hx=>?_⟩
 obtain⟨j,hj,rfl⟩:=List.getElem_of_mem hx
 have hj':j<t.size:=by rw[←c2];simpa using hj
 have:=c3 j hj'
 rw[Array.getD_eq_getD_getElem?,Array.getElem?_eq_getElem (by omega)] at this
 exact this.oneCell (c4 j hj')
theorem aBH{P:Program}{K:Ker}{h:Hp}(hr:Rel K h){t:TypeId}{s:Sh}(hs:cO P t=some s){n:Nat}{k:Sh}{i o:Nat}{es:List V}(hn:h n=some (.arr k es))(hi:i<es.length)(hp:cJ k s o){v:V}{cv:Value}(hv:VR K v cv)(hf:v.fits s=true):
 ∃K',(Instr.storeAt t (.pointer (some ⟨K.mu n,i*k.size+o,none⟩)) cv).run P K.w= .ok () K'.w∧K.le K'∧(∀m,K'.live m→K.live m)∧Rel K' (h.set n (.arr k (es.set i (bR s o (es.getD i V.undef) v)))):=by
 obtain⟨cl,co⟩:=aEd hv hf
 have hbr:=hr.blk n _ hn
 cases hbr with
 |arr _ _ c T hh hsz himm hfit hvs=>
  have hmem:es.getD i V.undef∈es:=by
   rw[List.getD_eq_getElem?_getD,List.getElem?_eq_getElem hi];exact List.getElem_mem _
  obtain⟨p1,p2,p3⟩:=wL hp (hfit _ hmem) hf
  have hend:i*k.size+k.size≤es.length*k.size:=by
   have:(i+1)*k.size≤es.length*k.size:=Nat.mul_le_mul_right _ hi
   rw[Nat.add_mul,Nat.one_mul] at this
   exact this
  have hst:=run_storeCells_at P (K.mu n) (i*k.size+o) T cv.cells.toList 0 c K.w hh (by rw[cl];omega) co
  simp only[Nat.add_zero,cl] at hst
  generalize hc':(c.toList.take (i*k.size+o)++cv.cells.toList++c.toList.drop (i*k.size+o+s.size)).toArray=c' at hst
  have hcsz:c'.size=c.size:=by rw[←hc'];simp only[List.size_toArray,List.length_append,List.length_take,List.length_drop,Array.length_toList,cl];omega
  have hget:∀j,j<c.size→c'.getD j Go.undef=if i*k.size+o≤j∧j<i*k.size+o+s.size then cv.cells.getD (j-(i*k.size+o)) Go.undef else c.getD j Go.undef:=by
   intro j hj
   rw[←hc']
   simp only[Array.getD_eq_getD_getElem?,List.getElem?_toArray,List.append_assoc]
   by_cases e1:i*k.size+o≤j∧j<i*k.size+o+s.size
   ·rw[if_pos e1,List.getElem?_append_right (by simp;omega),List.getElem?_append_left (by rw[cl];simp;omega)]
    have:j-(c.toList.take (i*k.size+o)).length=j-(i*k.size+o):=by simp;omega
    rw[this]
    simp
   rw[if_neg e1]
   by_cases e2:j<i*k.size+o
   ·rw[List.getElem?_append_left (by simp;omega),List.getElem?_take,if_pos e2]
    simp
   rw[List.getElem?_append_right (by simp;omega),List.getElem?_append_right (by rw[cl];simp;omega),List.getElem?_drop]
   have:i*k.size+o+s.size+(j-(c.toList.take (i*k.size+o)).length-cv.cells.toList.length)=j:=by rw[cl];simp;omega
   rw[this]
   simp
  have hle:=K.le_row (K.mu n) c' c T hh hcsz (hr.base n _ hn) (fun q hq=>by rw[himm] at hq;omega)
  refine⟨K.row (K.mu n) c',?_,hle,fun m hm=>hm,?_⟩
  ·have hsize:=iA hs K.w
   simp only[Instr.storeAt,Instr.sureAddr,storeVar,Sem.run_bind,Sem.run_pure,Result.andThen_ok,hsize]
   have:cv.cells.size=s.size:=by simpa using cl
   rw[if_neg (by rw[this];simp)]
   exact hst
  refine hr.row hn c' c T hh hcsz (fun q hq=>by rw[himm] at hq;omega) ?_
  refine .arr k _ c' T ?_ (by rw[List.length_set,hcsz];exact hsz) himm ?_ ?_
  ·show(K.w.setRow (K.mu n) c').heap[K.mu n]?=_
   exact setRow_heap K.w (K.mu n) c c' T (0,0) hh
  ·intro e he
   rcases List.mem_or_eq_of_mem_set he with he|rfl
   ·exact hfit e he
   exact p1
  intro i' hi' j hj
  rw[List.length_set] at hi'
  have hidx:=dS hj hi'
  rw[hget _ (by omega)]
  obtain⟨d1,d2,d3,d4⟩:=hv.cells hf
  by_cases e:i=i'
  ·subst e
   have e1:(es.set i (bR s o (es.getD i V.undef) v)).getD i V.undef=bR s o (es.getD i V.undef) v:=by
    rw[List.getD_eq_getElem?_getD (l:=es.set _ _),List.getElem?_set_self hi];rfl
   rw[e1,p3 j hj]
   by_cases e2:o≤j∧j<o+s.size
   ·rw[if_pos e2,if_pos (by omega)]
    have:i*k.size+j-(i*k.size+o)=j-o:=by omega
    rw[this]
    exact(d3 (j-o) (by omega)).mono hle
   rw[if_neg e2,if_neg (by omega)]
   exact(hvs i hi j hj).mono hle
  have e1:(es.set i (bR s o (es.getD i V.undef) v)).getD i' V.undef=es.getD i' V.undef:=by
   rw[List.getD_eq_getElem?_getD (l:=es.set _ _),List.getElem?_set_ne e,List.getD_eq_getElem?_getD]
  rw[e1,if_neg]
  ·exact(hvs i' hi' j hj).mono hle
  intro hc
  rcases Nat.lt_or_ge i i' with hlt|hge
  ·have:(i+1)*k.size≤i'*k.size:=Nat.mul_le_mul_right _ hlt
   rw[Nat.add_mul,Nat.one_mul] at this
   omega
  have:(i'+1)*k.size≤i*k.size:=Nat.mul_le_mul_right _ (by omega)
  rw[Nat.add_mul,Nat.one_mul] at this
  omega
theorem aBB{zs:Array Value}{n ks:Nat}(hz:zs.size=ks){i j:Nat}(hj:j<ks)(hi:i*ks+j<n):((Array.range n).map fun q=>zs[q % zs.size]!).getD (i*ks+j) Go.undef=zs.getD j Go.undef:=by
 subst hz
 have e:(i*zs.size+j)% zs.size=j:=by rw[Nat.add_comm,Nat.add_mul_mod_self_right,Nat.mod_eq_of_lt hj]
 have h1:(zs[j]! :Value)=zs[j]:=by simp[hj]
 simp only[Array.getD_eq_getD_getElem?]
 rw[Array.getElem?_map,Array.getElem?_range,if_pos hi]
 simp only[Option.map_some,Option.getD_some,e,h1]
 rw[Array.getElem?_eq_getElem hj]
 rfl
theorem zA{n i:Nat}{z:V}(h:i<n):(List.replicate n z).getD i V.undef=z:=by
 simp[List.getD_eq_getElem?_getD,List.getElem?_replicate,h]
theorem sY{k:Sh}{n:Nat}{z:V}(h:z.fits k=true):∀e∈List.replicate n z,e.fits k=true:=fun e he=>by
 rw[(List.mem_replicate.1 he).2];exact h
section
variable{P:Program}{K:Ker}{h:Hp}{a:Nat}{k:Sh}{t e:TypeId}{i:TypeInfo}{z:Value}{zv:V}
theorem aFK(ht:P.underlying t=some (.slice e))(hi:P.info? e=some i)(hz:i.zero=some z)(hsz:i.size=k.size)(hpos:0<i.bytes)(kl kc:IntKind){m:Int}(h0:0≤m)(hb:m.toNat*i.bytes≤140737488355328)(w:World):
 (Instr.makeSlice t (.int kl m) (.int kc m)).run P w= .ok (.slice (some ⟨w.heap.size,0,none⟩) m.toNat m.toNat) (w.alloc (.cells (madeCells z.cells (m.toNat*k.size)) e)):=by
 have h1:m.toNat≤m.toNat*i.bytes:=Nat.le_mul_of_pos_right _ hpos
 have h2:((i.bytes:Int)*m)≤281474976710656:=by
  have e1:m=(m.toNat:Int):=by omega
  rw[e1,←Int.natCast_mul,Nat.mul_comm]
  omega
 rw[←hsz]
 exact run_make w t e i z ht hi hz kl kc m m h0 (Int.le_refl _) h2 (by omega)
theorem aBh(zs:Array Value)(n:Nat):(madeCells zs n).size=n:=by simp[madeCells]
theorem aFL{zs:Array Value}{n ks:Nat}(hz:zs.size=ks){i j:Nat}(hj:j<ks)(hi:i*ks+j<n):(madeCells zs n).getD (i*ks+j) Go.undef=zs.getD j Go.undef:=aBB hz hj hi
theorem yD(hr:Rel K h)(ha:¬K.live a)(ht:P.underlying t=some (.slice e))(hi:P.info? e=some i)(hz:i.zero=some z)(hsz:i.size=k.size)(hpos:0<i.bytes)(hv:VR K zv z)(hf:zv.fits k=true)(kl kc:IntKind){m:Int}(h0:0≤m)(hb:m.toNat*i.bytes≤140737488355328):
 ∃cv K',(Instr.makeSlice t (.int kl m) (.int kc m)).run P K.w= .ok cv K'.w∧K.le K'∧(∀n,K'.live n→K.live n∨n=a)∧VR K' (.rs a k 0 m.toNat) cv∧Rel K' (h.set a (.arr k (List.replicate m.toNat zv))):=by
 obtain⟨c1,c2,c3,c4⟩:=hv.cells hf
 obtain⟨K',q1,q2,q3,q4,q5⟩:=gO hr ha (k:=k) (es:=List.replicate m.toNat zv) (sY hf) (madeCells z.cells (m.toNat*k.size)) e m.toNat (by simp) (by rw[aBh]) (fun q hq j hj=>by
  rw[List.length_replicate] at hq
  rw[zA hq,aFL c2 hj (dS hj hq)]
  exact c3 j hj)
 rw[List.length_replicate] at q4
 exact⟨_,K',by rw[q1];exact aFK ht hi hz hsz hpos kl kc h0 hb K.w,q2,q3,q4,q5⟩
theorem yC(hr:Rel K h)(ha:¬K.live a)(ht:P.underlying t=some (.slice e))(hi:P.info? e=some i)(hz:i.zero=some z)(hsz:i.size=k.size)(hpos:0<i.bytes)(hv:VR K zv z)(hf:zv.fits k=true)(kl kc:IntKind){m:Int}(h0:0≤m)(hb:m.toNat*i.bytes≤140737488355328):
 ∃cv K',(Instr.makeSlice t (.int kl m) (.int kc m)).run P K.w= .ok cv K'.w∧K.le K'∧(∀n,K'.live n→K.live n∨n=a)∧VR K' (.sl k (.tok a) (List.replicate m.toNat zv)) cv∧Rel K' (h.set a .tip):=by
 obtain⟨c1,c2,c3,c4⟩:=hv.cells hf
 obtain⟨K',q1,q2,q3,q4,q5⟩:=lZ hr ha (k:=k) (es:=List.replicate m.toNat zv) (sY hf) (madeCells z.cells (m.toNat*k.size)) e m.toNat (by simp) (by rw[aBh];exact Nat.le_refl _) (fun q hq j hj=>by
  rw[List.length_replicate] at hq
  rw[zA hq,aFL c2 hj (dS hj hq)]
  exact c3 j hj)
 rw[List.length_replicate] at q4
 exact⟨_,K',by rw[q1];exact aFK ht hi hz hsz hpos kl kc h0 hb K.w,q2,q3,q4,q5⟩
theorem aEa{tn:TypeId}{kn:IntKind}(hr:Rel K h)(ha:¬K.live a)(ht:P.underlying t=some (.slice e))(htn:P.underlying tn=some (.int kn))(hi:P.info? e=some i)(hz:i.zero=some z)(hsz:i.size=k.size)(hks:0<k.size)(hpos:0<i.bytes)(hv:VR K zv z)(hf:zv.fits k=true)(ty:TypeId)(kl:IntKind){m:Int}(h0:0<m)(hb:m.toNat*i.bytes≤140737488355328):
 ∃cv K',(Builtin.append_ #[t,tn] ty #[.slice none 0 0, .int kl m]).run P K.w= .ok cv K'.w∧K.le K'∧(∀n,K'.live n→K.live n∨n=a)∧VR K' (.rs a k 0 m.toNat) cv∧Rel K' (h.set a (.arr k (List.replicate m.toNat zv))):=by
 obtain⟨c1,c2,c3,c4⟩:=hv.cells hf
 have h1:m.toNat≤m.toNat*i.bytes:=Nat.le_mul_of_pos_right _ hpos
 have e1:(m.toNat:Int)=m:=by omega
 have hrun:=Lib.run_append_nil_zeros (P:=P) K.w t tn ty e i z kl kn ht htn hi hz m.toNat (by omega) (by omega) (by omega) (by omega)
 rw[e1] at hrun
 have hge:m.toNat≤grownCap K.w m.toNat 0 e:=by have:=grownCap_ge K.w m.toNat 0 e;simpa using this
 have hsize:(Builtin.zeroCells z.cells m.toNat++Builtin.zeroCells z.cells (grownCap K.w m.toNat 0 e-m.toNat)).size=grownCap K.w m.toNat 0 e*k.size:=by
  rw[Array.size_append,size_zeroCells,size_zeroCells,c2,←Nat.add_mul]
  congr 1
  omega
 obtain⟨K',q1,q2,q3,q4,q5⟩:=gO (K:=K.drew) (h:=h) hr.drew (a:=a) ha (k:=k) (es:=List.replicate m.toNat zv) (sY hf) (Builtin.zeroCells z.cells m.toNat++Builtin.zeroCells z.cells (grownCap K.w m.toNat 0 e-m.toNat)) e (grownCap K.w m.toNat 0 e) (by simpa using hge) (by rw[hsize]) (fun q hq j hj=>by
  rw[List.length_replicate] at hq
  have hlt:=dS hj hq
  rw[zA hq,Array.getD_eq_getD_getElem?,Array.getElem?_append_left (by rw[size_zeroCells,c2];exact hlt),←Array.getD_eq_getD_getElem?]
  unfold Builtin.zeroCells
  rw[aBB c2 hj (by rw[c2];exact hlt)]
  exact(c3 j hj).mono K.le_drew)
 rw[List.length_replicate] at q4
 refine⟨_,K',?_,K.le_drew.trans q2,q3,q4,q5⟩
 rw[q1]
 exact hrun
theorem aCp(hr:Rel K h){n off ln:Nat}{es:List V}(hn:h n=some (.arr k es))(hle:off+ln≤es.length){cx:Value}(hx:VR K (.rs n k off ln) cx)(ht:P.underlying t=some (.slice e))(hi:P.info? e=some i)(hz:i.zero=some z)(hv:VR K zv z)(hf:zv.fits k=true)(ty:TypeId):
 ∃K',(Builtin.clear_ #[t] ty #[cx]).run P K.w= .ok (.tuple #[]) K'.w∧K.le K'∧(∀m,K'.live m→K.live m)∧Rel K' (h.set n (.arr k (es.take off++List.replicate ln zv++es.drop (off+ln)))):=by
 obtain⟨v1,v2,v3,v4⟩:=hv.cells hf
 cases hx with
 |rs _ _ _ _ cap hl hcap hm=>
  by_cases hz0:ln=0
  ·subst hz0
   refine⟨K,by simp[Builtin.clear_,run_underlying ht], .refl K,fun m hm=>hm,?_⟩
   have e1:es.take off++List.replicate 0 zv++es.drop (off+0)=es:=by simp
   have e2:h.set n (.arr k es)=h:=by
    funext x
    unfold Hp.set
    split
    ·rename_i e;subst e;exact hn.symm
    rfl
   rw[e1,e2]
   exact hr
  have hbr:=hr.blk n _ hn
  cases hbr with
  |arr _ _ c T hh hcs himm hfit hvs=>
   have hzl:(Builtin.zeroCells z.cells ln).toList.length=ln*k.size:=by simp[size_zeroCells,v2]
   have hend:off*k.size+ln*k.size≤es.length*k.size:=by rw[←Nat.add_mul];exact Nat.mul_le_mul_right _ hle
   have hzc:∀q j,q<ln→j<k.size→(Builtin.zeroCells z.cells ln).getD (q*k.size+j) Go.undef=z.cells.getD j Go.undef:=fun q j hq hj=>by
    unfold Builtin.zeroCells
    exact aBB v2 hj (by rw[v2];exact dS hj hq)
   have hst:=run_storeCells_at P (K.mu n) (off*k.size) T (Builtin.zeroCells z.cells ln).toList 0 c K.w hh (by rw[hzl];omega) (by
    intro u hu
    obtain⟨q,hq,rfl⟩:=List.getElem_of_mem hu
    rw[hzl] at hq
    obtain⟨d1,d2,d3⟩:=vI hq
    have:=hzc _ _ d1 d2
    rw[d3,Array.getD_eq_getD_getElem?,Array.getElem?_eq_getElem (by rw[size_zeroCells,v2];exact hq)] at this
    have h2:(Builtin.zeroCells z.cells ln).toList[q]=z.cells.getD (q % k.size) Go.undef:=by simpa using this
    rw[h2]
    exact(v3 _ d2).oneCell (v4 _ d2))
   simp only[Nat.add_zero,hzl] at hst
   generalize hc':(c.toList.take (off*k.size)++(Builtin.zeroCells z.cells ln).toList++c.toList.drop (off*k.size+ln*k.size)).toArray=c' at hst
   have hcsz:c'.size=c.size:=by rw[←hc'];simp only[List.size_toArray,List.length_append,List.length_take,List.length_drop,Array.length_toList,hzl];omega
   have hle1:=K.le_row (K.mu n) c' c T hh hcsz (hr.base n _ hn) (fun o ho=>by rw[himm] at ho;omega)
   have hlen:(es.take off++List.replicate ln zv++es.drop (off+ln)).length=es.length:=by simp;omega
   refine⟨K.row (K.mu n) c',?_,hle1,fun m hm=>hm,?_⟩
   ·have hzv:(zeroValue e).run P K.w= .ok z K.w:=by simp[zeroValue,typeInfo,hi,hz]
    obtain⟨l',rfl⟩:∃l',ln=l'+1:=⟨ln-1,by omega⟩
    simp only[Builtin.clear_,Sem.run_bind,run_underlying ht,Result.andThen_ok,List.getElem?_toArray,List.getElem?_cons_zero,hzv,hst,Sem.run_pure]
    rfl
   refine hr.row hn c' c T hh hcsz (fun o ho=>by rw[himm] at ho;omega) (.arr k _ c' T ?_ (by rw[hlen,hcsz];exact hcs) himm ?_ ?_)
   ·show(K.w.setRow (K.mu n) c').heap[K.mu n]?=_
    exact setRow_heap K.w (K.mu n) c c' T (0,0) hh
   ·intro x hx
    rcases List.mem_append.1 hx with hx|hx
    ·rcases List.mem_append.1 hx with hx|hx
     ·exact hfit x (List.mem_of_mem_take hx)
     exact sY hf x hx
    exact hfit x (List.mem_of_mem_drop hx)
   intro q hq j hj
   rw[hlen] at hq
   have hidx:=dS hj hq
   have hget:c'[q*k.size+j]?=if q<off then c[q*k.size+j]? else if q<off+ln then (Builtin.zeroCells z.cells ln)[(q-off)*k.size+j]? else c[q*k.size+j]?:=by
    rw[←hc']
    simp only[List.getElem?_toArray,List.append_assoc]
    by_cases e1:q<off
    ·have h1:=dS hj e1
     rw[if_pos e1,List.getElem?_append_left (by simp;omega),List.getElem?_take,if_pos h1]
     simp
    rw[if_neg e1]
    have h1:off*k.size≤q*k.size:=Nat.mul_le_mul_right _ (by omega)
    have hsub:q*k.size-off*k.size=(q-off)*k.size:=(Nat.sub_mul _ _ _).symm
    have htk:(c.toList.take (off*k.size)).length=off*k.size:=by simp;omega
    rw[List.getElem?_append_right (by rw[htk];omega),htk]
    by_cases e2:q<off+ln
    ·have h2:=dS (k:=k.size) (i:=q-off) (n:=ln) hj (by omega)
     rw[if_pos e2,List.getElem?_append_left (by rw[hzl];omega)]
     have:q*k.size+j-off*k.size=(q-off)*k.size+j:=by omega
     rw[this]
     simp
    have h2:(off+ln)*k.size≤q*k.size:=Nat.mul_le_mul_right _ (by omega)
    rw[Nat.add_mul] at h2
    rw[if_neg e2,List.getElem?_append_right (by rw[hzl];omega),hzl,List.getElem?_drop]
    have:off*k.size+ln*k.size+(q*k.size+j-off*k.size-ln*k.size)=q*k.size+j:=by omega
    rw[this]
    simp
   have hes:(es.take off++List.replicate ln zv++es.drop (off+ln)).getD q V.undef=if q<off then es.getD q V.undef else if q<off+ln then zv else es.getD q V.undef:=by
    simp only[List.getD_eq_getElem?_getD,List.append_assoc]
    have htk:(es.take off).length=off:=by simp;omega
    by_cases e1:q<off
    ·rw[if_pos e1,List.getElem?_append_left (by rw[htk];exact e1),List.getElem?_take,if_pos e1]
    rw[if_neg e1,List.getElem?_append_right (by rw[htk];omega),htk]
    by_cases e2:q<off+ln
    ·rw[if_pos e2,List.getElem?_append_left (by simp;omega)]
     rw[List.getElem?_replicate,if_pos (by omega)]
     rfl
    rw[if_neg e2,List.getElem?_append_right (by simp;omega),List.getElem?_drop]
    have:off+ln+(q-off-(List.replicate ln zv).length)=q:=by simp;omega
    rw[this]
   rw[hes,Array.getD_eq_getD_getElem?,hget]
   by_cases e1:q<off
   ·rw[if_pos e1,if_pos e1,←Array.getD_eq_getD_getElem?]
    exact(hvs q hq j hj).mono hle1
   rw[if_neg e1,if_neg e1]
   by_cases e2:q<off+ln
   ·rw[if_pos e2,if_pos e2,←Array.getD_eq_getD_getElem?,hzc _ _ (by omega) hj]
    exact(v3 j hj).mono hle1
   rw[if_neg e2,if_neg e2,←Array.getD_eq_getD_getElem?]
   exact(hvs q hq j hj).mono hle1
end
theorem tI{P:Program}{K:Ker}{h:Hp}(hr:Rel K h){a:Nat}(ha:¬K.live a){k:Sh}{t e:TypeId}{i:TypeInfo}{z:Value}(ht:P.underlying t=some (.slice e))(hi:P.info? e=some i)(hz:i.zero=some z)
 (hsz:i.size=k.size) {vs:List V} {cvs:List Value} (hl:vs.length=cvs.length) (hv:∀i,i<vs.length→VR K (vs.getD i V.undef) (cvs.getD i Go.undef)) (hf:∀v∈vs,v.fits k=true) (hsmall:cvs.length*k.size≤16777216):
 ∃cv K',(Instr.buildSlice t cvs.length ((cvs.zipIdx 0).map fun p=>(p.2,p.1)).toArray).run P K.w= .ok cv K'.w∧K.le K'∧(∀n,K'.live n→K.live n∨n=a)∧VR K' (.rs a k 0 vs.length) cv∧Rel K' (h.set a (.arr k vs)):=by
 have hmem:∀i,i<vs.length→vs.getD i V.undef∈vs:=fun i hi=>by
  rw[List.getD_eq_getElem?_getD,List.getElem?_eq_getElem hi];exact List.getElem_mem _
 have hcs:∀cv∈cvs,cv.cells.size=k.size:=by
  intro cv hcv
  obtain⟨j,hj,rfl⟩:=List.getElem_of_mem hcv
  have:=(hv j (by omega)).cells (hf _ (hmem j (by omega)))
  rw[List.getD_eq_getElem?_getD (l:=cvs),List.getElem?_eq_getElem hj] at this
  exact this.2.1
 obtain⟨zs,hzs0,hzs1⟩:∃zs:Array Value,(cvs.length*k.size=0→zs=#[])∧(¬cvs.length*k.size=0→zs=z.cells):=by
  by_cases e0:cvs.length*k.size=0
  ·exact⟨#[],fun _=>rfl,fun h=>absurd e0 h⟩
  exact⟨z.cells,fun h=>absurd h e0,fun _=>rfl⟩
 obtain⟨c,g1,g2,g3,g4⟩:=aCg k.size (fun i=>some (i*k.size,k.size)) (fun _=>rfl) cvs 0 ((Array.range (cvs.length*k.size)).map (fun x=>zs[x % zs.size]!)) hcs (by simp)
 obtain⟨K',q1,q2,q3,q4,q5⟩:=gO hr ha hf c e cvs.length (by omega) (by rw[g2];simp) (fun i hi j hj=>by
  have h1:=(hv i hi).cells (hf _ (hmem i hi))
  have h2:=g4 i (by omega) j hj
  rw[Nat.zero_add] at h2
  rw[h2]
  exact h1.2.2.1 j hj)
 refine⟨_,K',?_,q2,q3,q4,q5⟩
 rw[q1]
 have hgt:¬(cvs.length*i.size>2 ^ 24):=by rw[hsz];omega
 rw[hl]
 simp only[hsz] at hgt
 have hsizeOf:(sizeOf e).run P K.w= .ok k.size K.w:=by simp[sizeOf,typeInfo,hi,hsz]
 by_cases e0:cvs.length*k.size=0
 ·rw[hzs0 e0] at g1
  simp only[Instr.buildSlice,Sem.run_bind,run_underlying ht,Result.andThen_ok,hsizeOf,if_neg hgt,Sem.run_pure,if_pos e0,g1]
  rfl
 rw[hzs1 e0] at g1
 have hzv:(zeroValue e).run P K.w= .ok z K.w:=by simp[zeroValue,typeInfo,hi,hz]
 simp only[Instr.buildSlice,Sem.run_bind,run_underlying ht,Result.andThen_ok,hsizeOf,if_neg hgt,Sem.run_pure,if_neg e0,hzv,g1]
 rfl
theorem iK{o:Obj}(h:iB o=true):o.isCells=false:=by cases o<;>first|rfl|(simp[iB] at h)
theorem aCT{w:World}{b:Nat}{o o0:Obj}(h0:w.heap[b]?=some o0)(hp0:o0.isCells=false)(hp:o.isCells=false)(b' o':Nat):(w.putObj b o).cell? ⟨b',o',none⟩=w.cell? ⟨b',o',none⟩:=by
 by_cases e:b'=b
 ·subst e
  have h1:(w.putObj b' o).heap[b']?=some o:=World.putObj_heap_same (Array.getElem?_eq_some_iff.1 h0).1
  simp only[World.cell?,h0,h1]
  cases o<;>cases o0<;>first|rfl|(simp[Obj.isCells] at hp hp0)
 exact iR (World.putObj_heap_other e)
theorem aBU{w:World}{b:Nat}{o o0:Obj}(h0:w.heap[b]?=some o0)(hp0:o0.isCells=false)(hp:o.isCells=false)(b':Nat):(w.putObj b o).shape? b'=w.shape? b':=by
 by_cases e:b'=b
 ·subst e
  have h1:(w.putObj b' o).heap[b']?=some o:=World.putObj_heap_same (Array.getElem?_eq_some_iff.1 h0).1
  simp only[World.shape?,h0,h1]
  cases o<;>cases o0<;>first|rfl|(simp[Obj.isCells] at hp hp0)
 exact lX (World.putObj_heap_other e)
def Ker.obj(K:Ker)(b:Nat)(o:Obj):Ker:={K with w:=K.w.putObj b o}
theorem Ker.leV_obj(K:Ker){b:Nat}{o o0:Obj}(h0:K.w.heap[b]?=some o0)(hp0:o0.isCells=false)(hp:o.isCells=false):K.leV (K.obj b o) where
 live _ h:=h
 mu _ _:=rfl
 tp _ _:=rfl
 fro:=rfl
 imm _ _:=Nat.le_refl _
 cell b' o' _ _:=aCT h0 hp0 hp b' o'
 shape b' _:=aBU h0 hp0 hp b'
 size:=by show _≤(K.w.putObj b o).heap.size;simp
theorem Ker.le_obj(K:Ker){b:Nat}{o o0:Obj}(h0:K.w.heap[b]?=some o0)(hp0:o0.isCells=false)(hp:o.isCells=false)(hf:¬K.fro b)(hm:¬fZ K.w b):K.le (K.obj b o):=
 have h:=K.leV_obj h0 hp0 hp
 ⟨h.live,h.mu,h.tp,h.fro,h.imm,h.cell,h.shape,⟨rfl,rfl,rfl,Nat.le_refl _,h.size,fun b' _ hb'=>World.putObj_heap_other (fun e=>by subst e;exact hb'.elim hf hm)⟩⟩
theorem lQ{w:World}{b:Nat}{o:Obj}(h:w.heap[b]?=some o)(ho:iB o=true):¬fZ w b:=fun hm=>by
 unfold fZ at hm
 rw[h] at hm
 injection hm with hm
 subst hm
 cases ho
theorem fW{P:Program}{w:World}{r:Nat}{o0:Obj}(o:Obj)(hb:w.heap[r]?=some o0)(hp:iB o0=true):(setObj r o).run P w= .ok () (w.putObj r o):=by
 cases o0<;>first|(cases hp;done)|simp[setObj,Sem.run,hb,World.putObj]
theorem Rel.putBlk{K:Ker}{h:Hp}(r:Rel K h){n:Nat}{b0 b1:Blk}(hn:h n=some b0){o o0:Obj}(h1:K.w.heap[K.mu n]?=some o0)(h2:iB o0=true)(ho:iB o=true)(hb1:BR (K.obj (K.mu n) o) n b1):
 K.le (K.obj (K.mu n) o)∧Rel (K.obj (K.mu n) o) (h.set n b1):=by
 have hle:=K.le_obj h1 (iK h2) (iK ho) (r.base n _ hn) (lQ h1 h2)
 refine⟨hle,?_,?_,?_,?_,fun b hb=>by show b<(K.w.putObj _ _).heap.size;simpa using r.size b hb⟩
 ·intro m b' e
  unfold Hp.set at e
  split at e
  ·rename_i hm;subst hm;exact r.lt m _ hn
  exact r.lt m b' e
 ·intro m b' e
  unfold Hp.set at e
  split at e
  ·rename_i hm;subst hm;exact r.base m _ hn
  exact r.base m b' e
 ·intro m b' e
  unfold Hp.set at e
  split at e
  ·rename_i hm;subst hm;injection e with e;subst e;exact hb1
  rename_i hm
  refine(r.blk m b' e).mono hle (r.lt m b' e) ?_ rfl
  exact World.putObj_heap_other (fun em=>hm (r.inj m n b' _ e hn em))
 intro m m' b1' b2' e1 e2 em
 unfold Hp.set at e1 e2
 have g:∀x bb,(if x=n then some b1 else h x)=some bb→∃b',h x=some b':=fun x bb hx=>by
  split at hx
  ·rename_i hm;subst hm;exact⟨_,hn⟩
  exact⟨bb,hx⟩
 obtain⟨c1,d1⟩:=g m b1' e1
 obtain⟨c2,d2⟩:=g m' b2' e2
 exact r.inj m m' c1 c2 d1 d2 em
theorem MEs.monoV{K K':Ker}(hk:K.leV K'){es:List ME}{ces:List MapEntry}(h:MEs K es ces):MEs K' es ces:=⟨h.1,fun i hi=>⟨(h.2 i hi).1.monoV hk,(h.2 i hi).2.1.monoV hk,(h.2 i hi).2.2⟩⟩
theorem BR.toMEs{K:Ker}{n:Nat}{es:List ME}{c:Nat}(r:BR K n (.mp es c)):∃ces:Array MapEntry,K.w.heap[K.mu n]?=some (.map ces c)∧MEs K es ces.toList:=by
 cases r with
 |mp _ _ ces hh hl hv=>exact⟨ces,hh,by simpa using hl,fun i hi=>by simpa [Array.getD_eq_getD_getElem?,List.getD_eq_getElem?_getD] using hv i hi⟩
theorem BR.ofMEs{K:Ker}{n:Nat}{es:List ME}{c:Nat}{ces:Array MapEntry}(hh:K.w.heap[K.mu n]?=some (.map ces c))(h:MEs K es ces.toList):BR K n (.mp es c):=
 .mp es c ces hh (by simpa using h.1) fun i hi=>by simpa [Array.getD_eq_getD_getElem?,List.getD_eq_getElem?_getD] using h.2 i hi
theorem MEs.set{K:Ker}{es:List ME}{ces:List MapEntry}(h:MEs K es ces)(j:Nat){e:ME}{c:MapEntry}(h1:VR K e.k c.key)(h2:VR K e.v c.val)(h3:c.born=e.b):MEs K (es.set j e) (ces.set j c):=by
 refine⟨by simpa using h.1,fun i hi=>?_⟩
 have hi':i<es.length:=by simpa using hi
 have hc:i<ces.length:=by rw[←h.1];exact hi'
 have:=h.2 i hi'
 simp only[List.getD_eq_getElem?_getD,List.getElem?_set] at this⊢
 by_cases e:j=i
 ·subst e;simp[hi',hc,h1,h2,h3]
 simpa [e] using this
theorem MEs.push{K:Ker}{es:List ME}{ces:List MapEntry}(h:MEs K es ces){e:ME}{c:MapEntry}(h1:VR K e.k c.key)(h2:VR K e.v c.val)(h3:c.born=e.b):MEs K (es++[e]) (ces++[c]):=by
 refine⟨by simp[h.1],fun i hi=>?_⟩
 rcases Nat.lt_or_ge i es.length with hi'|hi'
 ·have hc:i<ces.length:=by rw[←h.1];exact hi'
  have:=h.2 i hi'
  simpa [List.getD_eq_getElem?_getD,List.getElem?_append_left hi',List.getElem?_append_left hc] using this
 have:i=es.length:=by simp at hi;omega
 subst this
 simp only[List.getD_eq_getElem?_getD,List.getElem?_concat_length]
 rw[h.1]
 simp only[List.getElem?_concat_length,Option.getD_some]
 exact⟨h1,h2,h3⟩
theorem MEs.erase{K:Ker}{es:List ME}{ces:List MapEntry}(h:MEs K es ces)(j:Nat):MEs K (es.eraseIdx j) (ces.eraseIdx j):=by
 refine⟨by simp[List.length_eraseIdx,h.1],fun i hi=>?_⟩
 simp only[List.getD_eq_getElem?_getD,List.getElem?_eraseIdx]
 split
 ·have hi':i<es.length:=Nat.lt_of_lt_of_le hi (by rw[List.length_eraseIdx];split<;>omega)
  simpa [List.getD_eq_getElem?_getD] using h.2 i hi'
 have hi':i+1<es.length:=by
  rw[List.length_eraseIdx] at hi
  split at hi<;>omega
 simpa [List.getD_eq_getElem?_getD] using h.2 (i+1) hi'
theorem MEs.get{K:Ker}{es:List ME}{ces:List MapEntry}(h:MEs K es ces){e:ME}(he:e∈es):∃c∈ces,VR K e.k c.key∧VR K e.v c.val∧c.born=e.b:=by
 obtain⟨i,hi,rfl⟩:=List.mem_iff_getElem.1 he
 have hc:i<ces.length:=by rw[←h.1];exact hi
 have:=h.2 i hi
 simp only[List.getD_eq_getElem?_getD,List.getElem?_eq_getElem hi,List.getElem?_eq_getElem hc,Option.getD_some] at this
 exact⟨ces[i],List.getElem_mem _,this⟩
theorem MEs.back{K:Ker}{es:List ME}{ces:List MapEntry}(h:MEs K es ces){c:MapEntry}(hc:c∈ces):∃e∈es,VR K e.k c.key∧VR K e.v c.val∧c.born=e.b:=by
 obtain⟨i,hi,rfl⟩:=List.mem_iff_getElem.1 hc
 have he:i<es.length:=by rw[h.1];exact hi
 have:=h.2 i he
 simp only[List.getD_eq_getElem?_getD,List.getElem?_eq_getElem hi,List.getElem?_eq_getElem he,Option.getD_some] at this
 exact⟨es[i],List.getElem_mem _,this⟩
theorem aDl{K:Ker}{lk:LK}{x y:V}{a b:Value}(h:iO lk x y=some true)(hx:VR K x a)(hy:VR K y b)(n:Nat):Instr.sameBits n b a=true:=by
 cases lk<;>cases x<;>cases y<;>simp only[iO,reduceCtorEq] at h
 ·cases hx;cases hy;simp at h;subst h;simp[Instr.sameBits]
 ·cases hx;cases hy;simp at h;obtain⟨rfl,rfl⟩:=h;simp[Instr.sameBits]
 cases hx;cases hy
 rw[Option.some.injEq,←vO] at h
 simp only[Instr.sameBits]
 rw[vO] at h⊢
 rw[beq_iff_eq] at h⊢
 exact h.symm
theorem aAM{K:Ker}(n:Nat):∀(ks:List LK) (xs ys:List V) (as bs:List Value),hZ ks xs ys=some true→as.length=xs.length→bs.length=ys.length→(∀i,i<xs.length→VR K (xs.getD i V.undef) (as.getD i Go.undef))→(∀i,i<ys.length→VR K (ys.getD i V.undef) (bs.getD i Go.undef))→
 bs.length=as.length∧(bs.zip as).all (fun p=>Instr.sameBits n p.1 p.2)=true
 | [],xs,ys,as,bs,h,ha,hb,hx,hy=>by
  have hl:=mH _ _ _ _ h
  have e1:xs=[]:=List.eq_nil_of_length_eq_zero (by simpa using hl.1)
  have e2:ys=[]:=List.eq_nil_of_length_eq_zero (by simpa using hl.2)
  subst e1 e2
  have e3:as=[]:=List.eq_nil_of_length_eq_zero (by simpa using ha)
  have e4:bs=[]:=List.eq_nil_of_length_eq_zero (by simpa using hb)
  subst e3 e4
  simp
 |k::ks,xs,ys,as,bs,h,ha,hb,hx,hy=>by
  have hl:=mH _ _ _ _ h
  match xs,ys,as,bs,hl,ha,hb with
  |x::xs,y::ys,a::as,b::bs,hl,ha,hb=>
   rw[pJ] at h
   split at h
   ·rename_i p q h1 h2
    simp only[Option.some.injEq,Bool.and_eq_true] at h
    obtain⟨rfl,rfl⟩:=h
    have q1:=aDl h1 (by simpa using hx 0 (by simp)) (by simpa using hy 0 (by simp)) n
    obtain⟨q2,q3⟩:=aAM n ks xs ys as bs h2 (by simpa using ha) (by simpa using hb) (fun i hi=>by simpa using hx (i+1) (by simpa using hi)) (fun i hi=>by simpa using hy (i+1) (by simpa using hi))
    exact⟨by simp[q2],by simp[q1,q3]⟩
   cases h
theorem aBl{P:Program}{K:Ker}(w:World){k:Sh}{ks:List LK}{v u:V}{a b:Value}(hv:VR K v a)(hu:VR K u b)(h:veq (.plain k ks) v u=some true):(Instr.keyThatStays b a).run P w= .ok a w:=by
 have hb:Instr.sameBits 10000 b a=true:=by
  simp only[veq] at h
  split at h
  ·rename_i hf
   simp only[Bool.and_eq_true] at hf
   obtain⟨c1,c2,c3,_⟩:=hv.cells hf.1
   obtain⟨d1,d2,d3,_⟩:=hu.cells hf.2
   have key:=fun n=>aAM n ks v.cells u.cells a.cells.toList b.cells.toList h (by simp[c1,c2]) (by simp[d1,d2]) (fun i hi=>by simpa [Array.getD_eq_getD_getElem?,List.getD_eq_getElem?_getD,V.cell] using c3 i (by omega)) (fun i hi=>by simpa [Array.getD_eq_getD_getElem?,List.getD_eq_getElem?_getD,V.cell] using d3 i (by omega))
   have ea:=kU hv hf.1
   have eb:=kU hu hf.2
   cases k with
   |leaf=>
    have hk:=key 10000
    simp only[V.fits] at hf
    have e1:a.cells=#[a]:=by cases hv<;>first|rfl|(simp[V.leafy] at hf)
    have e2:b.cells=#[b]:=by cases hu<;>first|rfl|(simp[V.leafy] at hf)
    rw[e1,e2] at hk
    simpa using hk.2
   |agg m=>
    have hk:=key 9999
    cases hv with
    |agg cs ccs _ _=>
     cases hu with
     |agg cs' ccs' _ _=>
      simp only[Value.cells] at hk
      show(ccs'.size==ccs.size&&(ccs'.toList.zip ccs.toList).all fun(x,y)=>Instr.sameBits 9999 x y)=true
      rw[Bool.and_eq_true]
      exact⟨by simpa using hk.1,by simpa using hk.2⟩
     |_=>simp[V.fits] at hf
    |_=>simp[V.fits] at hf
  cases h
 simp[Instr.keyThatStays,hb]
inductive MOp where
 |mk
 |put (kS:Sh) (ks:List LK) (x k v:aL)
 |ent (kS:Sh) (ks:List LK) (z:V) (x k:aL)
 |est (x s v:aL)
 |del (kS:Sh) (ks:List LK) (x k:aL)
 |rng (x:aL)
 |nxt (x:aL)
 |key (x:aL)
 deriving Inhabited
def MOp.sem(sl:List V)(h:Hp)(a:Nat)(R:V→Hp→Prop):MOp→Prop
 | .mk=>R (.map a) (h.set a (.mp [] 0))
 | .put kS ks x k v=>(k.ev sl).fits kS=true∧match x.ev sl with
  | .map n=>match h n with
   |some (.mp es c)=>match eJ (.plain kS ks) (k.ev sl) es with
    |some (some j)=>R V.undef (h.set n (.mp (es.set j ⟨k.ev sl,v.ev sl,(es.getD j default).b⟩) c))
    |some none=>R V.undef (h.set n (.mp (es++[⟨k.ev sl,v.ev sl,c⟩]) (c+1)))
    |none=>False
   |_=>False
  |_=>False
 | .ent kS ks z x k=>(k.ev sl).fits kS=true∧match x.ev sl with
  | .map n=>match h n with
   |some (.mp es c)=>match eJ (.plain kS ks) (k.ev sl) es with
    |some (some j)=>R (.tup [(es.getD j default).v, .int .i64 (es.getD j default).b]) (h.set n (.mp (es.set j ⟨k.ev sl,(es.getD j default).v,(es.getD j default).b⟩) c))
    |some none=>R (.tup [z, .int .i64 c]) (h.set n (.mp (es++[⟨k.ev sl,z,c⟩]) (c+1)))
    |none=>False
   |_=>False
  |_=>False
 | .est x s v=>match x.ev sl,s.ev sl with
  | .map n, .int _ b=>match h n with
   |some (.mp es c)=>∃j,es.findIdx? (fun e=>(e.b:Int)==b)=some j∧R V.undef (h.set n (.mp (es.set j ⟨(es.getD j default).k,v.ev sl,(es.getD j default).b⟩) c))
   |_=>False
  |_,_=>False
 | .del kS ks x k=>(k.ev sl).fits kS=true∧match x.ev sl with
  | .nilMap=>R V.undef h
  | .map n=>match h n with
   |some (.mp es c)=>match eJ (.plain kS ks) (k.ev sl) es with
    |some (some j)=>R V.undef (h.set n (.mp (es.eraseIdx j) c))
    |some none=>R V.undef (h.set n (.mp es c))
    |none=>False
   |_=>False
  |_=>False
 | .rng x=>match x.ev sl with
  | .map n=>match h n with
   |some (.mp es c)=>R (.ptr a .leaf 0 0) (h.set a (.mit n c [] c))
   |_=>False
  |_=>False
 | .nxt x=>match x.ev sl with
  | .ptr it .leaf 0 0=>match h it with
   |some (.mit m since seen last)=>match h m with
    |some (.mp es c)=>(∀e∈es,e.b<since)∧since≤last∧(∀e∈es,e.b∉seen→R (.tup [.bool true,e.k,e.v]) (h.set it (.mit m since (seen++[e.b]) c)))∧((∀e∈es,e.b∈seen)→R (.tup [.bool false]) h)
    |_=>False
   |_=>False
  |_=>False
 | .key x=>match x.ev sl with
  | .ptr it .leaf 0 0=>match h it with
   |some (.mit m since seen last)=>match h m with
    |some (.mp es c)=>c=last∧∃b e,seen.getLast?=some b∧es.find? (fun e=>e.b==b)=some e∧R (.tup [e.k,e.v]) h
    |_=>False
   |_=>False
  |_=>False
theorem MOp.sem_mono{sl:List V}{h:Hp}{a:Nat}{R R':V→Hp→Prop}(hR:∀v h',R v h'→R' v h'){m:MOp}(hs:m.sem sl h a R):m.sem sl h a R':=by
 cases m with
 |mk=>exact hR _ _ hs
 |put kS ks x k v=>
  refine⟨hs.1,?_⟩
  have hs:=hs.2
  revert hs
  split<;>(try split)<;>(try split)<;>first|exact hR _ _|exact id
 |ent kS ks z x k=>
  refine⟨hs.1,?_⟩
  have hs:=hs.2
  revert hs
  split<;>(try split)<;>(try split)<;>first|exact hR _ _|exact id
 |est x s v=>
  simp only[MOp.sem] at hs⊢
  revert hs
  split<;>(try split)<;>first|exact id|exact fun⟨j,h1,h2⟩=>⟨j,h1,hR _ _ h2⟩
 |del kS ks x k=>
  refine⟨hs.1,?_⟩
  have hs:=hs.2
  revert hs
  split<;>(try split)<;>(try split)<;>first|exact hR _ _|exact id
 |rng x=>
  simp only[MOp.sem] at hs⊢
  revert hs
  split<;>(try split)<;>first|exact hR _ _|exact id
 |nxt x=>
  simp only[MOp.sem] at hs⊢
  revert hs
  split<;>(try split)<;>(try split)<;>first|exact id|exact fun⟨h1,h2,h3,h4⟩=>⟨h1,h2,fun e he hs=>hR _ _ (h3 e he hs),fun he=>hR _ _ (h4 he)⟩
 |key x=>
  simp only[MOp.sem] at hs⊢
  revert hs
  split<;>(try split)<;>(try split)<;>first|exact id|exact fun⟨h1,b,e,h2,h3,h4⟩=>⟨h1,b,e,h2,h3,hR _ _ h4⟩
def aEP(P:Program)(o:Oper):Option MOp:=
 match o.op with
 | .makeMap t none=>match P.underlying t with
  |some (.map _ _)=>some .mk
  |_=>none
 | .mapUpdate t m k v=>match P.underlying t with
  |some (.map kt et)=>(cO P kt).bind fun kS=>(bH P 10 kt).bind fun ks=>(aP P t m).bind fun x=>(aP P kt k).bind fun k=>(aP P et v).map fun v=> .put kS ks x k v
  |_=>none
 | .mapEntry t m k=>match P.underlying t with
  |some (.map kt et)=>(cO P kt).bind fun kS=>(bH P 10 kt).bind fun ks=>((P.info? et).bind (·.zero)).bind fun z=>(wS P et z).bind fun zv=>(aP P t m).bind fun x=>(aP P kt k).map fun k=> .ent kS ks zv x k
  |_=>none
 | .entryStore t m s v=>match P.underlying t with
  |some (.map _ et)=>(aP P t m).bind fun x=>(aP P 0 s).bind fun s=>(aP P et v).map fun v=> .est x s v
  |_=>none
 | .call {callee:= .builtin .delete,args:=args,argTypes:=ts}=>match args.toList,ts.toList with
  | [m,k],[t,_]=>match P.underlying t with
   |some (.map kt _)=>(cO P kt).bind fun kS=>(bH P 10 kt).bind fun ks=>(aP P t m).bind fun x=>(aP P kt k).map fun k=> .del kS ks x k
   |_=>none
  |_,_=>none
 | .range t x=>match P.underlying t with
  |some (.map _ _)=>(aP P t x).map .rng
  |_=>none
 | .next x false=>(aP P 0 x).map .nxt
 | .entry x=>(aP P 0 x).map .key
 |_=>none
theorem qW{P:Program}{w:World}{r:Nat}{o:Obj}(hb:w.heap[r]?=some o)(hp:iB o=true):(getObj r).run P w= .ok o w:=by
 cases o<;>first|(cases hp;done)|simp[getObj,Sem.run,hb]
theorem xT{w:World}{b:Nat}{o0:Obj}(h0:w.heap[b]?=some o0)(o:Obj):(w.putObj b o).heap[b]?=some o:=World.putObj_heap_same (Array.getElem?_eq_some_iff.1 h0).1
theorem mB{es:Array MapEntry}{j:Nat}(hj:j<es.size)(f:MapEntry→MapEntry):(es.modify j f).toList=es.toList.set j (f (es.toList.getD j default)):=by
 apply List.ext_getElem
 ·simp
 intro i h1 h2
 have hi:i<es.size:=by simpa using h1
 simp only[Array.getElem_toList,Array.getElem_modify,List.getElem_set]
 by_cases e:j=i
 ·subst e;simp[hj]
 simp[e]
theorem aDM{P:Program}(w:World)(n:Nat)(hn:0<n):∃i w',(choose (.mapNext n)).run P w= .ok i w'∧i<n∧(w'=w∨w'=w.drew):=by
 rw[run_choose_drew]
 split
 ·exact⟨0,w,rfl,hn, .inl rfl⟩
 exact⟨_,_,rfl,Nat.mod_lt _ hn, .inr rfl⟩
theorem Rel.newBlk{K:Ker}{h:Hp}(hr:Rel K h){a:Nat}(ha:¬K.live a){o:Obj}{b:Blk}(hb:BR (K.push a o 0) a b):K.le (K.push a o 0)∧(∀n,(K.push a o 0).live n→K.live n∨n=a)∧Rel (K.push a o 0) (h.set a b):=
 ⟨K.le_push a ha o 0,fun n hn=>hn.symm,hr.set_push ha _ _ hb⟩
section
variable{P:Program}{o:Oper}{act:Act}{K:Ker}{sl:List V}{h:Hp}{a:Nat}{R:V→Hp→Prop}
theorem nI(hr:Rel K h){n:Nat}{es es':List ME}{c c':Nat}(hn:h n=some (.mp es c)){ces ces':Array MapEntry}(hh:K.w.heap[K.mu n]?=some (.map ces c))(hm:MEs K es' ces'.toList){nx:Next}{cv:Value}{v:V}
 (hrun:(execOp act.eval o).run P K.w= .ok nx (K.w.putObj (K.mu n) (.map ces' c'))) (hnx:nx= .value cv∨nx= .skip∧cv=Go.undef) (hv:VR K v cv) (hR:R v (h.set n (.mp es' c'))):eT P o act K a R:=by
 have hle0:=K.leV_obj (o:= .map ces' c') hh rfl rfl
 have hb:BR (K.obj (K.mu n) (.map ces' c')) n (.mp es' c'):= .ofMEs (xT hh _) (hm.monoV hle0)
 obtain⟨h1,h2⟩:=hr.putBlk hn hh rfl rfl hb
 exact⟨nx,cv,_,v,_,hrun,hnx,h1,fun n hn=> .inl hn,hv.monoV hle0,h2,hR⟩
set_option maxHeartbeats 1000000 in
theorem aGB{m:MOp}(hl:aEP P o=some m)(hs:∀t,VR K (sl.getD t V.undef) (act.tmps.getD t Go.undef))(hr:Rel K h)(hfresh:¬K.live a)(hsem:m.sem sl h a R):eT P o act K a R:=by
 unfold aEP at hl
 split at hl
 case h_1 t hop=>
  split at hl
  ·rename_i kt et hu
   injection hl with hl
   subst hl
   have hmu:(K.push a (.map #[] 0) 0).mu a=K.w.heap.size:=by simp[Ker.push]
   obtain⟨h1,h2,h3⟩:=hr.newBlk hfresh (o:= .map #[] 0) (b:= .mp [] 0) (.ofMEs (by rw[hmu];exact cQ _ _) ⟨rfl,fun i hi=>by simp at hi⟩)
   have hv:=VR.map (K:=K.push a (.map #[] 0) 0) a (.inl rfl)
   rw[hmu] at hv
   exact⟨_,_,K.push a (.map #[] 0) 0,_,_,by simp[execOp,hop,Instr.makeMap,Ker.push], .inl rfl,h1,h2,hv,h3,hsem⟩
  simp at hl
 case h_2 t mo ko vo hop=>
  split at hl
  ·rename_i kt et hu
   obtain⟨kS,hkS,hl⟩:=Option.bind_eq_some_iff.1 hl
   obtain⟨ks,hks,hl⟩:=Option.bind_eq_some_iff.1 hl
   obtain⟨lx,hx,hl⟩:=Option.bind_eq_some_iff.1 hl
   obtain⟨lk,hk,hl⟩:=Option.bind_eq_some_iff.1 hl
   obtain⟨lv,hv,rfl⟩:=Option.map_eq_some_iff.1 hl
   have vx:=aF hx hs
   have vk:=aF hk hs
   have vv:=aF hv hs
   obtain⟨hf,hsem⟩:=hsem
   have hck:∀em,(Instr.checkKey em 10000 kt (act.eval ko)).run P K.w= .ok () K.w:=fun em=>gV K.w em hks hkS (by decide) vk hf
   split at hsem
   ·rename_i n he
    split at hsem
    ·rename_i es c hn
     rw[he] at vx
     generalize hcv:act.eval mo=cv at vx
     cases vx
     obtain⟨ces,hh,hm⟩:=(hr.blk n _ hn).toMEs
     split at hsem
     ·rename_i j hfd
      obtain⟨hj,heq⟩:=sL hfd
      have hfk:=dG K.w hks hkS (by decide) vk hm hfd
      have hjc:j<ces.size:=by have:=hm.1;simp at this;omega
      obtain⟨ce,hce⟩:∃ce,ce=ces.toList.getD j default:=⟨_,rfl⟩
      have hks':=aBl (P:=P) K.w vk (hm.2 j hj).1 heq
      have hge:ces[j]?=some ce:=by rw[hce];simp[List.getD_eq_getElem?_getD,hjc]
      have hmj:=hm.2 j hj
      rw[←hce] at hks' hmj
      rw[Option.map_some,←hce] at hfk
      refine nI hr hn hh (ces':=ces.modify j fun e=>{e with key:=act.eval ko,val:=act.eval vo}) ?_ (nx:= .skip) (cv:=Go.undef) ?_ (.inr ⟨rfl,rfl⟩) (.undef K) hsem
      ·rw[mB hjc,←hce]
       exact hm.set j vk vv hmj.2.2
      simp[execOp,hop,Instr.mapUpdate,hcv,run_underlying hu,cM hh,hck,hfk,hge,hks',fW _ hh rfl]
     ·rename_i hfd
      have hfk:=dG K.w hks hkS (by decide) vk hm hfd
      refine nI hr hn hh (ces':=ces.push ⟨act.eval ko,act.eval vo,c⟩) ?_ (nx:= .skip) (cv:=Go.undef) ?_ (.inr ⟨rfl,rfl⟩) (.undef K) hsem
      ·rw[Array.toList_push]
       exact hm.push vk vv rfl
      simp[execOp,hop,Instr.mapUpdate,hcv,run_underlying hu,cM hh,hck,hfk,fW _ hh rfl]
     exact hsem.elim
    exact hsem.elim
   exact hsem.elim
  simp at hl
 case h_3 t mo ko hop=>
  split at hl
  ·rename_i kt et hu
   obtain⟨kS,hkS,hl⟩:=Option.bind_eq_some_iff.1 hl
   obtain⟨ks,hks,hl⟩:=Option.bind_eq_some_iff.1 hl
   obtain⟨z,hz,hl⟩:=Option.bind_eq_some_iff.1 hl
   obtain⟨zv,hzv,hl⟩:=Option.bind_eq_some_iff.1 hl
   obtain⟨lx,hx,hl⟩:=Option.bind_eq_some_iff.1 hl
   obtain⟨lk,hk,rfl⟩:=Option.map_eq_some_iff.1 hl
   obtain⟨it,hit,hz⟩:=Option.bind_eq_some_iff.1 hz
   have hzr:(zeroValue et).run P K.w= .ok z K.w:=by simp[zeroValue,typeInfo,hit,hz]
   have vz:=eO hzv K
   have two:∀(v:V) (cv:Value) (n:Nat),VR K v cv→VR K (.tup [v, .int .i64 n]) (.tuple #[cv, .int .i64 n]):=fun v cv n h=> .tup _ _ rfl fun i hi=>by
    match i,hi with
    |0,_=>exact h
    |1,_=>exact .int .i64 n
   have vx:=aF hx hs
   have vk:=aF hk hs
   obtain⟨hf,hsem⟩:=hsem
   have hck:∀em,(Instr.checkKey em 10000 kt (act.eval ko)).run P K.w= .ok () K.w:=fun em=>gV K.w em hks hkS (by decide) vk hf
   split at hsem
   ·rename_i n he
    split at hsem
    ·rename_i es c hn
     rw[he] at vx
     generalize hcv:act.eval mo=cv at vx
     cases vx
     obtain⟨ces,hh,hm⟩:=(hr.blk n _ hn).toMEs
     split at hsem
     ·rename_i j hfd
      obtain⟨hj,heq⟩:=sL hfd
      have hfk:=dG K.w hks hkS (by decide) vk hm hfd
      have hjc:j<ces.size:=by have:=hm.1;simp at this;omega
      obtain⟨ce,hce⟩:∃ce,ce=ces.toList.getD j default:=⟨_,rfl⟩
      have hks':=aBl (P:=P) K.w vk (hm.2 j hj).1 heq
      have hge:ces[j]?=some ce:=by rw[hce];simp[List.getD_eq_getElem?_getD,hjc]
      have hmj:=hm.2 j hj
      rw[←hce] at hks' hmj
      rw[Option.map_some,←hce] at hfk
      have hbn:=hmj.2.2
      refine nI hr hn hh (ces':=ces.modify j fun e=>{e with key:=act.eval ko}) ?_ (nx:= .value (.tuple #[ce.val, .int .i64 (es.getD j default).b])) ?_ (.inl rfl) (two _ _ _ hmj.2.1) hsem
      ·rw[mB hjc,←hce]
       exact hm.set j vk hmj.2.1 hbn
      simp[execOp,hop,Instr.mapEntry,hcv,run_underlying hu,cM hh,hck,hfk,hge,hks',fW _ hh rfl,goInt]
      rw[hbn];simp[List.getD_eq_getElem?_getD]
     ·rename_i hfd
      have hfk:=dG K.w hks hkS (by decide) vk hm hfd
      refine nI hr hn hh (ces':=ces.push ⟨act.eval ko,z,c⟩) ?_ (nx:= .value (.tuple #[z, .int .i64 c])) ?_ (.inl rfl) (two _ _ _ vz) hsem
      ·rw[Array.toList_push]
       exact hm.push vk vz rfl
      simp[execOp,hop,Instr.mapEntry,hcv,run_underlying hu,cM hh,hck,hfk,hzr,fW _ hh rfl,goInt]
     exact hsem.elim
    exact hsem.elim
   exact hsem.elim
  simp at hl
 case h_4 t mo so vo hop=>
  split at hl
  ·rename_i kt et hu
   obtain⟨lx,hx,hl⟩:=Option.bind_eq_some_iff.1 hl
   obtain⟨ls,hss,hl⟩:=Option.bind_eq_some_iff.1 hl
   obtain⟨lv,hv,rfl⟩:=Option.map_eq_some_iff.1 hl
   have vx:=aF hx hs
   have vs:=aF hss hs
   have vv:=aF hv hs
   simp only[MOp.sem] at hsem
   split at hsem
   ·rename_i n kk b he hes
    split at hsem
    ·rename_i es c hn
     obtain⟨j,hj,hR⟩:=hsem
     rw[he] at vx
     rw[hes] at vs
     generalize hcv:act.eval mo=cv at vx
     generalize hcs:act.eval so=cs at vs
     cases vx
     cases vs
     obtain⟨ces,hh,hm⟩:=(hr.blk n _ hn).toMEs
     have hfi:ces.findIdx? (fun e=>(e.born:Int)==b)=some j:=by
      have:∀(es:List ME) (cl:List MapEntry),MEs K es cl→cl.findIdx? (fun e=>(e.born:Int)==b)=es.findIdx? (fun e=>(e.b:Int)==b):=by
       intro es
       induction es with
       |nil=>intro cl hm;have:=hm.1;cases cl with
        |nil=>rfl
        |cons=>simp at this
       |cons e es ih=>
        intro cl hm
        cases cl with
        |nil=>have:=hm.1;simp at this
        |cons c cl=>rw[List.findIdx?_cons,List.findIdx?_cons,ih cl hm.tail,hm.head.2.2]
      rw[show ces.findIdx? (fun e=>(e.born:Int)==b)=ces.toList.findIdx? (fun e=>(e.born:Int)==b) from by cases ces;simp,this es _ hm,hj]
     have hjl:j<es.length:=by
      have:=List.findIdx?_eq_some_iff_findIdx_eq.1 hj
      exact this.1
     have hjc:j<ces.size:=by have:=hm.1;simp at this;omega
     refine nI hr hn hh (ces':=ces.modify j fun e=>{e with val:=act.eval vo}) ?_ (nx:= .skip) (cv:=Go.undef) ?_ (.inr ⟨rfl,rfl⟩) (.undef K) hR
     ·rw[mB hjc]
      exact hm.set j (hm.2 j hjl).1 vv (hm.2 j hjl).2.2
     simp[execOp,hop,Instr.entryStore,hcv,hcs,asInt,asIntOf,cM hh,hfi,fW _ hh rfl]
    exact hsem.elim
   exact hsem.elim
  simp at hl
 case h_5 args ts hop=>
  split at hl
  ·rename_i mo ko t t' hxs hts
   have ha:args=#[mo,ko]:=by apply Array.ext';simpa using hxs
   have ht:ts=#[t,t']:=by apply Array.ext';simpa using hts
   subst ha ht
   split at hl
   ·rename_i kt et hu
    obtain⟨kS,hkS,hl⟩:=Option.bind_eq_some_iff.1 hl
    obtain⟨ks,hks,hl⟩:=Option.bind_eq_some_iff.1 hl
    obtain⟨lx,hx,hl⟩:=Option.bind_eq_some_iff.1 hl
    obtain⟨lk,hk,rfl⟩:=Option.map_eq_some_iff.1 hl
    have vx:=aF hx hs
    have vk:=aF hk hs
    obtain⟨hf,hsem⟩:=hsem
    have hck:∀em,(Instr.checkKey em 10000 kt (act.eval ko)).run P K.w= .ok () K.w:=fun em=>gV K.w em hks hkS (by decide) vk hf
    have vu:VR K V.undef (.tuple #[]):= .undef K
    split at hsem
    ·rename_i he
     rw[he] at vx
     generalize hcv:act.eval mo=cv at vx
     cases vx
     exact⟨.value (.tuple #[]), .tuple #[],K,V.undef,h,by simp[execOp,hop,resolve,invoke,builtin,Builtin.delete_,hcv,run_underlying hu,hck], .inl rfl, .refl K,fun n hn=> .inl hn,vu,hr,hsem⟩
    ·rename_i n he
     split at hsem
     ·rename_i es c hn
      rw[he] at vx
      generalize hcv:act.eval mo=cv at vx
      cases vx
      obtain⟨ces,hh,hm⟩:=(hr.blk n _ hn).toMEs
      split at hsem
      ·rename_i j hfd
       have hfk:=dG K.w hks hkS (by decide) vk hm hfd
       refine nI hr hn hh (ces':=ces.eraseIdxIfInBounds j) ?_ (nx:= .value (.tuple #[])) ?_ (.inl rfl) vu hsem
       ·have:(ces.eraseIdxIfInBounds j).toList=ces.toList.eraseIdx j:=by simp
        rw[this]
        exact hm.erase j
       simp[execOp,hop,resolve,invoke,builtin,Builtin.delete_,hcv,run_underlying hu,cM hh,hck,hfk,fW _ hh rfl]
      ·rename_i hfd
       have hfk:=dG K.w hks hkS (by decide) vk hm hfd
       refine nI hr hn hh (ces':=ces) hm (nx:= .value (.tuple #[])) ?_ (.inl rfl) vu hsem
       simp[execOp,hop,resolve,invoke,builtin,Builtin.delete_,hcv,run_underlying hu,cM hh,hck,hfk,fW _ hh rfl]
      exact hsem.elim
     exact hsem.elim
    exact hsem.elim
   simp at hl
  simp at hl
 case h_6 t xo hop=>
  split at hl
  ·rename_i kt et hu
   obtain⟨lx,hx,rfl⟩:=Option.map_eq_some_iff.1 hl
   have vx:=aF hx hs
   simp only[MOp.sem] at hsem
   split at hsem
   ·rename_i n he
    split at hsem
    ·rename_i es c hn
     rw[he] at vx
     generalize hcv:act.eval xo=cv at vx
     cases vx with
     |map _ hln=>
      obtain⟨ces,hh,hm⟩:=(hr.blk n _ hn).toMEs
      have hmu:(K.push a (.mapIter (some (K.mu n)) c #[] c) 0).mu a=K.w.heap.size:=by simp[Ker.push]
      have hna:n≠a:=fun e=>hfresh (e▸hln)
      have hmn:(K.push a (.mapIter (some (K.mu n)) c #[] c) 0).mu n=K.mu n:=by simp[Ker.push,hna]
      obtain⟨h1,h2,h3⟩:=hr.newBlk hfresh (o:= .mapIter (some (K.mu n)) c #[] c) (b:= .mit n c [] c) (.mit n c [] c (by rw[hmu,hmn];exact cQ _ _) (.inr hln))
      have hv:=VR.ptr (K:=K.push a (.mapIter (some (K.mu n)) c #[] c) 0) a .leaf 0 0 (.inl rfl)
      rw[hmu] at hv
      exact⟨_,_,K.push a (.mapIter (some (K.mu n)) c #[] c) 0,_,_,by simp[execOp,hop,Instr.range,hcv,run_underlying hu,cM hh,Ker.push], .inl rfl,h1,h2,hv,h3,hsem⟩
    exact hsem.elim
   exact hsem.elim
  simp at hl
 case h_7 xo hop=>
  obtain⟨lx,hx,rfl⟩:=Option.map_eq_some_iff.1 hl
  have vx:=aF hx hs
  simp only[MOp.sem] at hsem
  split at hsem
  ·rename_i it he
   split at hsem
   ·rename_i m since seen last hit
    split at hsem
    ·rename_i es c hn
     obtain⟨hbs,hsl,hR1,hR2⟩:=hsem
     rw[he] at vx
     generalize hcv:act.eval xo=cv at vx
     cases vx with
     |ptr _ _ _ _ hlit=>
      obtain⟨ces,hh,hm⟩:=(hr.blk m _ hn).toMEs
      have hbit:=hr.blk it _ hit
      cases hbit with
      |mit _ _ _ _ hhi hlm=>
       have hev:act.eval xo= .pointer (some ⟨K.mu it,0,none⟩):=by rw[hcv];simp
       have hborn:∀e∈ces,e.born<since:=fun e hce=>by
        obtain⟨x,hx,_,_,hxb⟩:=hm.back (Array.mem_toList_iff.2 hce)
        rw[hxb];exact hbs x hx
       have hc:(!seen.toArray.isEmpty&& !ces.isEmpty&&ces.all (fun e=>decide (e.born≥last)))=false:=by
        cases hce:ces.isEmpty with
        |true=>simp
        |false=>
         have hne:ces≠#[]:=by intro e;rw[e] at hce;simp at hce
         have:ces.all (fun e=>decide (e.born≥last))=false:=by
          rw[Bool.eq_false_iff]
          intro hall
          have h0:0<ces.size:=Array.size_pos_iff.2 hne
          have h1:=Array.all_eq_true.1 hall 0 h0
          have h2:=hborn _ (Array.getElem_mem h0)
          simp at h1
          omega
         simp[this]
       obtain⟨left,hleft⟩:∃left,left=ces.filter fun e=> !seen.toArray.contains e.born:=⟨_,rfl⟩
       have hold:left.filter (fun e=>decide (e.born<since))=left:=by
        rw[Array.filter_eq_self]
        intro e hce
        rw[hleft] at hce
        simpa using hborn e (Array.mem_filter.1 hce).1
       have hnew:left.filter (fun e=>decide (e.born≥since))=#[]:=by
        rw[Array.filter_eq_empty_iff]
        intro e hce
        rw[hleft] at hce
        have:=hborn e (Array.mem_filter.1 hce).1
        simp;omega
       by_cases hemp:left=#[]
       ·have hall:∀e∈es,e.b∈seen:=fun e hee=>by
         obtain⟨cx,hcx,_,_,hb⟩:=hm.get hee
         have h0:cx∉left:=by rw[hemp];simp
         rw[hleft,Array.mem_filter] at h0
         have h1:seen.toArray.contains cx.born=true:=by
          cases hq:seen.toArray.contains cx.born with
          |true=>rfl
          |false=>exact absurd ⟨Array.mem_toList_iff.1 hcx,by simp only[hq];rfl⟩ h0
         rw[←hb]
         simpa using h1
        refine⟨.value (.tuple #[.bool false]), .tuple #[.bool false],K, .tup [.bool false],h,?_, .inl rfl, .refl K,fun n hn=> .inl hn, .tup _ _ rfl (fun i hi=>by
         match i,hi with
         |0,_=>exact .bool false),hr,hR2 hall⟩
        simp only[execOp,hop,hev,Instr.next,Sem.run_bind,qW hhi rfl,cM hh,Result.andThen_ok,hc,←hleft,hold,hnew]
        simp[hemp,Question.forced]
       have hpos:0<left.size:=Array.size_pos_iff.2 hemp
       obtain⟨i,w',hch,hi,hw'⟩:=aDM (P:=P) K.w left.size hpos
       have hmem:=Array.getElem_mem hi
       obtain⟨cx,hcx⟩:∃cx,cx=left[i]:=⟨_,rfl⟩
       rw[←hcx] at hmem
       rw[hleft,Array.mem_filter] at hmem
       obtain⟨x,hxe,hxk,hxv,hxb⟩:=hm.back (Array.mem_toList_iff.2 hmem.1)
       have hns:x.b∉seen:=by
        rw[←hxb]
        have:=hmem.2
        simpa using this
       have hR:=hR1 x hxe hns
       obtain⟨K1,hK1,hle1,hr1,hmu1⟩:∃K1:Ker,K1.w=w'∧K.le K1∧Rel K1 h∧(K1.mu=K.mu∧K1.live=K.live):=by
        rcases hw' with rfl|rfl
        ·exact⟨K,rfl, .refl K,hr,rfl,rfl⟩
        exact⟨K.drew,rfl,K.le_drew,hr.drew,rfl,rfl⟩
       have hhi1:K1.w.heap[K1.mu it]?=some (.mapIter (some (K1.mu m)) since seen.toArray last):=by
        have hb1:=hr1.blk it _ hit
        cases hb1 with
        |mit _ _ _ _ q _=>exact q
       have hle2:=K1.leV_obj (o:= .mapIter (some (K1.mu m)) since (seen.toArray.push x.b) c) hhi1 rfl rfl
       obtain⟨g1,g2⟩:=hr1.putBlk hit hhi1 rfl (o:= .mapIter (some (K1.mu m)) since (seen.toArray.push x.b) c) (b1:= .mit m since (seen++[x.b]) c) rfl
        (.mit m since (seen++[x.b]) c (by rw[show(seen++[x.b]).toArray=seen.toArray.push x.b by simp];exact xT hhi1 _) (show K1.live m from by rw[hmu1.2];exact hlm))
       refine⟨.value (.tuple #[.bool true,cx.key,cx.val]), .tuple #[.bool true,cx.key,cx.val],_, .tup [.bool true,x.k,x.v],_,?_, .inl rfl,hle1.trans g1,fun n hn=> .inl (by rw[←hmu1.2];exact hn),?_,g2,hR⟩
       ·simp only[execOp,hop,hev,Instr.next,Sem.run_bind,qW hhi rfl,cM hh,Result.andThen_ok,hc,←hleft,hold,hnew]
        have hne:left.isEmpty=false:=by simpa using hemp
        have hci:(left.map some)[i]?=some (some cx):=by simp[hi,hcx]
        have hset:(setObj (K.mu it) (.mapIter (some (K.mu m)) since (seen.toArray.push cx.born) c)).run P w'= .ok () (w'.putObj (K.mu it) (.mapIter (some (K.mu m)) since (seen.toArray.push cx.born) c)):=by
         rw[←hK1,←hmu1.1]
         exact fW _ hhi1 rfl
        simp only[hne,Bool.false_eq_true,if_false,Array.empty_append,Array.append_empty,Array.size_map,hch,Result.andThen_ok,hci,Sem.run_bind,hset,Sem.run_pure]
        simp only[Ker.obj,hK1,hmu1.1,hxb]
       exact .tup _ _ rfl fun i hi=>by
        match i,hi with
        |0,_=>exact .bool true
        |1,_=>exact(hxk.mono hle1).monoV hle2
        |2,_=>exact(hxv.mono hle1).monoV hle2
    exact hsem.elim
   exact hsem.elim
  exact hsem.elim
 case h_8 xo hop=>
  obtain⟨lx,hx,rfl⟩:=Option.map_eq_some_iff.1 hl
  have vx:=aF hx hs
  simp only[MOp.sem] at hsem
  split at hsem
  ·rename_i it he
   split at hsem
   ·rename_i m since seen last hit
    split at hsem
    ·rename_i es c hn
     obtain⟨rfl,b,e,hlast,hfe,hR⟩:=hsem
     rw[he] at vx
     generalize hcv:act.eval xo=cv at vx
     cases vx with
     |ptr _ _ _ _ hlit=>
      obtain⟨ces,hh,hm⟩:=(hr.blk m _ hn).toMEs
      have hbit:=hr.blk it _ hit
      cases hbit with
      |mit _ _ _ _ hhi hlm=>
       have hev:act.eval xo= .pointer (some ⟨K.mu it,0,none⟩):=by rw[hcv];simp
       obtain⟨ce,hce,hck,hcvv⟩:∃ce,ces.find? (fun e=>e.born==b)=some ce∧VR K e.k ce.key∧VR K e.v ce.val:=by
        have:∀(es:List ME) (cl:List MapEntry),MEs K es cl→∀e,es.find? (fun e=>e.b==b)=some e→∃ce,cl.find? (fun e=>e.born==b)=some ce∧VR K e.k ce.key∧VR K e.v ce.val:=by
         intro es
         induction es with
         |nil=>intro cl hm e he;simp at he
         |cons x es ih=>
          intro cl hm e he
          cases cl with
          |nil=>have:=hm.1;simp at this
          |cons cx cl=>
           rw[List.find?_cons] at he
           rw[List.find?_cons,hm.head.2.2]
           cases hxb:(x.b==b) with
           |true=>
            rw[hxb] at he
            injection he with he
            subst he
            exact⟨cx,rfl,hm.head.1,hm.head.2.1⟩
           |false=>
            rw[hxb] at he
            exact ih cl hm.tail e he
        obtain⟨ce,h1,h2,h3⟩:=this es _ hm e hfe
        exact⟨ce,by rw[←Array.find?_toList];exact h1,h2,h3⟩
       have hbk:seen.toArray.back?=some b:=by simpa using hlast
       refine⟨.value (.tuple #[ce.key,ce.val]), .tuple #[ce.key,ce.val],K, .tup [e.k,e.v],h,?_, .inl rfl, .refl K,fun n hn=> .inl hn, .tup _ _ rfl (fun i hi=>by
        match i,hi with
        |0,_=>exact hck
        |1,_=>exact hcvv),hr,hR⟩
       simp[execOp,hop,hev,Instr.entry,qW hhi rfl,cM hh,hbk,hce]
    exact hsem.elim
   exact hsem.elim
  exact hsem.elim
 case h_9=>simp at hl
end
inductive LOp where
 |val (x:bD)
 |box (k:Sh) (x:aL)
 |bslice (k:Sh) (es:List aL)
 |append (k:Sh) (bytes:Nat) (x y:aL)
 |store (t:Sh) (x v:aL)
 |call (f:Nat) (args:List aL)
 |callv (x:aL) (args:List aL)
 |mkz (k:Sh) (bytes:Nat) (x:aL) (z:V)
 |appz (k:Sh) (bytes:Nat) (x y:aL) (z:V)
 |clear (k:Sh) (x:aL) (z:V)
 |callw (f:Nat) (args fl:List aL)
 |mp (m:MOp)
 deriving Inhabited
def tK(h:Hp):Own→Prop
 | .free=>False
 | .tok n=>h n=some .tip
 |_=>True
def LOp.sem(sl:List V)(h:Hp)(a:Nat)(R:V→Hp→Prop):LOp→Prop
 | .val x=>x.sem sl h fun v=>R v h
 | .box k x=>(x.ev sl).fits k=true∧R (.ptr a k 0 0) (h.set a (.arr k [x.ev sl]))
 | .bslice k es=>(∀e∈es,(e.ev sl).fits k=true)∧(R (.sl k (.tok a) (es.map (aL.ev sl))) (h.set a .tip)∨R (.rs a k 0 es.length) (h.set a (.arr k (es.map (aL.ev sl)))))
 | .append k bytes x y=>match dX h (y.ev sl) with
  |some (ky,ys)=>ky=k∧match x.ev sl with
   | .sl kx own xs=>kx=k∧(xs.length+ys.length)*bytes≤140737488355328∧((tK h own∧R (.sl k (fF a own ys) (xs++ys)) (eQ h a own ys))∨(own= .nil∧xs=[]∧ys≠ []∧R (.rs a k 0 ys.length) (h.set a (.arr k ys))))
   | .rs n kx off len=>match h n with
    |some (.arr kb es)=>kx=k∧((ys=[]∧R (.rs n kx off len) h)∨(kb=k∧off=0∧len≤es.length∧ys≠ []∧(len+ys.length)*bytes≤140737488355328∧R (.rs a k 0 (len+ys.length)) ((h.del n).set a (.arr k (es.take len++ys)))))
    |_=>False
   |_=>False
  |none=>False
 | .store t x v=>match x.ev sl with
  | .ptr n k i o=>match h n with
   |some (.arr k' es)=>k'=k∧i<es.length∧cJ k t o∧(v.ev sl).fits t=true∧R V.undef (h.set n (.arr k (es.set i (bR t o (es.getD i V.undef) (v.ev sl)))))
   |_=>False
  |_=>False
 | .call _ _=>False
 | .callv _ _=>False
 | .mkz k bytes x z=>match x.ev sl with
  | .int _ m=>0≤m∧m.toNat*bytes≤140737488355328∧(R (.rs a k 0 m.toNat) (h.set a (.arr k (List.replicate m.toNat z)))∨R (.sl k (.tok a) (List.replicate m.toNat z)) (h.set a .tip))
  |_=>False
 | .appz k bytes x y z=>match x.ev sl,y.ev sl with
  | .sl k' .nil [], .int _ m=>k'=k∧0<m∧m.toNat*bytes≤140737488355328∧R (.rs a k 0 m.toNat) (h.set a (.arr k (List.replicate m.toNat z)))
  |_,_=>False
 | .clear k x z=>match x.ev sl with
  | .rs n k' off ln=>match h n with
   |some (.arr kb es)=>k'=k∧kb=k∧off+ln≤es.length∧R V.undef (h.set n (.arr k (es.take off++List.replicate ln z++es.drop (off+ln))))
   |_=>False
  | .sl _ _ []=>R V.undef h
  |_=>False
 | .callw _ _ _=>False
 | .mp m=>m.sem sl h a R
def fR(P:Program)(f:FuncId):Bool:=
 match P.funcs[f]? with
 |some fn=> !(fn.name== "runtime.NumGoroutine" ||fn.body.isNone)
 |none=>false
def aW(P:Program)(f:FuncId)(args:List V)(h:Hp)(nx:Nat)(R:V→Hp→Nat→Prop):Prop:=
 fR P f=true∧∀(K:Ker) (cargs:Array Value),(∀n,K.live n→n<nx)→Rel K h→VRs K args cargs→
  Calls P f cargs K.w fun e w'=>∃K' v cv h' nx',K'.w=w'∧e= .returned cv∧K.le K'∧VR K' v cv∧Rel K' h'∧(∀n,K'.live n→n<nx'∧(K.live n∨nx≤n))∧nx≤nx'∧R v h' nx'
theorem aW.mono{P:Program}{f:FuncId}{args:List V}{h:Hp}{nx:Nat}{R R':V→Hp→Nat→Prop}(c:aW P f args h nx R)(hr:∀v h' nx',nx≤nx'→R v h' nx'→R' v h' nx'):aW P f args h nx R':=
 ⟨c.1,fun K cargs hl hrel hv=>(c.2 K cargs hl hrel hv).mono fun _ _ ⟨K',v,cv,h',nx',a,b,c,d,e,g,i,j⟩=>⟨K',v,cv,h',nx',a,b,c,d,e,g,i,hr v h' nx' i j⟩⟩
def fH(P:Program)(n:Nat)(args:List V)(h:Hp)(nx:Nat)(R:V→Hp→Nat→Prop):Prop:=
 ∀(m:Nat) (K:Ker) (cargs:Array Value),(∀i,K.live i→i<nx)→K.live n→Rel K h→VRs K args cargs→
  YieldAt Fence.wide m P (K.mu n) cargs K.w fun e w'=>∃K' v cv h' nx',K'.w=w'∧e= .returned cv∧K.le K'∧VR K' v cv∧Rel K' h'∧(∀i,K'.live i→i<nx'∧(K.live i∨nx≤i))∧nx≤nx'∧R v h' nx'
theorem fH.mono{P:Program}{n:Nat}{args:List V}{h:Hp}{nx:Nat}{R R':V→Hp→Nat→Prop}(c:fH P n args h nx R)(hr:∀v h' nx',nx≤nx'→R v h' nx'→R' v h' nx'):fH P n args h nx R':=
 fun m K cargs hl hn hrel hv=>(c m K cargs hl hn hrel hv).mono fun _ _ ⟨K',v,cv,h',nx',a,b,c,d,e,g,i,j⟩=>⟨K',v,cv,h',nx',a,b,c,d,e,g,i,hr v h' nx' i j⟩
structure aA where
 dst:Option Nat
 g:Option (Nat×Bool)
 op:LOp
 deriving Inhabited
structure St where
 sl:List V
 h:Hp
 nx:Nat
def bF(sl:List V)(dst:Option Nat)(v:V):List V:=
 match dst with
 |some d=>sl.set d v
 |none=>sl
def LOp.run(P:Program)(sl:List V)(h:Hp)(nx:Nat)(R:V→Hp→Nat→Prop):LOp→Prop
 | .val x=>x.sem sl h fun v=>R v h nx
 | .call f args=>aW P f (args.map (aL.ev sl)) h nx R
 | .callv x args=>match x.ev sl with
  | .fn (.func f) first cap=>aW P f (first++args.map (aL.ev sl)++cap) h nx R
  | .yld n=>fH P n (args.map (aL.ev sl)) h nx R
  |_=>False
 |o=>o.sem sl h nx fun v h'=>R v h' (nx+1)
def aV(P:Program):List aA→(St→Prop)→St→Prop
 | [],Q,s=>Q s
 |o::r,Q,s=>
  match o.g with
  |none=>o.op.run P s.sl s.h s.nx fun v h' nx'=>aV P r Q ⟨bF s.sl o.dst v,h',nx'⟩
  |some (t,want)=>match s.sl.getD t V.undef with
   | .bool b=>if b=want then o.op.run P s.sl s.h s.nx fun v h' nx'=>aV P r Q ⟨bF s.sl o.dst v,h',nx'⟩ else aV P r Q ⟨bF s.sl o.dst V.undef,s.h,s.nx⟩
   | .tup _=>aV P r Q ⟨bF s.sl o.dst V.undef,s.h,s.nx⟩
   |_=>False
def aEz:Operand→Operand→Bool
 | .tmp a, .tmp b=>a==b
 | .const (.int k a), .const (.int k' b)=>decide (k=k')&&a==b
 |_,_=>false
theorem aGn{x y:Operand}(h:aEz x y=true):x=y:=by
 unfold aEz at h
 split at h
 ·rw[eq_of_beq h]
 ·simp only[Bool.and_eq_true,decide_eq_true_eq] at h
  rw[h.1,eq_of_beq h.2]
 cases h
def iN(P:Program)(o:Oper):Option LOp:=
 match o.op with
 | .box t x=>(cO P t).bind fun k=>(aP P t x).map (.box k)
 | .alloc t=>(cO P t).bind fun k=>((P.info? t).bind (·.zero)).bind fun z=>(wS P t z).map fun v=> .box k (.const v)
 | .buildSlice t n parts=>match P.underlying t with
  |some (.slice e)=>match P.info? e with
   |some i=>match i.zero with
    |some _=>(cO P e).bind fun k=>if parts.toList.map (·.1)=List.range n∧n*k.size≤16777216 then (eH P (List.replicate n e) (parts.toList.map (·.2))).map (.bslice k) else none
    |none=>none
   |none=>none
  |_=>none
 | .store t a x=>(cO P t).bind fun k=>(aP P 0 a).bind fun a=>(aP P t x).map (.store k a)
 | .call {callee:= .builtin .append,args:=args,argTypes:=ts}=>match args.toList,ts.toList with
  | [x,y],[t,t']=>if t'=t then match P.underlying t with
   |some (.slice e)=>match P.info? e with
    |some i=>match i.zero with
     |some z=>(cO P e).bind fun k=>if z.cells.size=k.size∧0<k.size∧0<i.bytes then (aP P t x).bind fun x=>(aP P t y).map fun y=> .append k i.bytes x y else none
     |none=>none
    |none=>none
   |_=>none
   else match P.underlying t,P.underlying t' with
    |some (.slice e),some (.int _)=>match P.info? e with
     |some i=>match i.zero with
      |some z=>(cO P e).bind fun k=>(wS P e z).bind fun zv=>if zv.fits k=true∧0<k.size∧0<i.bytes then (aP P t x).bind fun x=>(aP P t' y).map fun y=> .appz k i.bytes x y zv else none
      |none=>none
     |none=>none
    |_,_=>none
  |_,_=>none
 | .call {callee:= .value (.func f),args:=args,argTypes:=ts}=>(eH P ts.toList args.toList).map (.call f)
 | .call {callee:= .value (.tmp n),args:=args,argTypes:=ts}=>(eH P ts.toList args.toList).map (.callv (.slot n))
 | .call {callee:= .builtin .clear,args:=args,argTypes:=ts}=>match args.toList,ts.toList with
  | [x],[t]=>match P.underlying t with
   |some (.slice e)=>match P.info? e with
    |some i=>match i.zero with
     |some z=>(cO P e).bind fun k=>(wS P e z).bind fun zv=>if zv.fits k=true then (aP P t x).map fun x=> .clear k x zv else none
     |none=>none
    |none=>none
   |_=>none
  |_,_=>none
 | .makeSlice t l c=>if aEz l c=true then match P.underlying t with
  |some (.slice e)=>match P.info? e with
   |some i=>match i.zero with
    |some z=>(cO P e).bind fun k=>(wS P e z).bind fun zv=>if zv.fits k=true∧0<i.bytes then (aP P 0 l).map fun l=> .mkz k i.bytes l zv else none
    |none=>none
   |none=>none
  |_=>none
  else none
 |_=>match aEP P o with
  |some m=>some (.mp m)
  |none=>(sM P o).map .val
theorem kJ{P:Program}{f:FuncId}(h:fR P f=true)(args:Array Value)(w:World):(callFunc f args).run P w= .ok (.enter f args) w:=by
 unfold fR at h
 cases hf:P.funcs[f]? with
 |none=>simp[hf] at h
 |some fn=>
  simp only[hf,Bool.not_eq_true',Bool.or_eq_false_iff] at h
  have h1:fn.name≠ "runtime.NumGoroutine" :=by simpa using h.1
  have h2:fn.body≠none:=fun e=>by simp[e] at h
  simp[callFunc,hf,h1,h2]
abbrev FR(rd:Option Nat):Fence:={Fence.wide with round:=rd}
theorem zX{rd:Option Nat}{n:Nat}{P:Program}{f:FuncId}{args:Array Value}{w:World}{R:Ending→World→Prop}(h:Calls P f args w R):CallsIn (FR rd) n P f args w R:=
 show CallsIn Fence.wide n P f args w R from callsIn_wide.2 h
theorem pK{P:Program}{o:Oper}{ρ:Operand→Value}{w w':World}{nv:Next}(h:(execOp ρ o).run P w= .ok nv w')(hd:∀d,nv≠ .defer d)(rd:Option Nat):(o.semAt rd ρ).run P w= .ok nv w':=by
 by_cases hc:∃c,o.op= .defer c
 ·obtain⟨c,hc⟩:=hc
  exfalso
  simp only[execOp,hc,Sem.run_bind] at h
  generalize (resolve ρ c o.type).run P w=r at h
  cases r with
  |ok d w1=>simp only[Result.andThen_ok,Sem.run_pure] at h;injection h with h1 _;exact hd _ h1.symm
  |halt x w1=>cases h
 rw[Oper.semAt_eq rd ρ o (fun c e=>hc ⟨c,e⟩)]
 exact h
theorem qT{P:Program}{o:Oper}{act:Act}{w w':World}{cv:Value}{rd:Option Nat}{m:Nat}{next:Act→World→Prop}{Q:Exit→Act→World→Prop}(h:(execOp act.eval o).run P w= .ok (.value cv) w')(hn:next (act.put o.dst cv) w'):o.wpIn (FR rd) m P act w next Q:=by
 refine⟨fun _ _=>trivial,?_⟩
 rw[pK h (by simp) rd]
 exact hn
theorem xE{P:Program}{o:Oper}{act:Act}{w w':World}{rd:Option Nat}{m:Nat}{next:Act→World→Prop}{Q:Exit→Act→World→Prop}(h:(execOp act.eval o).run P w= .ok .skip w')(hn:next (act.put o.dst Go.undef) w'):o.wpIn (FR rd) m P act w next Q:=by
 refine⟨fun _ _=>trivial,?_⟩
 rw[pK h (by simp) rd]
 exact hn
theorem aCA{P:Program}{o:Oper}{act:Act}{w w':World}{f:FuncId}{args:Array Value}{rd:Option Nat}{m:Nat}{next:Act→World→Prop}{Q:Exit→Act→World→Prop}(h:(execOp act.eval o).run P w= .ok (.enter f args) w')
 (hn:Calls P f args w' fun e w''=>∃v,e= .returned v∧next (act.put o.dst v) w''):o.wpIn (FR rd) m P act w next Q:=by
 refine⟨fun _ _=>trivial,?_⟩
 rw[pK h (by simp) rd]
 refine⟨(by intro h;cases h),zX (hn.mono ?_)⟩
 rintro e w'' ⟨v,rfl,h⟩
 exact h
def qA(P:Program)(o:Oper)(act:Act)(K:Ker)(nx:Nat)(R:V→Hp→Nat→Prop):Prop:=
 ∀(rd:Option Nat) (m:Nat) (next:Act→World→Prop) (Q:Exit→Act→World→Prop),
  (∀K' v cv h' nx',K.le K'→VR K' v cv→Rel K' h'→(∀n,K'.live n→n<nx'∧(K.live n∨nx≤n))→nx≤nx'→R v h' nx'→next (act.put o.dst cv) K'.w)→o.wpIn (FR rd) m P act K.w next Q
theorem eT.toC{P:Program}{o:Oper}{act:Act}{K:Ker}{nx:Nat}{R:V→Hp→Nat→Prop}(hl:∀n,K.live n→n<nx)(y:eT P o act K nx fun v h'=>R v h' (nx+1)):qA P o act K nx R:=by
 intro rd m next Q hn
 obtain⟨nx',cv,K',v,h',h1,h2,h3,h4,h5,h6,h7⟩:=y
 have hlive:∀n,K'.live n→n<nx+1∧(K.live n∨nx≤n):=fun n hn=>by
  rcases h4 n hn with h|h
  ·have:=hl n h;exact⟨by omega, .inl h⟩
  exact⟨by omega, .inr (by omega)⟩
 have:=hn K' v cv h' (nx+1) h3 h5 h6 hlive (by omega) h7
 rcases h2 with rfl|⟨rfl,rfl⟩
 ·exact qT h1 this
 exact xE h1 this
theorem tO.toC{P:Program}{o:Oper}{act:Act}{K:Ker}{nx:Nat}{h:Hp}{R:V→Hp→Nat→Prop}(hl:∀n,K.live n→n<nx)(hr:Rel K h)(y:tO P o act K fun v=>R v h nx):qA P o act K nx R:=by
 intro rd m next Q hn
 obtain⟨cv,v,h1,h2,h3⟩:=y
 refine qT h1 ?_
 exact hn K v cv h nx (.refl K) h2 hr (fun n hn=>⟨hl n hn, .inl hn⟩) (Nat.le_refl _) h3
theorem mD{P:Program}{K:Ker}{sl:List V}{act:Act}(hs:∀t,VR K (sl.getD t V.undef) (act.tmps.getD t Go.undef)){xs:Array Operand}{ts:List TypeId}{ls:List aL}(h:eH P ts xs.toList=some ls):VRs K (ls.map (aL.ev sl)) (xs.map act.eval):=by
 obtain⟨a,b⟩:=fJ hs _ _ _ h
 refine⟨by simpa using a,fun i hi=>?_⟩
 have:=b i (by simpa using hi)
 simpa [Array.getD_eq_getD_getElem?,List.getD_eq_getElem?_getD] using this
theorem VRs.append{K:Ker}{a b:List V}{ca cb:Array Value}(h:VRs K a ca)(h':VRs K b cb):VRs K (a++b) (ca++cb):=by
 refine⟨by simp[h.1,h'.1],fun i hi=>?_⟩
 have ha:=h.1
 simp only[List.length_append] at hi
 by_cases e:i<a.length
 ·have:=h.2 i e
  simp only[List.getD_eq_getElem?_getD,Array.getD_eq_getD_getElem?] at this⊢
  rw[List.getElem?_append_left e,Array.getElem?_append_left (by omega)]
  exact this
 have:=h'.2 (i-a.length) (by omega)
 simp only[List.getD_eq_getElem?_getD,Array.getD_eq_getD_getElem?] at this⊢
 rw[List.getElem?_append_right (by omega),Array.getElem?_append_right (by omega),←ha]
 exact this
theorem aW.toC{P:Program}{o:Oper}{act:Act}{K:Ker}{nx:Nat}{h:Hp}{R:V→Hp→Nat→Prop}{f:FuncId}{args:List V}{cargs:Array Value}(hrun:(execOp act.eval o).run P K.w= .ok (.enter f cargs) K.w)(hl:∀n,K.live n→n<nx)(hr:Rel K h)(hv:VRs K args cargs)(c:aW P f args h nx R):qA P o act K nx R:=by
 intro rd m next Q hn
 refine aCA hrun ((c.2 K cargs hl hr hv).mono ?_)
 rintro e w' ⟨K',v,cv,h',nx',rfl,rfl,a,b,cc,d,e',g⟩
 refine⟨cv,rfl,?_⟩
 exact hn K' v cv h' nx' a b cc d e' g
theorem zZ{P:Program}{K:Ker}{k:Sh}{t e:TypeId}{i:TypeInfo}(ht:P.underlying t=some (.slice e))(hi:P.info? e=some i){ty:TypeId}{n off len:Nat}{cx cy:Value}(hx:VR K (.rs n k off len) cx)(hy:tP K k [] cy):
 (Builtin.append_ #[t,t] ty #[cx,cy]).run P K.w= .ok cx K.w:=by
 obtain⟨ay,capy,rfl,_,_⟩:=hy
 cases hx with
 |rs _ _ _ _ cap hl hcap hm=>
  have hf:(Builtin.firstCells i.size 0 (.slice ay 0 capy)).run P K.w= .ok #[] K.w:=by
   cases ay with
   |none=>rfl
   |some ad=>simp[Builtin.firstCells,loadCells,loadCellsFrom]
  simp[Builtin.append_,run_underlying ht,sizeOf,typeInfo,hi,Builtin.lenOf,hcap,hf,storeCells]
theorem Rel.shorten{K:Ker}{h:Hp}(r:Rel K h){n:Nat}{k:Sh}{es:List V}(hn:h n=some (.arr k es))(m:Nat)(hm:m≤es.length):Rel K (h.set n (.arr k (es.take m))):=by
 have hd:∀x b,(h.set n (.arr k (es.take m))) x=some b→(x=n∧b= .arr k (es.take m))∨(x≠n∧h x=some b):=fun x b e=>by
  unfold Hp.set at e
  split at e
  ·rename_i hx;injection e with e;exact .inl ⟨hx,e.symm⟩
  rename_i hx;exact .inr ⟨hx,e⟩
 refine⟨fun x b e=>?_,fun x b e=>?_,fun x b e=>?_,fun x y b b' e e' em=>?_,r.size⟩
 ·rcases hd x b e with⟨rfl,_⟩|⟨_,e⟩
  ·exact r.lt _ _ hn
  exact r.lt _ _ e
 ·rcases hd x b e with⟨rfl,_⟩|⟨_,e⟩
  ·exact r.base _ _ hn
  exact r.base _ _ e
 ·rcases hd x b e with⟨rfl,rfl⟩|⟨_,e⟩
  ·have:=r.blk _ _ hn
   cases this with
   |arr _ _ c T hh hsz hi hfit hv=>
    have hle:(es.take m).length*k.size≤es.length*k.size:=Nat.mul_le_mul_right _ (by simp;omega)
    refine .arr k _ c T hh (by omega) hi (fun x hx=>hfit x (List.mem_of_mem_take hx)) fun i hi j hj=>?_
    have hi':i<m∧i<es.length:=by simpa [Nat.lt_min] using hi
    have e1:(es.take m).getD i V.undef=es.getD i V.undef:=by simp[List.getD_eq_getElem?_getD,List.getElem?_take,hi'.1]
    rw[e1]
    exact hv i hi'.2 j hj
  exact r.blk _ _ e
 have g:∀x b,(h.set n (.arr k (es.take m))) x=some b→∃b',h x=some b':=fun x b e=>by
  rcases hd x b e with⟨rfl,_⟩|⟨_,e⟩
  ·exact⟨_,hn⟩
  exact⟨_,e⟩
 obtain⟨_,e1⟩:=g x b e
 obtain⟨_,e2⟩:=g y b' e'
 exact r.inj x y _ _ e1 e2 em
theorem cI{P:Program}{o:Oper}{act:Act}{K:Ker}{sl:List V}{h:Hp}{a:Nat}{R:V→Hp→Prop}{l:LOp}(hl:iN P o=some l)(hs:∀t,VR K (sl.getD t V.undef) (act.tmps.getD t Go.undef))(hr:Rel K h)(hfresh:¬K.live a)
 (hsem:l.sem sl h a R):eT P o act K a R:=by
 unfold iN at hl
 split at hl
 case h_1 t x hop=>
  obtain⟨k,hk,hl⟩:=Option.bind_eq_some_iff.1 hl
  obtain⟨lx,hx,rfl⟩:=Option.map_eq_some_iff.1 hl
  obtain⟨hf,hR⟩:=hsem
  obtain⟨K',q1,q2,q3,q4,q5⟩:=qJ (P:=P) hr hfresh (aF hx hs) hf t
  refine⟨_,_,K',_,_,?_, .inl rfl,q2,q3,q4,q5,hR⟩
  simp only[execOp,hop,Instr.box,Sem.run_bind,q1,Result.andThen_ok,Sem.run_pure]
 case h_2 t hop=>
  obtain⟨k,hk,hl⟩:=Option.bind_eq_some_iff.1 hl
  obtain⟨z,hz,hl⟩:=Option.bind_eq_some_iff.1 hl
  obtain⟨v,hv,rfl⟩:=Option.map_eq_some_iff.1 hl
  obtain⟨i,hi,hz⟩:=Option.bind_eq_some_iff.1 hz
  obtain⟨hf,hR⟩:=hsem
  obtain⟨K',q1,q2,q3,q4,q5⟩:=qJ (P:=P) hr hfresh (eO hv K) hf t
  refine⟨_,_,K',_,_,?_, .inl rfl,q2,q3,q4,q5,hR⟩
  have hzv:(zeroValue t).run P K.w= .ok z K.w:=by simp[zeroValue,typeInfo,hi,hz]
  simp only[execOp,hop,Instr.alloc,Sem.run_bind,hzv,q1,Result.andThen_ok,Sem.run_pure]
 case h_3 t n parts hop=>
  split at hl
  ·rename_i e hu
   split at hl
   ·rename_i i hi
    split at hl
    ·rename_i z hz
     obtain⟨k,hk,hl⟩:=Option.bind_eq_some_iff.1 hl
     split at hl
     ·rename_i hc
      obtain⟨ls,hls,rfl⟩:=Option.map_eq_some_iff.1 hl
      obtain⟨hf,hR⟩:=hsem
      obtain⟨a1,a2⟩:=fJ hs _ _ _ hls
      obtain⟨i',d,hi',hd,hsz,_⟩:=fN hk
      rw[hi] at hi'
      injection hi' with hi'
      subst hi'
      have hlen:parts.toList.length=n:=by have:=congrArg List.length hc.1;simpa using this
      have hcl:((parts.toList.map (·.2)).map act.eval).length=n:=by simpa using hlen
      have hfv:∀v∈ls.map (aL.ev sl),v.fits k=true:=by
       intro v hv
       obtain⟨e,he,rfl⟩:=List.mem_map.1 hv
       exact hf e he
      have hparts:(parts.map fun(i,x)=>(i,act.eval x))=((((parts.toList.map (·.2)).map act.eval).zipIdx 0).map fun p=>(p.2,p.1)).toArray:=by
       apply Array.ext'
       simp only[Array.toList_map,List.map_map]
       have hidx:∀j (h1:j<parts.toList.length),(parts.toList[j]).1=j:=by
        intro j h1
        have:=congrArg (fun l=>l[j]?) hc.1
        simp only[List.getElem?_map,List.getElem?_eq_getElem h1,Option.map_some] at this
        rw[List.getElem?_range (by omega)] at this
        injection this
       apply List.ext_getElem
       ·simp
       intro j h1 h2
       simp only[List.getElem_map,List.getElem_zipIdx,Function.comp]
       have:=hidx j (by simpa using h1)
       simp only[Nat.zero_add]
       rw[this]
      rcases hR with hR|hR
      ·obtain⟨cv,K',q1,q2,q3,q4,q5⟩:=aAD (P:=P) hr hfresh (vs:=ls.map (aL.ev sl)) (cvs:=(parts.toList.map (·.2)).map act.eval) hu hi hz hsz (by simp only[List.length_map];simpa using a1) (fun i hi=>a2 i (by simpa using hi)) hfv (by rw[hcl];exact hc.2)
       refine⟨_,cv,K',_,_,?_, .inl rfl,q2,q3,q4,q5,hR⟩
       simp only[execOp,hop,hparts,Sem.run_bind]
       rw[hcl] at q1
       rw[q1]
       rfl
      obtain⟨cv,K',q1,q2,q3,q4,q5⟩:=tI (P:=P) hr hfresh (vs:=ls.map (aL.ev sl)) (cvs:=(parts.toList.map (·.2)).map act.eval) hu hi hz hsz (by simp only[List.length_map];simpa using a1) (fun i hi=>a2 i (by simpa using hi)) hfv (by rw[hcl];exact hc.2)
      rw[List.length_map] at q4
      refine⟨_,cv,K',_,_,?_, .inl rfl,q2,q3,q4,q5,hR⟩
      simp only[execOp,hop,hparts,Sem.run_bind]
      rw[hcl] at q1
      rw[q1]
      rfl
     simp at hl
    simp at hl
   simp at hl
  simp at hl
 case h_4 t x v hop=>
  obtain⟨k,hk,hl⟩:=Option.bind_eq_some_iff.1 hl
  obtain⟨lx,hx,hl⟩:=Option.bind_eq_some_iff.1 hl
  obtain⟨lv,hv,rfl⟩:=Option.map_eq_some_iff.1 hl
  have vx:=aF hx hs
  simp only[LOp.sem] at hsem
  split at hsem
  ·rename_i n k' i oo he
   split at hsem
   ·rename_i k2 es hn
    obtain⟨rfl,hi,hp,hf,hR⟩:=hsem
    rw[he] at vx
    generalize hcx:act.eval x=cx at vx
    cases vx with
    |ptr _ _ _ _ hlive=>
     obtain⟨K',q1,q2,q3,q4⟩:=aBH (P:=P) hr hk hn hi hp (aF hv hs) hf
     refine⟨.skip,Go.undef,K',V.undef,_,?_, .inr ⟨rfl,rfl⟩,q2,fun n hn=> .inl (q3 n hn), .undef K',q4,hR⟩
     simp only[execOp,hop,hcx,Sem.run_bind,q1,Result.andThen_ok,Sem.run_pure]
   exact hsem.elim
  exact hsem.elim
 case h_5 args ts hop=>
  split at hl
  ·rename_i x y t t' hxs hts
   have ha:args=#[x,y]:=by apply Array.ext';simpa using hxs
   have ht:ts=#[t,t']:=by apply Array.ext';simpa using hts
   subst ha ht
   split at hl
   ·rename_i htt
    subst htt
    split at hl
    ·rename_i e hu
     split at hl
     ·rename_i i hi
      split at hl
      ·rename_i z hz
       obtain⟨k,hk,hl⟩:=Option.bind_eq_some_iff.1 hl
       split at hl
       ·rename_i hc
        obtain⟨lx,hx,hl⟩:=Option.bind_eq_some_iff.1 hl
        obtain⟨ly,hy,rfl⟩:=Option.map_eq_some_iff.1 hl
        have vx:=aF hx hs
        have vy:=aF hy hs
        simp only[LOp.sem] at hsem
        split at hsem
        ·rename_i ky ys hey
         obtain⟨rfl,hsem⟩:=hsem
         have sy:=aBN hr vy hey
         obtain⟨i',d,hi',hd,hsz,_⟩:=fN hk
         rw[hi] at hi'
         injection hi' with hi'
         subst hi'
         split at hsem
         ·rename_i kx own xs hex
          obtain⟨rfl,hb,hsem⟩:=hsem
          rw[hex] at vx
          have hm:xs.length+ys.length≤9223372036854775807:=by
           have:=Nat.le_mul_of_pos_right (xs.length+ys.length) hc.2.2
           omega
          rcases hsem with⟨hok,hR⟩|⟨rfl,rfl,hne,hR⟩
          ·obtain⟨cv,K',q1,q2,q3,q4,q5⟩:=aAF (P:=P) (ty:=o.type) hr hfresh hu hi hz hsz hc.1 hc.2.1 vx sy (by rintro rfl;exact hok) (by rintro n rfl;exact hok) hb hm
           refine⟨_,cv,K',_,_,?_, .inl rfl,q2,q3,q4,q5,hR⟩
           simp[execOp,hop,resolve,invoke,builtin,q1]
          obtain⟨cv,K',q1,q2,q3,q4,q5⟩:=lW (P:=P) (ty:=o.type) (xs:=[]) hr hfresh hu hi hz hsz hc.1 hc.2.1 vx sy hne (.inl ⟨rfl,rfl⟩) hb hm
          refine⟨_,cv,K',_,_,?_, .inl rfl,q2,q3,q4,q5,by simpa using hR⟩
          simp[execOp,hop,resolve,invoke,builtin,q1]
         ·rename_i n kx off len hex
          split at hsem
          ·rename_i kb es hn
           obtain⟨rfl,hsem⟩:=hsem
           rw[hex] at vx
           rcases hsem with⟨rfl,hR⟩|⟨rfl,rfl,hlen,hne,hb,hR⟩
           ·have hrun:=zZ (P:=P) (ty:=o.type) hu hi vx sy
            refine⟨_,_,K,_,_,?_, .inl rfl, .refl K,fun n hn=> .inl hn,vx,hr,hR⟩
            simp[execOp,hop,resolve,invoke,builtin,hrun]
           have hm:len+ys.length≤9223372036854775807:=by
            have:=Nat.le_mul_of_pos_right (len+ys.length) hc.2.2
            omega
           have htl:(es.take len).length=len:=by simp;omega
           have hn':(h.set n (.arr kb (es.take len))) n=some (.arr kb (es.take len)):=by simp[Hp.set]
           have hr':Rel K (h.set n (.arr kb (es.take len))):=hr.shorten hn len hlen
           obtain⟨cv,K',q1,q2,q3,q4,q5⟩:=lW (P:=P) (ty:=o.type) (xs:=es.take len) hr' hfresh hu hi hz hsz hc.1 hc.2.1 vx sy hne (.inr ⟨n,by rw[htl],hn'⟩) (by rw[htl];exact hb) (by rw[htl];exact hm)
           have hdel:(h.set n (.arr kb (es.take len))).del n=h.del n:=by
            funext x
            unfold Hp.set Hp.del
            by_cases e:x=n<;>simp[e]
           rw[htl] at q4
           simp only[hdel] at q5
           refine⟨_,cv,K',_,_,?_, .inl rfl,q2,q3,q4,q5,hR⟩
           simp[execOp,hop,resolve,invoke,builtin,q1]
          exact hsem.elim
         exact hsem.elim
        exact hsem.elim
       simp at hl
      simp at hl
     simp at hl
    simp at hl
   split at hl
   ·rename_i e kn hu hun
    split at hl
    ·rename_i i hi
     split at hl
     ·rename_i z hz
      obtain⟨k,hk,hl⟩:=Option.bind_eq_some_iff.1 hl
      obtain⟨zv,hzv,hl⟩:=Option.bind_eq_some_iff.1 hl
      split at hl
      ·rename_i hc
       obtain⟨lx,hx,hl⟩:=Option.bind_eq_some_iff.1 hl
       obtain⟨ly,hy,rfl⟩:=Option.map_eq_some_iff.1 hl
       have vx:=aF hx hs
       have vy:=aF hy hs
       obtain⟨i',d,hi',hd,hsz,_⟩:=fN hk
       rw[hi] at hi'
       injection hi' with hi'
       subst hi'
       simp only[LOp.sem] at hsem
       split at hsem
       ·rename_i k' ky m hex hey
        obtain⟨rfl,h0,hb,hR⟩:=hsem
        rw[hex] at vx
        rw[hey] at vy
        generalize hcx:act.eval x=cx at vx
        generalize hcy:act.eval y=cy at vy
        cases vy
        cases vx with
        |slnil=>
         obtain⟨cv,K',q1,q2,q3,q4,q5⟩:=aEa (P:=P) hr hfresh hu hun hi hz hsz hc.2.1 hc.2.2 (eO hzv K) hc.1 o.type ky h0 hb
         refine⟨_,cv,K',_,_,?_, .inl rfl,q2,q3,q4,q5,hR⟩
         simp[execOp,hop,resolve,invoke,builtin,hcx,hcy,q1]
        |sl _ _ _ b off cap f' hb' hfit' hcell hst hv hcap hnil hfull htok=>exact absurd rfl hnil
       exact hsem.elim
      simp at hl
     simp at hl
    simp at hl
   simp at hl
  simp at hl
 case h_6 f args ts hop=>
  obtain⟨ls,hls,rfl⟩:=Option.map_eq_some_iff.1 hl
  exact hsem.elim
 case h_7 n args ts hop=>
  obtain⟨ls,hls,rfl⟩:=Option.map_eq_some_iff.1 hl
  exact hsem.elim
 case h_8 args ts hop=>
  split at hl
  ·rename_i x t hxs hts
   have ha:args=#[x]:=by apply Array.ext';simpa using hxs
   have ht:ts=#[t]:=by apply Array.ext';simpa using hts
   subst ha ht
   split at hl
   ·rename_i e hu
    split at hl
    ·rename_i i hi
     split at hl
     ·rename_i z hz
      obtain⟨k,hk,hl⟩:=Option.bind_eq_some_iff.1 hl
      obtain⟨zv,hzv,hl⟩:=Option.bind_eq_some_iff.1 hl
      split at hl
      ·rename_i hc
       obtain⟨lx,hx,rfl⟩:=Option.map_eq_some_iff.1 hl
       have vx:=aF hx hs
       simp only[LOp.sem] at hsem
       split at hsem
       ·rename_i n k' off ln hex
        split at hsem
        ·rename_i kb es hn
         obtain⟨rfl,rfl,hle,hR⟩:=hsem
         rw[hex] at vx
         obtain⟨K',q1,q2,q3,q4⟩:=aCp (P:=P) hr hn hle vx hu hi hz (eO hzv K) hc o.type
         refine⟨_,_,K',_,_,?_, .inl rfl,q2,fun n hn=> .inl (q3 n hn), .undef K',q4,hR⟩
         simp[execOp,hop,resolve,invoke,builtin,q1]
         rfl
        exact hsem.elim
       ·rename_i k' own hex
        rw[hex] at vx
        generalize hcx:act.eval x=cx at vx
        have hrun:(Builtin.clear_ #[t] o.type #[cx]).run P K.w= .ok (.tuple #[]) K.w:=by
         cases vx<;>simp[Builtin.clear_,run_underlying hu]
        refine⟨_,_,K,_,_,?_, .inl rfl, .refl K,fun n hn=> .inl hn, .undef K,hr,hsem⟩
        simp[execOp,hop,resolve,invoke,builtin,hcx,hrun]
        rfl
       exact hsem.elim
      simp at hl
     simp at hl
    simp at hl
   simp at hl
  simp at hl
 case h_9 t x c hop=>
  split at hl
  ·rename_i hsame
   have:=aGn hsame
   subst this
   split at hl
   ·rename_i e hu
    split at hl
    ·rename_i i hi
     split at hl
     ·rename_i z hz
      obtain⟨k,hk,hl⟩:=Option.bind_eq_some_iff.1 hl
      obtain⟨zv,hzv,hl⟩:=Option.bind_eq_some_iff.1 hl
      split at hl
      ·rename_i hc
       obtain⟨lx,hx,rfl⟩:=Option.map_eq_some_iff.1 hl
       have vx:=aF hx hs
       obtain⟨i',d,hi',hd,hsz,_⟩:=fN hk
       rw[hi] at hi'
       injection hi' with hi'
       subst hi'
       simp only[LOp.sem] at hsem
       split at hsem
       ·rename_i km m hex
        obtain⟨h0,hb,hR⟩:=hsem
        rw[hex] at vx
        generalize hcx:act.eval x=cx at vx
        cases vx
        rcases hR with hR|hR
        ·obtain⟨cv,K',q1,q2,q3,q4,q5⟩:=yD (P:=P) hr hfresh hu hi hz hsz hc.2 (eO hzv K) hc.1 km km h0 hb
         refine⟨_,cv,K',_,_,?_, .inl rfl,q2,q3,q4,q5,hR⟩
         simp[execOp,hop,hcx,q1]
        obtain⟨cv,K',q1,q2,q3,q4,q5⟩:=yC (P:=P) hr hfresh hu hi hz hsz hc.2 (eO hzv K) hc.1 km km h0 hb
        refine⟨_,cv,K',_,_,?_, .inl rfl,q2,q3,q4,q5,hR⟩
        simp[execOp,hop,hcx,q1]
       exact hsem.elim
      simp at hl
     simp at hl
    simp at hl
   simp at hl
  simp at hl
 case h_10=>
  split at hl
  ·rename_i m hm
   injection hl with hl
   subst hl
   exact aGB hm hs hr hfresh hsem
  obtain⟨lv,hlow,rfl⟩:=Option.map_eq_some_iff.1 hl
  have hsem':lv.sem sl h (fun v=>R v h):=hsem
  exact(oV hlow hs hr hsem').toM hr
def LOp.kind:LOp→Nat
 | .val _=>0
 | .call _ _=>1
 | .callv _ _=>2
 | .callw _ _ _=>4
 |_=>3
theorem kL{P:Program}{o:Oper}{l:LOp}(hl:iN P o=some l):
 (∃x,sM P o=some x∧l= .val x)∨(∃f args ts ls,o.op= .call {callee:= .value (.func f),args:=args,argTypes:=ts}∧eH P ts.toList args.toList=some ls∧l= .call f ls)∨
 (∃n args ts ls,o.op= .call {callee:= .value (.tmp n),args:=args,argTypes:=ts}∧eH P ts.toList args.toList=some ls∧l= .callv (.slot n) ls)∨l.kind=3:=by
 unfold iN at hl
 split at hl
 case h_1=>
  obtain⟨k,hk,hl⟩:=Option.bind_eq_some_iff.1 hl
  obtain⟨lx,hx,rfl⟩:=Option.map_eq_some_iff.1 hl
  exact .inr (.inr (.inr rfl))
 case h_2=>
  obtain⟨k,hk,hl⟩:=Option.bind_eq_some_iff.1 hl
  obtain⟨z,hz,hl⟩:=Option.bind_eq_some_iff.1 hl
  obtain⟨v,hv,rfl⟩:=Option.map_eq_some_iff.1 hl
  exact .inr (.inr (.inr rfl))
 case h_3=>
  split at hl
  ·split at hl
   ·split at hl
    ·obtain⟨k,hk,hl⟩:=Option.bind_eq_some_iff.1 hl
     split at hl
     ·obtain⟨ls,hls,rfl⟩:=Option.map_eq_some_iff.1 hl
      exact .inr (.inr (.inr rfl))
     simp at hl
    simp at hl
   simp at hl
  simp at hl
 case h_4=>
  obtain⟨k,hk,hl⟩:=Option.bind_eq_some_iff.1 hl
  obtain⟨lx,hx,hl⟩:=Option.bind_eq_some_iff.1 hl
  obtain⟨lv,hv,rfl⟩:=Option.map_eq_some_iff.1 hl
  exact .inr (.inr (.inr rfl))
 case h_5=>
  split at hl
  ·split at hl
   ·split at hl
    ·split at hl
     ·split at hl
      ·obtain⟨k,hk,hl⟩:=Option.bind_eq_some_iff.1 hl
       split at hl
       ·obtain⟨lx,hx,hl⟩:=Option.bind_eq_some_iff.1 hl
        obtain⟨ly,hy,rfl⟩:=Option.map_eq_some_iff.1 hl
        exact .inr (.inr (.inr rfl))
       simp at hl
      simp at hl
     simp at hl
    simp at hl
   split at hl
   ·split at hl
    ·split at hl
     ·obtain⟨k,hk,hl⟩:=Option.bind_eq_some_iff.1 hl
      obtain⟨zv,hzv,hl⟩:=Option.bind_eq_some_iff.1 hl
      split at hl
      ·obtain⟨lx,hx,hl⟩:=Option.bind_eq_some_iff.1 hl
       obtain⟨ly,hy,rfl⟩:=Option.map_eq_some_iff.1 hl
       exact .inr (.inr (.inr rfl))
      simp at hl
     simp at hl
    simp at hl
   simp at hl
  simp at hl
 case h_6 f args ts hop=>
  obtain⟨ls,hls,rfl⟩:=Option.map_eq_some_iff.1 hl
  exact .inr (.inl ⟨f,args,ts,ls,hop,hls,rfl⟩)
 case h_7 n args ts hop=>
  obtain⟨ls,hls,rfl⟩:=Option.map_eq_some_iff.1 hl
  exact .inr (.inr (.inl ⟨n,args,ts,ls,hop,hls,rfl⟩))
 case h_8=>
  split at hl
  ·split at hl
   ·split at hl
    ·split at hl
     ·obtain⟨k,hk,hl⟩:=Option.bind_eq_some_iff.1 hl
      obtain⟨zv,hzv,hl⟩:=Option.bind_eq_some_iff.1 hl
      split at hl
      ·obtain⟨lx,hx,rfl⟩:=Option.map_eq_some_iff.1 hl
       exact .inr (.inr (.inr rfl))
      simp at hl
     simp at hl
    simp at hl
   simp at hl
  simp at hl
 case h_9=>
  split at hl
  ·split at hl
   ·split at hl
    ·split at hl
     ·obtain⟨k,hk,hl⟩:=Option.bind_eq_some_iff.1 hl
      obtain⟨zv,hzv,hl⟩:=Option.bind_eq_some_iff.1 hl
      split at hl
      ·obtain⟨lx,hx,rfl⟩:=Option.map_eq_some_iff.1 hl
       exact .inr (.inr (.inr rfl))
      simp at hl
     simp at hl
    simp at hl
   simp at hl
  simp at hl
 case h_10=>
  split at hl
  ·injection hl with hl
   subst hl
   exact .inr (.inr (.inr rfl))
  obtain⟨lv,h,rfl⟩:=Option.map_eq_some_iff.1 hl
  exact .inl ⟨lv,h,rfl⟩
theorem lG{P:Program}{o:Oper}{act:Act}{K:Ker}{sl:List V}{h:Hp}{nx:Nat}{R:V→Hp→Nat→Prop}{l:LOp}(hl:iN P o=some l)(hs:∀t,VR K (sl.getD t V.undef) (act.tmps.getD t Go.undef))(hr:Rel K h)(hlv:∀n,K.live n→n<nx){f:FuncId}{args:List V}
 (hc:(∃la,l= .call f la∧args=la.map (aL.ev sl))∨∃x la first cap,l= .callv x la∧x.ev sl= .fn (.func f) first cap∧args=first++la.map (aL.ev sl)++cap) (hsem:aW P f args h nx R):qA P o act K nx R:=by
 rcases kL hl with⟨x,_,rfl⟩|⟨f',args',ts,ls,hop,hls,rfl⟩|⟨n,args',ts,ls,hop,hls,rfl⟩|hk
 ·rcases hc with⟨la,e,_⟩|⟨x,la,first,cap,e,_⟩<;>cases e
 ·rcases hc with⟨la,e,rfl⟩|⟨x,la,first,cap,e,_⟩
  ·injection e with e1 e2
   subst e1 e2
   have hv:=mD hs hls
   refine aW.toC ?_ hlv hr hv hsem
   have he:=kJ hsem.1 (args'.map act.eval) K.w
   simpa [execOp,hop,resolve,invoke,Deferred.ofValue,Act.eval] using he
  cases e
 ·rcases hc with⟨la,e,_⟩|⟨x,la,first,cap,e,he,rfl⟩
  ·cases e
  injection e with e1 e2
  subst e1 e2
  have hv:=mD hs hls
  have vx:=hs n
  simp only[aL.ev] at he
  rw[he] at vx
  generalize hcx:act.tmps.getD n Go.undef=cx at vx
  cases vx with
  |fn _ _ _ cf cc h1 h2 v1 v2=>
   have hv2:VRs K (first++ls.map (aL.ev sl)++cap) (cf++args'.map act.eval++cc):=((show VRs K first cf from⟨h1,v1⟩).append hv).append ⟨h2,v2⟩
   refine aW.toC ?_ hlv hr hv2 hsem
   have he:=kJ hsem.1 (cf++args'.map act.eval++cc) K.w
   have hev:act.eval (.tmp n)= .func (.func f) cf cc:=hcx
   simp only[execOp,hop,resolve,hev,Deferred.ofValue,Sem.run_bind,Sem.run_pure,Result.andThen_ok,invoke]
   exact he
 rcases hc with⟨la,rfl,_⟩|⟨x,la,first,cap,rfl,_⟩<;>cases hk
theorem aES{P:Program}{o:Oper}{act:Act}{K:Ker}{sl:List V}{h:Hp}{nx:Nat}{R:V→Hp→Nat→Prop}{x:aL}{la:List aL}(hl:iN P o=some (.callv x la))(hs:∀t,VR K (sl.getD t V.undef) (act.tmps.getD t Go.undef))(hr:Rel K h)(hlv:∀n,K.live n→n<nx){n:Nat}
 (hx:x.ev sl= .yld n) (hsem:fH P n (la.map (aL.ev sl)) h nx R):qA P o act K nx R:=by
 rcases kL hl with⟨y,_,e⟩|⟨f',args',ts,ls,hop,hls,e⟩|⟨t,args',ts,ls,hop,hls,e⟩|hk
 ·cases e
 ·cases e
 ·injection e with e1 e2
  subst e1 e2
  have hv:=mD hs hls
  have vx:=hs t
  simp only[aL.ev] at hx
  rw[hx] at vx
  generalize hcx:act.tmps.getD t Go.undef=cx at vx
  cases vx with
  |yld _ hn=>
   intro rd m next Q hnext
   obtain⟨fn,tmps,assign,body,q1,q2⟩:=hsem (m-1) K (args'.map act.eval) hlv hn hr hv
   have hev:act.eval (.tmp t)= .func (.yield (K.mu n)) #[] #[]:=hcx
   have hrun:(execOp act.eval o).run P K.w= .ok (.round (K.mu n) fn tmps assign body) K.w:=by
    simp only[execOp,hop,resolve,hev,Deferred.ofValue,Sem.run_bind,Sem.run_pure,Result.andThen_ok,invoke]
    simpa using q1
   refine⟨fun _ _=>trivial,?_⟩
   rw[pK hrun (by simp) rd]
   refine⟨(by intro h;cases h),?_⟩
   refine RoundIn.mono (show RoundIn (FR rd) (m-1) P (K.mu n) fn tmps assign body K.w _ from q2) ?_
   rintro e w' ⟨K',v,cv,h',nx',rfl,rfl,a,b,cc,d,e',g⟩
   exact hnext K' v cv h' nx' a b cc d e' g
 cases hk
theorem aGE{P:Program}{o:Oper}{act:Act}{K:Ker}{sl:List V}{h:Hp}{nx:Nat}{R:V→Hp→Nat→Prop}{l:LOp}(hl:iN P o=some l)(hs:∀t,VR K (sl.getD t V.undef) (act.tmps.getD t Go.undef))(hr:Rel K h)(hlv:∀n,K.live n→n<nx)
 (hsem:l.run P sl h nx R):qA P o act K nx R:=by
 have hfresh:¬K.live nx:=fun hn=>Nat.lt_irrefl _ (hlv nx hn)
 cases l with
 |call f args=>exact lG hl hs hr hlv (.inl ⟨args,rfl,rfl⟩) hsem
 |callv x args=>
  simp only[LOp.run] at hsem
  split at hsem
  ·rename_i f first cap he
   exact lG hl hs hr hlv (.inr ⟨x,args,first,cap,rfl,he,rfl⟩) hsem
  ·rename_i n he
   exact aES hl hs hr hlv he hsem
  exact hsem.elim
 |val x=>
  rcases kL hl with⟨y,hy,e⟩|⟨f',args',ts,ls,hop,hls,e⟩|⟨n,args',ts,ls,hop,hls,e⟩|hk
  ·injection e with e
   subst e
   have hsem':x.sem sl h (fun v=>R v h nx):=hsem
   exact(oV hy hs hr hsem').toC hlv hr
  ·cases e
  ·cases e
  cases hk
 |box k x=>exact eT.toC hlv (cI hl hs hr hfresh hsem)
 |bslice k es=>exact eT.toC hlv (cI hl hs hr hfresh hsem)
 |append k b x y=>exact eT.toC hlv (cI hl hs hr hfresh hsem)
 |store t x v=>exact eT.toC hlv (cI hl hs hr hfresh hsem)
 |mkz k b x z=>exact eT.toC hlv (cI hl hs hr hfresh hsem)
 |appz k b x y z=>exact eT.toC hlv (cI hl hs hr hfresh hsem)
 |clear k x z=>exact eT.toC hlv (cI hl hs hr hfresh hsem)
 |callw f args fl=>exact hsem.elim
 |mp m=>exact eT.toC hlv (cI hl hs hr hfresh hsem)
inductive cD where
 |normal|exit (id:Nat)|ret
 deriving Inhabited
inductive bE where
 |skip
 |ops (l:List aA)
 |draw (n:Nat) (hd:List (aA×List Nat)) (tl:List aA)
 |seq (a b:bE)
 |cond (c:aL) (a b:bE)
 |block (id:Nat) (c:bE)
 |loop (c:bE)
 |exit (id:Nat)
 |ret
 |range (g:aL) (ps:List Nat) (as body:bE)
 deriving Inhabited
def pH(B:Nat)(w:World)(ds:List Deferred):Prop:=
 ∃Ds:List Nat,Ds.Nodup∧ds=Ds.map (fun D=>{target:= .collected D,args:=#[]})∧∀D∈Ds,B≤D∧fZ w D
theorem fZ.lt{w:World}{D:Nat}(h:fZ w D):D<w.heap.size:=by
 rcases Nat.lt_or_ge D w.heap.size with hlt|hge
 ·exact hlt
 unfold fZ at h;rw[Array.getElem?_eq_none hge] at h;cases h
theorem fZ.kept{F:Nat→Prop}{w w':World}(k:nA F w w'){D:Nat}(h:fZ w D):fZ w' D:=(k.block D h.lt (.inr h)).trans h
theorem pH.nil(B:Nat)(w:World):pH B w []:=⟨[], .nil,rfl,fun _ h=>by cases h⟩
theorem pH.kept{F:Nat→Prop}{B:Nat}{w w':World}{ds:List Deferred}(h:pH B w ds)(k:nA F w w'):pH B w' ds:=by
 obtain⟨Ds,h1,h2,h3⟩:=h
 exact⟨Ds,h1,h2,fun D hD=>⟨(h3 D hD).1,(h3 D hD).2.kept k⟩⟩
structure kO(K0 K:Ker)(nx0:Nat)(s:St)(a:Act):Prop where
 le:K0.le K
 slots:gC K s.sl a
 rel:Rel K s.h
 live:∀n,K.live n→n<s.nx∧(K0.live n∨nx0≤n)
 nx:nx0≤s.nx
 defers:pH K0.w.heap.size K.w a.defers
def cD.up:cD→Exit
 | .normal=> .normal
 | .exit id=> .exit id
 | .ret=> .ret
def aFx(K0:Ker)(nx0:Nat)(Q:cD→St→Prop):Exit→Act→World→Prop:=
 fun e a w=>∃K s le,K.w=w∧kO K0 K nx0 s a∧e=cD.up le∧Q le s
theorem gC.put{K:Ker}{sl:List V}{a:Act}(hs:gC K sl a){v:V}{cv:Value}(hv:VR K v cv)(dst:Option Nat):gC K (bF sl dst v) (a.put dst cv):=by
 cases dst with
 |none=>exact hs
 |some d=>
  refine⟨by simp[bF,Act.put,hs.1],fun t=>?_⟩
  have h:=hs.2 t
  simp only[bF,Act.put,List.getD_eq_getElem?_getD,Array.getD_eq_getD_getElem?] at h⊢
  by_cases e:d=t
  ·subst e
   by_cases hd:d<sl.length
   ·rw[List.getElem?_set_self hd,Array.getElem?_setIfInBounds_self]
    have:d<a.tmps.size:=by rw[←hs.1];exact hd
    simp[this]
    exact hv
   rw[List.getElem?_eq_none (by simp;omega),Array.getElem?_eq_none (by simp;have:=hs.1;omega)]
   exact .undef K
  rw[List.getElem?_set_ne e,Array.getElem?_setIfInBounds_ne e]
  exact h
def vA(ops:Array Oper)(o:Oper):Option (Option (Nat×Bool)):=
 match o.guard with
 |none=>some none
 |some (j,want)=>match (ops[j]?).bind (·.dst) with
  |some t=>some (some (t,want))
  |none=>none
def pT(P:Program)(ops:Array Oper)(o:Oper):Option aA:=
 (vA ops o).bind fun g=>(iN P o).map fun l=>{dst:=o.dst,g:=g,op:=l}
def cS(P:Program)(ops:Array Oper):List Oper→Option (List aA)
 | []=>some []
 |o::r=>(pT P ops o).bind fun l=>(cS P ops r).map (l:: ·)
theorem rD{P:Program}{ops:Array Oper}{i:Nat}{o:Oper}(ho:ops[i]?=some o){lo:aA}(hl:pT P ops o=some lo){K0 K:Ker}{nx0:Nat}{s:St}{a:Act}(hr:kO K0 K nx0 s a){Kn:Act→World→Prop}{Q:Exit→Act→World→Prop}(Qn:St→Prop)
 (hK:∀K' s' a',kO K0 K' nx0 s' a'→Qn s'→Kn a' K'.w)
 (hsem:match lo.g with
   |none=>lo.op.run P s.sl s.h s.nx fun v h' nx'=>Qn ⟨bF s.sl lo.dst v,h',nx'⟩
   |some (t,want)=>match s.sl.getD t V.undef with
    | .bool b=>if b=want then lo.op.run P s.sl s.h s.nx fun v h' nx'=>Qn ⟨bF s.sl lo.dst v,h',nx'⟩ else Qn ⟨bF s.sl lo.dst V.undef,s.h,s.nx⟩
    | .tup _=>Qn ⟨bF s.sl lo.dst V.undef,s.h,s.nx⟩
    |_=>False) {rd:Option Nat} {m:Nat}:wpOpIn (FR rd) m P ops Q i Kn a K.w:=by
 obtain⟨g,hg,hl⟩:=Option.bind_eq_some_iff.1 hl
 obtain⟨l,hlo,rfl⟩:=Option.map_eq_some_iff.1 hl
 have go:l.run P s.sl s.h s.nx (fun v h' nx'=>Qn ⟨bF s.sl o.dst v,h',nx'⟩)→o.wpIn (FR rd) m P a K.w Kn Q:=by
  intro h
  refine aGE hlo hr.slots.2 hr.rel (fun n hn=>(hr.live n hn).1) h rd m Kn Q ?_
  intro K' v cv h' nx' hle hv hrel hlv hnx hR
  refine hK K' ⟨bF s.sl o.dst v,h',nx'⟩ (a.put o.dst cv) ⟨hr.le.trans hle,(hr.slots.mono hle).put hv _,hrel,?_,Nat.le_trans hr.nx hnx,?_⟩ hR
  ·intro n hn
   obtain⟨h1,h2⟩:=hlv n hn
   refine⟨h1,?_⟩
   rcases h2 with h2|h2
   ·exact(hr.live n h2).2
   exact .inr (Nat.le_trans hr.nx h2)
  have hp:(a.put o.dst cv).defers=a.defers:=by cases hd:o.dst<;>simp[Act.put]
  show pH _ _ (a.put o.dst cv).defers
  rw[hp];exact hr.defers.kept hle.below
 have skip:Qn ⟨bF s.sl o.dst V.undef,s.h,s.nx⟩→Kn (a.put o.dst Go.undef) K.w:=by
  intro h
  refine hK K ⟨bF s.sl o.dst V.undef,s.h,s.nx⟩ (a.put o.dst Go.undef) ⟨hr.le,hr.slots.put (.undef K) _,hr.rel,hr.live,hr.nx,?_⟩ h
  have hp:(a.put o.dst Go.undef).defers=a.defers:=by cases hd:o.dst<;>simp[Act.put]
  show pH _ _ (a.put o.dst Go.undef).defers
  rw[hp];exact hr.defers
 unfold wpOpIn
 simp only[ho]
 unfold vA at hg
 cases hgd:o.guard with
 |none=>
  rw[hgd] at hg
  injection hg with hg
  subst hg
  rw[if_pos (by simp[Region.wanted,hgd])]
  exact(go hsem)
 |some p=>
  obtain⟨j,want⟩:=p
  rw[hgd] at hg
  simp only at hg
  cases ht:(ops[j]?).bind (·.dst) with
  |none=>simp[ht] at hg
  |some t=>
   rw[ht] at hg
   injection hg with hg
   subst hg
   simp only at hsem
   have hvr:=hr.slots.2 t
   have hy:yielded ops a.tmps j=match a.tmps.getD t Go.undef with| .bool b=>some b|_=>none:=by
    unfold yielded
    rw[ht]
    simp only[Option.bind_some,Array.getD_eq_getD_getElem?]
    cases a.tmps[t]? with
    |none=>rfl
    |some x=>cases x<;>rfl
   by_cases hw:Region.wanted o (yielded ops a.tmps)=true
   ·rw[if_pos hw]
    simp only[Region.wanted,hgd,hy] at hw
    split at hsem
    ·rename_i b hb
     rw[hb] at hvr
     generalize a.tmps.getD t Go.undef=cv at hvr hw
     cases hvr
     simp at hw
     rw[if_pos hw] at hsem
     exact(go hsem)
    ·rename_i vs hb
     exfalso
     rw[hb] at hvr
     generalize a.tmps.getD t Go.undef=cv at hvr hw
     cases hvr
     simp at hw
    exact hsem.elim
   rw[if_neg hw]
   simp only[Region.wanted,hgd,hy] at hw
   split at hsem
   ·rename_i b hb
    rw[hb] at hvr
    generalize a.tmps.getD t Go.undef=cv at hvr hw
    cases hvr
    simp at hw
    rw[if_neg (by simpa using hw)] at hsem
    exact⟨fun _ _=>trivial,skip hsem⟩
   ·exact⟨fun _ _=>trivial,skip hsem⟩
   exact hsem.elim
theorem yN{P:Program}{ops:Array Oper}{K0:Ker}{nx0:Nat}{Q:Exit→Act→World→Prop}{Qs:St→Prop}(hQ:∀K s a,kO K0 K nx0 s a→Qs s→Q .normal a K.w){rd:Option Nat}{m:Nat}:
 ∀(l:List Oper) (ls:List aA) (is:List Nat),cS P ops l=some ls→is.map (ops[·]?)=l.map some→∀(K:Ker) (s:St) (a:Act),kO K0 K nx0 s a→aV P ls Qs s→wpOpsIn (FR rd) m P ops Q is a K.w
 | [],ls,is,hl,hi,K,s,a,hr,h=>by
  simp[cS] at hl
  subst hl
  have:is=[]:=by simpa using hi
  subst this
  exact hQ K s a hr h
 |o::l,ls,is,hl,hi,K,s,a,hr,h=>by
  unfold cS at hl
  obtain⟨lo,h1,hl⟩:=Option.bind_eq_some_iff.1 hl
  obtain⟨lr,h2,rfl⟩:=Option.map_eq_some_iff.1 hl
  cases is with
  |nil=>simp at hi
  |cons i is=>
   simp only[List.map_cons,List.cons.injEq] at hi
   rw[wpOpsIn_cons]
   refine rD hi.1 h1 hr (aV P lr Qs) (fun K' s' a' hr' hq=>yN hQ l lr is h2 hi.2 K' s' a' hr' hq) ?_
   unfold aV at h
   exact h
def Hp.has(h h':Hp):Prop:=∀n b,h n=some b→b.mem=true→h' n=some b
def aZ(P:Program)(f:FuncId)(args:List V)(h:Hp)(v:V):Prop:=
 ∀h' nx,h.has h'→aW P f args h' nx fun v' h'' nx'=>v'=v∧h''=h'∧nx'=nx
def pI(P:Program)(f:FuncId)(args:List V)(h:Hp)(k:Sh)(es:List V):Prop:=
 (∀L,bP L es)∧∀h' nx,h.has h'→aW P f args h' nx fun v' h'' nx'=>v'= .sl k (.tok nx) es∧h''=h'.set nx .tip∧nx'=nx+1
structure Con where
 n:Nat
 old:Blk
 new:Option Blk
def Hp.turn(h:Hp):Option Con→Hp
 |none=>h
 |some c=>match c.new with
  |some b=>h.set c.n b
  |none=>h.del c.n
def aIX(v:Nat→V):Prop:=∀(K:Ker) (a a':Nat) (cv:Value) (L:Nat→Prop),¬K.live a'→L a'→VR K (v a) cv→VR ((K.claim a' (K.mu a) (K.imm (K.mu a))).only L) (v a') cv
def aHp(P:Program)(f:FuncId)(args:List V)(h:Hp)(c:Option Con)(v:Nat→V)(k:Sh)(es:List V):Prop:=
 aIX v∧(∀L,bP L es)∧(∀c',c=some c'→c'.new=none∧(∃k es,c'.old= .arr k es)∧h c'.n=some c'.old)∧
  ∀h' nx,h.has h'→aW P f args h' nx fun v' h'' nx'=>v'=v nx∧h''=(h'.turn c).set nx (.arr k es)∧nx'=nx+1
structure eY where
 v:V
 add:Option Blk
 con:Option Con
def nZ:Hp→Nat→List (Option Blk)→Hp
 |h,_,[]=>h
 |h,a,none::r=>nZ h (a+1) r
 |h,a,some b::r=>nZ (h.set a b) (a+1) r
def iQ:Hp→List (Option Con)→Hp
 |h,[]=>h
 |h,none::r=>iQ h r
 |h,some c::r=>iQ (h.del c.n) r
def xD:Hp→List (Option Con)→Hp
 |h,[]=>h
 |h,c::r=>xD (h.turn c) r
def cZ(n:Nat):List (Option Con)→Prop
 | []=>True
 |none::r=>cZ n r
 |some c::r=>n≠c.n∧cZ n r
theorem lO{n:Nat}:∀{cons:List (Option Con)},cZ n cons↔∀c,some c∈cons→n≠c.n
 | []=>by simp[cZ]
 |none::r=>by simp[cZ,lO (cons:=r)]
 |some c::r=>by
  simp only[cZ,lO (cons:=r),List.mem_cons,Option.some.injEq]
  exact⟨fun h c' hc=>hc.elim (fun e=>by rw[e];exact h.1) (h.2 c'),fun h=>⟨h c (.inl rfl),fun c' hc=>h c' (.inr hc)⟩⟩
theorem rK:∀{cons:List (Option Con)} {h:Hp} {m:Nat} {b:Blk},iQ h cons m=some b→cZ m cons∧h m=some b
 | [],h,m,b,e=>⟨trivial,e⟩
 |none::r,h,m,b,e=>rK (cons:=r) e
 |some c::r,h,m,b,e=>by
  obtain⟨h1,h2⟩:=rK (cons:=r) e
  unfold Hp.del at h2
  split at h2
  ·cases h2
  rename_i hne
  exact⟨⟨hne,h1⟩,h2⟩
def LOp.dsem(P:Program)(sl:List V)(h0:Hp)(a:Nat)(R:eY→Prop):LOp→Prop
 | .val x=>x.sem sl h0 fun v=>R ⟨v,none,none⟩
 | .box k x=>(x.ev sl).fits k=true∧R ⟨.ptr a k 0 0,some (.arr k [x.ev sl]),none⟩
 | .bslice k es=>(∀e∈es,(e.ev sl).fits k=true)∧(R ⟨.sl k (.tok a) (es.map (aL.ev sl)),some .tip,none⟩∨R ⟨.rs a k 0 es.length,some (.arr k (es.map (aL.ev sl))),none⟩)
 | .append k bytes x y=>match x.ev sl,y.ev sl with
  | .sl kx own xs, .sl ky _ ys=>kx=k∧ky=k∧(xs.length+ys.length)*bytes≤140737488355328∧(match own with
   | .nil=>R ⟨.sl k (fF a .nil ys) (xs++ys),if ys.isEmpty then none else some .tip,none⟩
   | .full=>R ⟨.sl k (fF a .full ys) (xs++ys),if ys.isEmpty then none else some .tip,none⟩
   | .tok n=>R ⟨.sl k (.tok a) (xs++ys),some .tip,some ⟨n, .tip,none⟩⟩
   | .free=>False)
  |_,_=>False
 | .store t x v=>match x.ev sl with
  | .ptr n k i o=>∃es,i<es.length∧cJ k t o∧(v.ev sl).fits t=true∧R ⟨V.undef,none,some ⟨n, .arr k es,some (.arr k (es.set i (bR t o (es.getD i V.undef) (v.ev sl))))⟩⟩
  |_=>False
 | .call f args=>(∃v,aZ P f (args.map (aL.ev sl)) h0 v∧R ⟨v,none,none⟩)∨(∃k es,pI P f (args.map (aL.ev sl)) h0 k es∧R ⟨.sl k (.tok a) es,some .tip,none⟩)∨
  ∃v k es,aHp P f (args.map (aL.ev sl)) h0 none v k es∧R ⟨v a,some (.arr k es),none⟩
 | .callv x args=>match x.ev sl with
  | .fn (.func f) first cap=>(∃v,aZ P f (first++args.map (aL.ev sl)++cap) h0 v∧R ⟨v,none,none⟩)∨∃k es,pI P f (first++args.map (aL.ev sl)++cap) h0 k es∧R ⟨.sl k (.tok a) es,some .tip,none⟩
  |_=>False
 | .mkz k bytes x z=>match x.ev sl with
  | .int _ m=>0≤m∧m.toNat*bytes≤140737488355328∧(R ⟨.rs a k 0 m.toNat,some (.arr k (List.replicate m.toNat z)),none⟩∨R ⟨.sl k (.tok a) (List.replicate m.toNat z),some .tip,none⟩)
  |_=>False
 | .appz k bytes x y z=>match x.ev sl,y.ev sl with
  | .sl k' .nil [], .int _ m=>k'=k∧0<m∧m.toNat*bytes≤140737488355328∧R ⟨.rs a k 0 m.toNat,some (.arr k (List.replicate m.toNat z)),none⟩
  |_,_=>False
 | .clear _ _ _=>False
 | .mp .mk=>R ⟨.map a,some (.mp [] 0),none⟩
 | .mp _=>False
 | .callw f args fl=>(∃v,aZ P f (args.map (aL.ev sl)) h0 v∧R ⟨v,none,none⟩)∨(∃k es,pI P f (args.map (aL.ev sl)) h0 k es∧R ⟨.sl k (.tok a) es,some .tip,none⟩)∨
  ∃c v k es,aHp P f (args.map (aL.ev sl)) h0 c v k es∧(∀c',c=some c'→∀x∈fl,∀m k i o,x.ev sl= .ptr m k i o→m≠c'.n)∧R ⟨v a,some (.arr k es),c⟩
def mU(h0:Hp)(nx0:Nat)(deps:List Nat)(adds:List (Option Blk))(cons:List (Option Con))(n:Nat)(b:Blk):Prop:=
 cZ n cons∧((n<nx0∧h0 n=some b)∨∃d∈deps,n=nx0+d∧adds.getD d none=some b)
def eZ(P:Program)(h0:Hp)(a:Nat)(o:aA)(sl:List V)(R:eY→Prop):Prop:=
 match o.g with
 |none=>o.op.dsem P sl h0 a R
 |some (t,want)=>match sl.getD t V.undef with
  | .bool b=>if b=want then o.op.dsem P sl h0 a R else R ⟨V.undef,none,none⟩
  | .tup _=>R ⟨V.undef,none,none⟩
  |_=>False
def dA(P:Program)(h0:Hp)(nx0:Nat):List (aA×List Nat)→List V→List (Option Blk)→List (Option Con)→(List V→List (Option Blk)→List (Option Con)→Prop)→Prop
 | [],sl,adds,cons,Q=>Q sl adds cons
 |(o,deps)::r,sl,adds,cons,Q=>
  eZ P (iQ h0 cons) (nx0+adds.length) o sl fun d=>(∀c,d.con=some c→mU h0 nx0 deps adds cons c.n c.old)∧dA P h0 nx0 r (bF sl o.dst d.v) (adds++[d.add]) (cons++[d.con]) Q
theorem bD.sem_det{sl:List V}{h:Hp}{R:V→Prop}{l:bD}(hs:l.sem sl h R):∃v,l.sem sl h (·=v)∧R v:=by
 cases l<;>simp only[bD.sem] at hs⊢
 case bin op x y=>
  revert hs
  split
  ·rintro⟨a,b⟩
   subst a
   cases op<;>simp only[aGP] at b⊢<;>first|exact⟨_,⟨trivial,rfl⟩,b⟩|exact⟨_,⟨trivial,b.1,rfl⟩,b.2⟩|exact b.elim
  ·intro b
   cases op<;>simp only[aHL] at b⊢<;>first|exact⟨_,rfl,b⟩|exact⟨_,⟨b.1,rfl⟩,b.2⟩|exact b.elim
  exact False.elim
 case load t x=>
  revert hs
  split
  ·split
   ·rintro⟨a,b,c,d⟩;exact⟨_,⟨a,b,c,rfl⟩,d⟩
   exact False.elim
  ·rintro⟨b,c,d⟩;exact⟨_,⟨b,c,rfl⟩,d⟩
  exact False.elim
 case build z parts=>exact⟨_,⟨hs.1,rfl⟩,hs.2⟩
 case slc k x lo hi mx=>
  revert hs
  split
  ·split
   ·rintro⟨a,b,c,d,e,f,g⟩;exact⟨_,⟨a,b,c,d,e,f,rfl⟩,g⟩
   exact False.elim
  ·split
   ·rintro⟨a,b,c,d,e⟩;exact⟨_,⟨a,b,c,d,rfl⟩,e⟩
   ·rintro⟨a,b,c,d,f,e⟩;exact⟨_,⟨a,b,c,d,f,rfl⟩,e⟩
   exact False.elim
  exact False.elim
 case slcs x lo hi=>
  revert hs
  split
  ·split
   ·rintro⟨a,b,c,e⟩;exact⟨_,⟨a,b,c,rfl⟩,e⟩
   exact False.elim
  exact False.elim
 case mget kS ks z ok x i=>
  obtain⟨hf,hs⟩:=hs
  revert hs
  split
  ·exact fun h=>⟨_,⟨hf,rfl⟩,h⟩
  ·split
   ·split
    ·exact fun h=>⟨_,⟨hf,rfl⟩,h⟩
    exact False.elim
   exact False.elim
  exact False.elim
 case mlen x=>
  revert hs
  split
  ·exact fun h=>⟨_,rfl,h⟩
  ·split
   ·exact fun h=>⟨_,rfl,h⟩
   exact False.elim
  exact False.elim
 all_goals
  first
   |exact⟨_,rfl,hs⟩
   |(revert hs;split<;>first|exact False.elim|exact fun h=>⟨_,rfl,h⟩|(rintro⟨a,b⟩;exact⟨_,⟨a,rfl⟩,b⟩)|(rintro⟨a,c,b⟩;exact⟨_,⟨a,c,rfl⟩,b⟩)|(rintro⟨a,c,d,b⟩;exact⟨_,⟨a,c,d,rfl⟩,b⟩))
theorem LOp.dsem_det{P:Program}{sl:List V}{h:Hp}{a:Nat}{R:eY→Prop}{l:LOp}(hs:l.dsem P sl h a R):∃d,l.dsem P sl h a (·=d)∧R d:=by
 cases l<;>simp only[LOp.dsem] at hs⊢
 case val x=>
  obtain⟨v,h1,h2⟩:=bD.sem_det hs
  exact⟨_,bD.sem_mono (fun _ _ h _=>h) (fun v' hv=>by rw[hv]) h1,h2⟩
 case mp m=>
  cases m<;>first|exact⟨_,rfl,hs⟩|exact hs.elim
 case box k x=>exact⟨_,⟨hs.1,rfl⟩,hs.2⟩
 case bslice k es=>
  rcases hs with⟨h1,h2|h2⟩
  ·exact⟨_,⟨h1, .inl rfl⟩,h2⟩
  exact⟨_,⟨h1, .inr rfl⟩,h2⟩
 case append k bytes x y=>
  revert hs
  split
  ·rename_i kx own xs ky own' ys _ _
   rintro⟨a,b,c,d⟩
   cases own<;>simp only at d⊢<;>first|exact⟨_,⟨a,b,c,rfl⟩,d⟩|exact d.elim
  exact False.elim
 case store t x v=>
  revert hs
  split
  ·rintro⟨es,a,b,c,d⟩;exact⟨_,⟨es,a,b,c,rfl⟩,d⟩
  exact False.elim
 case call f args=>
  rcases hs with⟨v,h1,h2⟩|⟨k,es,h1,h2⟩|⟨v,k,es,h1,h2⟩
  ·exact⟨_, .inl ⟨v,h1,rfl⟩,h2⟩
  ·exact⟨_, .inr (.inl ⟨k,es,h1,rfl⟩),h2⟩
  exact⟨_, .inr (.inr ⟨v,k,es,h1,rfl⟩),h2⟩
 case callv x args=>
  revert hs
  split
  ·rintro(⟨v,h1,h2⟩|⟨k,es,h1,h2⟩)
   ·exact⟨_, .inl ⟨v,h1,rfl⟩,h2⟩
   exact⟨_, .inr ⟨k,es,h1,rfl⟩,h2⟩
  exact False.elim
 case mkz k bytes x z=>
  revert hs
  split
  ·rintro⟨a,b,c|c⟩
   ·exact⟨_,⟨a,b, .inl rfl⟩,c⟩
   exact⟨_,⟨a,b, .inr rfl⟩,c⟩
  exact False.elim
 case appz k bytes x y z=>
  revert hs
  split
  ·rintro⟨a,b,c,d⟩;exact⟨_,⟨a,b,c,rfl⟩,d⟩
  exact False.elim
 case callw f args fl=>
  rcases hs with⟨v,h1,h2⟩|⟨k,es,h1,h2⟩|⟨c,v,k,es,h1,h3,h2⟩
  ·exact⟨_, .inl ⟨v,h1,rfl⟩,h2⟩
  ·exact⟨_, .inr (.inl ⟨k,es,h1,rfl⟩),h2⟩
  exact⟨_, .inr (.inr ⟨c,v,k,es,h1,h3,rfl⟩),h2⟩
theorem LOp.dsem_of{P:Program}{sl:List V}{h0:Hp}{a:Nat}{R:eY→Prop}{d:eY}{op:LOp}(hx:op.dsem P sl h0 a (·=d))(hR:R d):op.dsem P sl h0 a R:=by
 cases op with
 |val x=>exact bD.sem_mono (R:=fun v=>(⟨v,none,none⟩:eY)=d) (R':=fun v=>R ⟨v,none,none⟩) (fun _ _ e _=>e) (fun v hv=>by rw[hv];exact hR) hx
 |mp m=>cases m<;>first|exact hx.elim|(have e:_=d:=hx;show R _;rw[e];exact hR)
 |box k x=>exact⟨hx.1,by rw[hx.2];exact hR⟩
 |bslice k es=>exact⟨hx.1,hx.2.imp (fun e=>by rw[e];exact hR) (fun e=>by rw[e];exact hR)⟩
 |append k b x y=>
  simp only[LOp.dsem] at hx⊢
  revert hx
  split
  ·rename_i kx own xs ky own' ys _ _
   rintro⟨a,b,c,e⟩
   refine⟨a,b,c,?_⟩
   cases own<;>simp only at e⊢<;>first|(rw[e];exact hR)|exact e
  exact id
 |store t x v=>
  simp only[LOp.dsem] at hx⊢
  revert hx
  split
  ·rintro⟨es,a,b,c,e⟩;exact⟨es,a,b,c,by rw[e];exact hR⟩
  exact id
 |mkz k b x z=>
  simp only[LOp.dsem] at hx⊢
  revert hx
  split
  ·rintro⟨a,b,e⟩;exact⟨a,b,e.imp (fun e=>by rw[e];exact hR) (fun e=>by rw[e];exact hR)⟩
  exact id
 |appz k b x y z=>
  simp only[LOp.dsem] at hx⊢
  revert hx
  split
  ·rintro⟨a,b,c,e⟩;exact⟨a,b,c,by rw[e];exact hR⟩
  exact id
 |clear k x z=>exact hx.elim
 |call f args=>
  rcases hx with⟨v,q1,q2⟩|⟨k,es,q1,q2⟩|⟨v,k,es,q1,q2⟩
  ·exact .inl ⟨v,q1,by rw[q2];exact hR⟩
  ·exact .inr (.inl ⟨k,es,q1,by rw[q2];exact hR⟩)
  exact .inr (.inr ⟨v,k,es,q1,by rw[q2];exact hR⟩)
 |callw f args fl=>
  rcases hx with⟨v,q1,q2⟩|⟨k,es,q1,q2⟩|⟨c,v,k,es,q1,q3,q2⟩
  ·exact .inl ⟨v,q1,by rw[q2];exact hR⟩
  ·exact .inr (.inl ⟨k,es,q1,by rw[q2];exact hR⟩)
  exact .inr (.inr ⟨c,v,k,es,q1,q3,by rw[q2];exact hR⟩)
 |callv x args=>
  simp only[LOp.dsem] at hx⊢
  revert hx
  split
  ·rintro(⟨v,q1,q2⟩|⟨k,es,q1,q2⟩)
   ·exact .inl ⟨v,q1,by rw[q2];exact hR⟩
   exact .inr ⟨k,es,q1,by rw[q2];exact hR⟩
  exact id
theorem aBs{P:Program}{h0:Hp}{a:Nat}{o:aA}{sl:List V}{R:eY→Prop}(hs:eZ P h0 a o sl R):∃d,eZ P h0 a o sl (·=d)∧R d:=by
 unfold eZ at hs⊢
 split at hs
 ·exact LOp.dsem_det hs
 split at hs
 ·split at hs
  ·rename_i hb
   obtain⟨d,h1,h2⟩:=LOp.dsem_det hs
   exact⟨d,by simpa only[hb,if_true] using h1,h2⟩
  rename_i hb;exact⟨_,by simp only[if_neg hb],hs⟩
 ·exact⟨_,rfl,hs⟩
 exact hs.elim
theorem aCj{P:Program}{h0:Hp}{a:Nat}{o:aA}{sl:List V}{R:eY→Prop}{d:eY}(h1:eZ P h0 a o sl (·=d))(hR:R d):eZ P h0 a o sl R:=by
 unfold eZ at h1⊢
 revert h1
 split
 ·exact fun h=>LOp.dsem_of h hR
 split
 ·split
  ·exact fun h=>LOp.dsem_of h hR
  intro e;rw[e];exact hR
 ·intro e;rw[e];exact hR
 exact id
structure aEh(P:Program)(h0:Hp)(nx0:Nat)(l:List (aA×List Nat))(sl0:List V)(res:List eY):Prop where
 len:res.length=l.length
 ok:∀i o deps d,l[i]?=some (o,deps)→res[i]?=some d→eZ P (iQ h0 ((res.take i).map (·.con))) (nx0+i) o (((l.zip res).take i).foldl (fun sl p=>bF sl p.1.1.dst p.2.v) sl0) (·=d)
 tok:∀i o deps d c,l[i]?=some (o,deps)→res[i]?=some d→d.con=some c→mU h0 nx0 deps ((res.take i).map (·.add)) ((res.take i).map (·.con)) c.n c.old
theorem zK{P:Program}{h0:Hp}{nx0:Nat}{Q:List V→List (Option Blk)→List (Option Con)→Prop}:∀(l r:List (aA×List Nat)) (sl0:List V) (res:List eY),
 aEh P h0 nx0 l sl0 res→dA P h0 nx0 r ((l.zip res).foldl (fun sl p=>bF sl p.1.1.dst p.2.v) sl0) (res.map (·.add)) (res.map (·.con)) Q→
 ∃res',aEh P h0 nx0 (l++r) sl0 res'∧Q (((l++r).zip res').foldl (fun sl p=>bF sl p.1.1.dst p.2.v) sl0) (res'.map (·.add)) (res'.map (·.con))
 |l,[],sl0,res,ht,h=>⟨res,by simpa using ht,by simpa [dA] using h⟩
 |l,(o,deps)::r,sl0,res,ht,h=>by
  unfold dA at h
  obtain⟨d,h1,h2,h3⟩:=aBs h
  have hz:((l++[(o,deps)]).zip (res++[d]))=l.zip res++[((o,deps),d)]:=by rw[List.zip_append ht.len.symm];rfl
  have hzl:(l.zip res).length=l.length:=by simp[ht.len]
  have ht':aEh P h0 nx0 (l++[(o,deps)]) sl0 (res++[d]):=by
   refine⟨by simp[ht.len],?_,?_⟩
   ·intro i o' deps' d' hi hd
    by_cases e:i<l.length
    ·rw[List.getElem?_append_left e] at hi
     rw[List.getElem?_append_left (by rw[ht.len];exact e)] at hd
     have:=ht.ok i o' deps' d' hi hd
     have e1:(res++[d]).take i=res.take i:=List.take_append_of_le_length (by rw[ht.len];omega)
     have e2:(l.zip res++[((o,deps),d)]).take i=(l.zip res).take i:=List.take_append_of_le_length (by rw[hzl];omega)
     rw[hz,e1,e2]
     exact this
    have hi':i=l.length:=by
     have:=(List.getElem?_eq_some_iff.1 hi).1
     simp at this
     omega
    subst hi'
    simp at hi
    rw[←ht.len] at hd
    simp at hd
    obtain⟨rfl,rfl⟩:=hi
    subst hd
    have e1:(res++[d]).take l.length=res:=by rw[←ht.len,List.take_append_of_le_length (Nat.le_refl _),List.take_length]
    have e2:(l.zip res++[((o,deps),d)]).take l.length=l.zip res:=by rw[List.take_append_of_le_length (by omega),List.take_of_length_le (by omega)]
    rw[hz,e1,e2]
    simpa [ht.len] using h1
   intro i o' deps' d' n hi hd hn
   by_cases e:i<l.length
   ·rw[List.getElem?_append_left e] at hi
    rw[List.getElem?_append_left (by rw[ht.len];exact e)] at hd
    have:=ht.tok i o' deps' d' n hi hd hn
    rw[List.take_append_of_le_length (by rw[ht.len];omega)]
    exact this
   have hi':i=l.length:=by
    have:=(List.getElem?_eq_some_iff.1 hi).1
    simp at this
    omega
   subst hi'
   simp at hi
   rw[←ht.len] at hd⊢
   simp at hd
   obtain⟨rfl,rfl⟩:=hi
   subst hd
   rw[List.take_append_of_le_length (Nat.le_refl _),List.take_length]
   exact h2 n hn
  obtain⟨res',q1,q2⟩:=zK (l++[(o,deps)]) r sl0 (res++[d]) ht' (by rw[hz,List.foldl_append];simpa using h3)
  refine⟨res',by simpa using q1,by simpa using q2⟩
def aL.slots:aL→List Nat
 | .slot t=>[t]
 | .const _=>[]
def rC:Option aL→List Nat
 |none=>[]
 |some l=>l.slots
def bD.slots:bD→List Nat
 | .move x=>x.slots
 | .pick c a b=>c.slots++(a.slots++b.slots)
 | .load _ x=>x.slots
 | .nilCheck x=>x.slots
 | .bin _ x y=>x.slots++y.slots
 | .eq _ _ x y=>x.slots++y.slots
 | .not x=>x.slots
 | .neg x=>x.slots
 | .conv _ x=>x.slots
 | .mkif _ x=>x.slots
 | .mkfn _ a b=>a.flatMap aL.slots++b.flatMap aL.slots
 | .fldA _ x=>x.slots
 | .fld _ _ x=>x.slots
 | .idxA _ x i=>x.slots++i.slots
 | .idxP _ _ x i=>x.slots++i.slots
 | .len x=>x.slots
 | .slen x=>x.slots
 | .ext x _=>x.slots
 | .build _ ps=>ps.flatMap fun p=>p.2.2.slots
 | .slc _ x lo hi mx=>x.slots++(rC lo++(rC hi++rC mx))
 | .slcs x lo hi=>x.slots++(rC lo++rC hi)
 | .never=>[]
 | .capv x=>x.slots
 | .mnx _ x y=>x.slots++y.slots
 | .sidx x y=>x.slots++y.slots
 | .asrt _ _ x=>x.slots
 | .asrq _ x=>x.slots
 | .mget _ _ _ _ x i=>x.slots++i.slots
 | .mlen x=>x.slots
def MOp.slots:MOp→List Nat
 | .mk=>[]
 | .put _ _ x k v=>x.slots++(k.slots++v.slots)
 | .ent _ _ _ x k=>x.slots++k.slots
 | .est x s v=>x.slots++(s.slots++v.slots)
 | .del _ _ x k=>x.slots++k.slots
 | .rng x=>x.slots
 | .nxt x=>x.slots
 | .key x=>x.slots
def LOp.slots:LOp→List Nat
 | .val x=>x.slots
 | .box _ x=>x.slots
 | .bslice _ es=>es.flatMap aL.slots
 | .append _ _ x y=>x.slots++y.slots
 | .store _ x v=>x.slots++v.slots
 | .call _ args=>args.flatMap aL.slots
 | .callv x args=>x.slots++args.flatMap aL.slots
 | .mkz _ _ x _=>x.slots
 | .appz _ _ x y _=>x.slots++y.slots
 | .clear _ x _=>x.slots
 | .callw _ args fl=>args.flatMap aL.slots++fl.flatMap aL.slots
 | .mp m=>m.slots
def aA.slots(o:aA):List Nat:=
 (match o.g with
  |some (t,_)=>[t]
  |none=>[])++o.op.slots
def gD(sl sl':List V)(ts:List Nat):Prop:=∀t∈ts,sl.getD t V.undef=sl'.getD t V.undef
theorem gD.left{sl sl':List V}{a b:List Nat}(h:gD sl sl' (a++b)):gD sl sl' a:=fun t ht=>h t (List.mem_append.2 (.inl ht))
theorem gD.right{sl sl':List V}{a b:List Nat}(h:gD sl sl' (a++b)):gD sl sl' b:=fun t ht=>h t (List.mem_append.2 (.inr ht))
theorem aL.ev_congr{sl sl':List V}{x:aL}(h:gD sl sl' x.slots):x.ev sl=x.ev sl':=by
 cases x with
 |slot t=>exact h t (by simp[aL.slots])
 |const v=>rfl
theorem kR{sl sl':List V}{xs:List aL}(h:gD sl sl' (xs.flatMap aL.slots)):xs.map (aL.ev sl)=xs.map (aL.ev sl'):=
 List.map_congr_left fun x hx=>aL.ev_congr fun t ht=>h t (List.mem_flatMap.2 ⟨x,hx,ht⟩)
theorem lL{sl sl':List V}{d:Int}{o:Option aL}(h:gD sl sl' (rC o)):dT sl d o=dT sl' d o:=by
 cases o with
 |none=>rfl
 |some l=>simp only[dT,aL.ev_congr (x:=l) h]
theorem vY{sl sl':List V}{o:Option aL}(h:gD sl sl' (rC o)):eP sl o=eP sl' o:=by
 cases o with
 |none=>rfl
 |some l=>simp only[eP,aL.ev_congr (x:=l) h]
theorem bD.sem_congr{sl sl':List V}{h:Hp}{R:V→Prop}{l:bD}(ha:gD sl sl' l.slots):l.sem sl h R↔l.sem sl' h R:=by
 cases l with
 |move x=>simp only[bD.sem,aL.ev_congr (x:=x) ha]
 |pick c a b=>simp only[bD.sem,aL.ev_congr (x:=c) ha.left,aL.ev_congr (x:=a) (gD.left ha.right),aL.ev_congr (x:=b) (gD.right ha.right)]
 |load t x=>simp only[bD.sem,aL.ev_congr (x:=x) ha]
 |nilCheck x=>simp only[bD.sem,aL.ev_congr (x:=x) ha]
 |bin op x y=>simp only[bD.sem,aL.ev_congr (x:=x) ha.left,aL.ev_congr (x:=y) ha.right]
 |eq n t x y=>simp only[bD.sem,aL.ev_congr (x:=x) ha.left,aL.ev_congr (x:=y) ha.right]
 |not x=>simp only[bD.sem,aL.ev_congr (x:=x) ha]
 |neg x=>simp only[bD.sem,aL.ev_congr (x:=x) ha]
 |conv k x=>simp only[bD.sem,aL.ev_congr (x:=x) ha]
 |mkif t x=>simp only[bD.sem,aL.ev_congr (x:=x) ha]
 |mkfn f a b=>simp only[bD.sem,kR (xs:=a) ha.left,kR (xs:=b) ha.right]
 |fldA o x=>simp only[bD.sem,aL.ev_congr (x:=x) ha]
 |fld t o x=>simp only[bD.sem,aL.ev_congr (x:=x) ha]
 |idxA k x i=>simp only[bD.sem,aL.ev_congr (x:=x) ha.left,aL.ev_congr (x:=i) ha.right]
 |idxP n k x i=>simp only[bD.sem,aL.ev_congr (x:=x) ha.left,aL.ev_congr (x:=i) ha.right]
 |len x=>simp only[bD.sem,aL.ev_congr (x:=x) ha]
 |slen x=>simp only[bD.sem,aL.ev_congr (x:=x) ha]
 |ext x i=>simp only[bD.sem,aL.ev_congr (x:=x) ha]
 |slc k x lo hi mx=>
  have h1:=gD.left ha.right
  have h2:=gD.left (gD.right ha.right)
  have h3:=gD.right (gD.right ha.right)
  simp only[bD.sem,aL.ev_congr (x:=x) ha.left,lL h1,lL h2,lL h3,vY h2,vY h3]
 |slcs x lo hi=>
  simp only[bD.sem,aL.ev_congr (x:=x) ha.left,lL (gD.left ha.right),lL (gD.right ha.right)]
 |never=>exact Iff.rfl
 |capv x=>simp only[bD.sem,aL.ev_congr (x:=x) ha]
 |sidx x y=>simp only[bD.sem,aL.ev_congr (x:=x) ha.left,aL.ev_congr (x:=y) ha.right]
 |mnx b x y=>simp only[bD.sem,aL.ev_congr (x:=x) ha.left,aL.ev_congr (x:=y) ha.right]
 |asrt t z x=>simp only[bD.sem,aL.ev_congr (x:=x) ha]
 |asrq t x=>simp only[bD.sem,aL.ev_congr (x:=x) ha]
 |mget kS ks z ok x i=>simp only[bD.sem,aL.ev_congr (x:=x) ha.left,aL.ev_congr (x:=i) ha.right]
 |mlen x=>simp only[bD.sem,aL.ev_congr (x:=x) ha]
 |build z ps=>
  have e:∀p∈ps,p.2.2.ev sl=p.2.2.ev sl':=fun p hp=>aL.ev_congr fun t ht=>ha t (List.mem_flatMap.2 ⟨p,hp,ht⟩)
  have e1:(ps.map fun p=>(p.1,(p.2.2.ev sl).cells))=ps.map fun p=>(p.1,(p.2.2.ev sl').cells):=List.map_congr_left fun p hp=>by rw[e p hp]
  have e2:(∀p∈ps,(p.2.2.ev sl).fits p.2.1=true∧p.1+p.2.1.size≤z.length)↔∀p∈ps,(p.2.2.ev sl').fits p.2.1=true∧p.1+p.2.1.size≤z.length:=
   ⟨fun h p hp=>by rw[←e p hp];exact h p hp,fun h p hp=>by rw[e p hp];exact h p hp⟩
  simp only[bD.sem,e1,e2]
theorem LOp.dsem_congr{P:Program}{sl sl':List V}{h:Hp}{a:Nat}{R:eY→Prop}{l:LOp}(ha:gD sl sl' l.slots):l.dsem P sl h a R↔l.dsem P sl' h a R:=by
 cases l with
 |val x=>exact bD.sem_congr (R:=fun v=>R ⟨v,none,none⟩) ha
 |box k x=>simp only[LOp.dsem,aL.ev_congr (x:=x) ha]
 |bslice k es=>
  have e:∀p∈es,p.ev sl=p.ev sl':=fun p hp=>aL.ev_congr fun t ht=>ha t (List.mem_flatMap.2 ⟨p,hp,ht⟩)
  have e2:(∀p∈es,(p.ev sl).fits k=true)↔∀p∈es,(p.ev sl').fits k=true:=
   ⟨fun h p hp=>by rw[←e p hp];exact h p hp,fun h p hp=>by rw[e p hp];exact h p hp⟩
  simp only[LOp.dsem,kR (xs:=es) ha,e2]
 |append k b x y=>simp only[LOp.dsem,aL.ev_congr (x:=x) ha.left,aL.ev_congr (x:=y) ha.right]
 |store t x v=>simp only[LOp.dsem,aL.ev_congr (x:=x) ha.left,aL.ev_congr (x:=v) ha.right]
 |mkz k b x z=>simp only[LOp.dsem,aL.ev_congr (x:=x) ha]
 |appz k b x y z=>simp only[LOp.dsem,aL.ev_congr (x:=x) ha.left,aL.ev_congr (x:=y) ha.right]
 |clear k x z=>exact Iff.rfl
 |mp m=>cases m<;>exact Iff.rfl
 |callw f args fl=>
  have e:∀p∈fl,p.ev sl=p.ev sl':=fun p hp=>aL.ev_congr fun t ht=>ha.right t (List.mem_flatMap.2 ⟨p,hp,ht⟩)
  have e2:∀c:Option Con,(∀c',c=some c'→∀x∈fl,∀m k i o,x.ev sl= .ptr m k i o→m≠c'.n)↔∀c',c=some c'→∀x∈fl,∀m k i o,x.ev sl'= .ptr m k i o→m≠c'.n:=fun c=>
   ⟨fun h c' hc x hx m k i o he=>h c' hc x hx m k i o (by rw[e x hx];exact he),fun h c' hc x hx m k i o he=>h c' hc x hx m k i o (by rw[←e x hx];exact he)⟩
  simp only[LOp.dsem,kR (xs:=args) ha.left,e2]
 |call f args=>simp only[LOp.dsem,kR (xs:=args) ha]
 |callv x args=>simp only[LOp.dsem,aL.ev_congr (x:=x) ha.left,kR (xs:=args) ha.right]
theorem aDH{P:Program}{sl sl':List V}{h:Hp}{a:Nat}{R:eY→Prop}{o:aA}(ha:gD sl sl' o.slots):eZ P h a o sl R↔eZ P h a o sl' R:=by
 unfold eZ
 unfold aA.slots at ha
 cases hg:o.g with
 |none=>rw[hg] at ha;exact LOp.dsem_congr ha.right
 |some p=>
  obtain⟨t,want⟩:=p
  rw[hg] at ha
  have e:sl.getD t V.undef=sl'.getD t V.undef:=ha t (by simp)
  simp only[e]
  have:=LOp.dsem_congr (P:=P) (h:=h) (a:=a) (R:=R) ha.right
  split
  ·split
   ·exact this
   exact Iff.rfl
  ·exact Iff.rfl
  exact Iff.rfl
def LOp.touch(sl:List V)(m:Nat):LOp→Prop
 | .val (.load _ x)=>∃k i o,x.ev sl= .ptr m k i o
 | .call _ _=>True
 | .callv _ _=>True
 | .callw _ _ _=>True
 |_=>False
theorem bD.sem_at{sl:List V}{h h':Hp}{R:V→Prop}{l:bD}(hh:∀n b,h n=some b→b.mem=true→((∃es c,b= .mp es c)∨(LOp.val l).touch sl n)→h' n=some b)(hs:l.sem sl h R):l.sem sl h' R:=by
 cases l with
 |load t x=>
  simp only[bD.sem] at hs⊢
  revert hs
  split
  ·rename_i n k i o he
   split
   ·rename_i k' es hn
    rintro⟨a,b,c,d⟩
    rw[hh _ _ hn rfl (.inr ⟨k,i,o,he⟩)]
    exact⟨a,b,c,d⟩
   exact False.elim
  ·exact id
  exact id
 |mget kS ks z ok x i=>
  refine⟨hs.1,?_⟩
  have hs:=hs.2
  revert hs
  split
  ·exact id
  ·split
   ·rename_i hn
    rw[hh _ _ hn rfl (.inl ⟨_,_,rfl⟩)]
    exact id
   exact False.elim
  exact id
 |mlen x=>
  simp only[bD.sem] at hs⊢
  revert hs
  split
  ·exact id
  ·split
   ·rename_i hn
    rw[hh _ _ hn rfl (.inl ⟨_,_,rfl⟩)]
    exact id
   exact False.elim
  exact id
 |_=>exact hs
def LOp.base:LOp→LOp
 | .callw f args _=> .call f args
 |o=>o
structure aEi(P:Program)(K:Ker)(h:Hp)(a:Nat)(d:eY)(o:Oper)(act:Act):Prop where
 go:∀(rd:Option Nat) (m:Nat) (next:Act→World→Prop) (Q:Exit→Act→World→Prop),
  (∀K' cv h',K.le K'→VR K' d.v cv→Rel K' h'→(∀n,K'.live n→K.live n∨n=a)→
    (∀m,m≠a→(∀c,d.con=some c→m≠c.n)→h' m=h m)→(h' a=d.add)→(∀c,d.con=some c→c.n≠a→h' c.n=c.new)→next (act.put o.dst cv) K'.w)→o.wpIn (FR rd) m P act K.w next Q
theorem aAZ{K K1:Ker}{h hx:Hp}{a:Nat}{b:Blk}(hr:Rel K h)(hle:K.le (K1.only fun n=>K.live n∨n=a))(hrel:Rel K1 (hx.set a b))(hxl:∀n c,n≠a→hx n=some c→h n=some c)(hb:∀k es,b= .arr k es→∀L,bP L es)(hob:∀o U,b≠ .obj o U)(hom:∀es c,b≠ .mp es c)(hoi:∀m since seen last,b≠ .mit m since seen last):Rel (K1.only fun n=>K.live n∨n=a) (hx.set a b):=by
 have hsplit:∀n c,(hx.set a b) n=some c→(n=a∧c=b)∨(n≠a∧h n=some c):=fun n c e=>by
  unfold Hp.set at e
  split at e
  ·rename_i hn;injection e with e;exact .inl ⟨hn,e.symm⟩
  rename_i hn;exact .inr ⟨hn,hxl n c hn e⟩
 refine⟨fun n c e=>?_,hrel.base,fun n c e=>?_,hrel.inj,hrel.size⟩
 ·rcases hsplit n c e with⟨h1,_⟩|⟨_,h1⟩
  ·exact .inr h1
  exact .inl (hr.lt n c h1)
 have hb':=hrel.blk n c e
 rcases hsplit n c e with⟨hna,hcb⟩|⟨hna,h1⟩
 ·subst hna hcb
  cases hb' with
  |tip c T hh hi ht=>exact .tip c T hh hi ht
  |obj o U hh ho _ hU=>exact absurd rfl (hob o U)
  |arr k es c T hh hsz hi hfit hvs=>exact .arr k es c T hh hsz hi hfit fun i hi j hj=>(hvs i hi j hj).only _ (lD (dY (hb k es rfl _) i) j)
  |mp es c ces hh hl hv=>exact absurd rfl (hom es c)
  |mit m since seen last hh hm=>exact absurd rfl (hoi m since seen last)
 have hb:=hr.blk n _ h1
 cases hb' with
 |tip c T hh hi ht=>exact .tip c T hh hi ht
 |obj o U hh ho _ hU=>
  cases hb with
  |obj _ _ _ _ hu _=>exact .obj o U hh ho (hU _ _ hle.toV hu) hU
 |arr k' es' c T hh hsz hi hfit hvs=>
  refine .arr k' es' c T hh hsz hi hfit fun i hi j hj=>(hvs i hi j hj).only _ ?_
  cases hb with
  |arr _ _ c0 T0 hh0 hsz0 hi0 hfit0 hvs0=>exact cA (fun m hm=> .inl hm) (hvs0 i hi j hj).names
 |mp es' c ces hh hl hv=>cases hb with
  |mp _ _ ces0 hh0 hl0 hv0=>exact .mp es' c ces hh hl fun i hi=>⟨(hv i hi).1.only _ (cA (fun m hm=> .inl hm) (hv0 i hi).1.names),(hv i hi).2.1.only _ (cA (fun m hm=> .inl hm) (hv0 i hi).2.1.names),(hv i hi).2.2⟩
 |mit m since seen last hh hm=>cases hb with
  |mit _ _ _ _ hh0 hm0=>exact .mit m since seen last hh (.inl hm0)
theorem aKT{P:Program}{o:Oper}{l:LOp}(hl:iN P o=some l.base){act:Act}{K:Ker}{sl:List V}{h h0:Hp}{a nx:Nat}{d:eY}(hs:∀t,VR K (sl.getD t V.undef) (act.tmps.getD t Go.undef))(hr:Rel K h)(hfresh:¬K.live a)(hlv:∀n,K.live n→n<nx)(ha:a<nx)
 (hvis:∀m b,h0 m=some b→b.mem=true→((∃es c,b= .mp es c)∨l.touch sl m)→h m=some b) (htok:∀c,d.con=some c→h c.n=some c.old) (hsem:l.dsem P sl h0 a (·=d)):aEi P K h a d o act:=by
 have hna:h a=none:=by
  cases e:h a with
  |none=>rfl
  |some b=>exact absurd (hr.lt a b e) hfresh
 have viaM:∀(v:V) (h':Hp),eT P o act K a (fun v' h''=>v'=v∧h''=h')→d.v=v→(∀m,m≠a→(∀c,d.con=some c→m≠c.n)→h' m=h m)→(h' a=d.add)→(∀c,d.con=some c→c.n≠a→h' c.n=c.new)→aEi P K h a d o act:=by
  rintro v h' ⟨nx',cv,K',v',h'',h1,h2,h3,h4,h5,h6,rfl,rfl⟩ hv c1 c2 c3
  subst hv
  refine⟨fun rd m next Q hn=>?_⟩
  have:=hn K' cv _ h3 h5 h6 h4 c1 c2 c3
  rcases h2 with rfl|⟨rfl,rfl⟩
  ·exact qT h1 this
  exact xE h1 this
 have pureCall:∀(f:FuncId) (args:List V) (v:V),(∀m,l.touch sl m)→((∃la,l.base= .call f la∧args=la.map (aL.ev sl))∨∃x la first cap,l.base= .callv x la∧x.ev sl= .fn (.func f) first cap∧args=first++la.map (aL.ev sl)++cap)→aZ P f args h0 v→(⟨v,none,none⟩:eY)=d→aEi P K h a d o act:=by
  intro f args v ht hc hp hd
  subst hd
  refine⟨fun rd m next Q hn=>?_⟩
  refine lG hl hs hr hlv hc (hp h nx fun m b e hb=>hvis m b e hb (.inr (ht m))) rd m next Q ?_
  rintro K' v' cv h' nx' q1 q2 q3 q4 q5 ⟨rfl,rfl,rfl⟩
  exact hn K' cv h' q1 q2 q3 (fun n hn=>(q4 n hn).2.imp (fun x=>x) (fun x=>absurd (q4 n hn).1 (by omega))) (fun _ _ _=>rfl) hna (fun n hn=>by cases hn)
 have hnn:h nx=none:=by
  cases e:h nx with
  |none=>rfl
  |some b=>have:=hlv nx (hr.lt nx b e);omega
 have freshCall:∀(f:FuncId) (args:List V) (k:Sh) (es:List V),(∀m,l.touch sl m)→((∃la,l.base= .call f la∧args=la.map (aL.ev sl))∨∃x la first cap,l.base= .callv x la∧x.ev sl= .fn (.func f) first cap∧args=first++la.map (aL.ev sl)++cap)→pI P f args h0 k es→(⟨.sl k (.tok a) es,some .tip,none⟩:eY)=d→aEi P K h a d o act:=by
  intro f args k es ht hc hp hd
  subst hd
  refine⟨fun rd m next Q hn=>?_⟩
  refine lG hl hs hr hlv hc (hp.2 h nx fun m b e hb=>hvis m b e hb (.inr (ht m))) rd m next Q ?_
  rintro K' v' cv h' nx' q1 q2 q3 q4 q5 ⟨rfl,rfl,rfl⟩
  have hfr:¬K'.live a:=fun hl=>by
   rcases(q4 a hl).2 with h|h
   ·exact hfresh h
   omega
  have hset:(h.set nx .tip) nx=some .tip:=by simp[Hp.set]
  have hdel:((h.set nx .tip).del nx).set a .tip=h.set a .tip:=by
   funext x
   unfold Hp.set Hp.del
   by_cases e1:x=a
   ·simp[e1]
   by_cases e2:x=nx
   ·simp[e1,e2,hnn]
   simp[e1,e2]
  have hbr:=q3.blk nx _ hset
  have hle:=K'.le_claim (b:=K'.mu nx) (m:=K'.imm (K'.mu nx)) hfr (Nat.le_refl _)
  have hrel:=q3.claim hset (a:=a) (m:=K'.imm (K'.mu nx)) hfr (Nat.le_refl _) (b1:= .tip) (by
   cases hbr with
   |tip c T hh hi ht=>exact .tip c T (by simpa [Ker.claim] using hh) (by simp[Ker.claim]) (by simpa [Ker.claim,hi] using ht))
  rw[hdel] at hrel
  have hvr:VR (K'.claim a (K'.mu nx) (K'.imm (K'.mu nx))) (.sl k (.tok a) es) cv:=by
   cases q2 with
   |sl _ _ _ b off cap f' hb' hfit' hcell hst hv hcap hnil hfull htok=>
    refine .sl k (.tok a) es b off cap f' hb' hfit' hcell (fun j hj=>hle.still hb' (hst j hj)) (fun i hi j hj=>(hv i hi j hj).mono hle) hcap (by simp) (by simp) ?_
    intro m hm
    injection hm with hm
    subst hm
    obtain⟨hln,htk⟩:=htok nx rfl
    refine⟨.inl rfl,?_⟩
    rcases htk with q|⟨q1,q2,q3⟩
    ·exact .inl q
    refine .inr ⟨by simp[Ker.claim,q1],?_,q3⟩
    cases hbr with
    |tip c T hh hi ht=>simp[Ker.claim,hi,q2]
  have hle2:=q1.trans hle
  --the callee's own names are forgotten
  have hleO:K.le ((K'.claim a (K'.mu nx) (K'.imm (K'.mu nx))).only fun n=>K.live n∨n=a):=⟨fun n hn=> .inl hn,hle2.mu,hle2.tp,hle2.fro,hle2.imm,hle2.cell,hle2.shape,hle2.below⟩
  refine hn ((K'.claim a (K'.mu nx) (K'.imm (K'.mu nx))).only fun n=>K.live n∨n=a) cv (h.set a .tip) hleO (hvr.only _ ⟨fun n e=>by injection e with e;exact .inr e.symm,hp.1 _⟩) (aAZ hr hleO hrel (fun n c hn e=>e) (fun k es e=>by cases e) (fun o U e=>by cases e) (fun es c e=>by cases e) (fun m s sn l e=>by cases e)) (fun n hn=>hn) (fun m hm _=>by simp[Hp.set,hm]) (by simp[Hp.set]) (fun n hn=>by cases hn)
 have turnCall:∀(f:FuncId) (args:List V) (c:Option Con) (v:Nat→V) (k:Sh) (es:List V),(∀m,l.touch sl m)→((∃la,l.base= .call f la∧args=la.map (aL.ev sl))∨∃x la first cap,l.base= .callv x la∧x.ev sl= .fn (.func f) first cap∧args=first++la.map (aL.ev sl)++cap)→aHp P f args h0 c v k es→(⟨v a,some (.arr k es),c⟩:eY)=d→aEi P K h a d o act:=by
  rintro f args c v k es ht hc ⟨hmv,hnm,hcn,hp⟩ hd
  subst hd
  refine⟨fun rd m next Q hn=>?_⟩
  refine lG hl hs hr hlv hc (hp h nx fun m b e hb=>hvis m b e hb (.inr (ht m))) rd m next Q ?_
  rintro K' v' cv h' nx' q1 q2 q3 q4 q5 ⟨rfl,rfl,rfl⟩
  have hfr:¬K'.live a:=fun hl=>by
   rcases(q4 a hl).2 with h|h
   ·exact hfresh h
   omega
  have hset:((h.turn c).set nx (.arr k es)) nx=some (.arr k es):=by simp[Hp.set]
  have hturn:∀m b,(h.turn c) m=some b→h m=some b:=by
   intro m b e
   cases c with
   |none=>exact e
   |some c=>
    have:=(hcn c rfl).1
    simp only[Hp.turn,this,Hp.del] at e
    split at e
    ·cases e
    exact e
  have htn:(h.turn c) nx=none:=by
   cases e:(h.turn c) nx with
   |none=>rfl
   |some b=>rw[hturn nx b e] at hnn;cases hnn
  have hta:(h.turn c) a=none:=by
   cases e:(h.turn c) a with
   |none=>rfl
   |some b=>rw[hturn a b e] at hna;cases hna
  have hdel:(((h.turn c).set nx (.arr k es)).del nx).set a (.arr k es)=(h.turn c).set a (.arr k es):=by
   funext x
   unfold Hp.set Hp.del
   by_cases e1:x=a
   ·simp[e1]
   by_cases e2:x=nx
   ·simp[e1,e2,htn]
   simp[e1,e2]
  have hbr:=q3.blk nx _ hset
  have hle:=K'.le_claim (b:=K'.mu nx) (m:=K'.imm (K'.mu nx)) hfr (Nat.le_refl _)
  have hrel:=q3.claim hset (a:=a) (m:=K'.imm (K'.mu nx)) hfr (Nat.le_refl _) (b1:= .arr k es) (by
   cases hbr with
   |arr _ _ c T hh hsz hi hfit hvs=>exact .arr k es c T (by simpa [Ker.claim] using hh) hsz (by simp[Ker.claim,hi]) hfit fun i hi j hj=>(hvs i hi j hj).mono hle)
  rw[hdel] at hrel
  have hle2:=q1.trans hle
  have hleO:K.le ((K'.claim a (K'.mu nx) (K'.imm (K'.mu nx))).only fun n=>K.live n∨n=a):=⟨fun n hn=> .inl hn,hle2.mu,hle2.tp,hle2.fro,hle2.imm,hle2.cell,hle2.shape,hle2.below⟩
  refine hn ((K'.claim a (K'.mu nx) (K'.imm (K'.mu nx))).only fun n=>K.live n∨n=a) cv ((h.turn c).set a (.arr k es)) hleO (hmv K' nx a cv _ hfr (.inr rfl) q2) (aAZ hr hleO hrel (fun n c hn e=>hturn n c e) (fun k' es' e L=>by cases e;exact hnm L) (fun o U e=>by cases e) (fun es c e=>by cases e) (fun m s sn l e=>by cases e)) (fun n hn=>hn) (fun m hm hmc=>?_) (by simp[Hp.set]) (fun c' hc' hne=>?_)
  ·simp only[Hp.set,if_neg hm]
   cases c with
   |none=>rfl
   |some c=>
    have hne:=hmc c rfl
    have:=(hcn c rfl).1
    simp only[Hp.turn,this,Hp.del,if_neg hne]
  have hc':c=some c':=hc'
  subst hc'
  have:=(hcn c' rfl).1
  simp only[Hp.set,if_neg hne,Hp.turn,this,Hp.del,if_true]
 cases l with
 |val x=>
  obtain⟨v,h1,h2⟩:=bD.sem_det (show x.sem sl h0 (fun v=>(⟨v,none,none⟩:eY)=d) from hsem)
  subst h2
  refine viaM v h (cI hl hs hr hfresh (show x.sem sl h (fun v'=>v'=v∧h=h) from bD.sem_mono (fun _ _ e _=>e) (fun v' hv=>⟨hv,rfl⟩) (bD.sem_at hvis h1))) rfl (fun _ _ _=>rfl) hna (fun n hn=>by cases hn)
 |box k x=>
  obtain⟨h1,rfl⟩:=hsem
  exact viaM _ (h.set a (.arr k [x.ev sl])) (cI hl hs hr hfresh ⟨h1,rfl,rfl⟩) rfl (fun m hm _=>by simp[Hp.set,hm]) (by simp[Hp.set]) (fun n hn=>by cases hn)
 |bslice k es=>
  rcases hsem with⟨h1,rfl|rfl⟩
  ·exact viaM _ (h.set a .tip) (cI hl hs hr hfresh ⟨h1, .inl ⟨rfl,rfl⟩⟩) rfl (fun m hm _=>by simp[Hp.set,hm]) (by simp[Hp.set]) (fun n hn=>by cases hn)
  exact viaM _ (h.set a (.arr k (es.map (aL.ev sl)))) (cI hl hs hr hfresh ⟨h1, .inr ⟨rfl,rfl⟩⟩) rfl (fun m hm _=>by simp[Hp.set,hm]) (by simp[Hp.set]) (fun n hn=>by cases hn)
 |append k bytes x y=>
  simp only[LOp.dsem] at hsem
  split at hsem
  ·rename_i kx own xs ky own' ys ex ey
   obtain⟨rfl,rfl,hb,hR⟩:=hsem
   have mk:∀(_:tK h own),eT P o act K a (fun v' h''=>v'= .sl ky (fF a own ys) (xs++ys)∧h''=eQ h a own ys):=fun hok=>
    cI hl hs hr hfresh (by simp only[LOp.sem,LOp.base,ex,ey,dX];exact⟨trivial,trivial,hb, .inl ⟨hok,trivial,trivial⟩⟩)
   cases own with
   |nil=>
    simp only at hR
    subst hR
    refine viaM _ _ (mk trivial) rfl (fun m hm _=>?_) ?_ (fun n hn=>by cases hn)
    ·unfold eQ;simp only;split<;>simp[Hp.set,hm]
    unfold eQ;simp only;split<;>simp[Hp.set,hna]
   |full=>
    simp only at hR
    subst hR
    refine viaM _ _ (mk trivial) rfl (fun m hm _=>?_) ?_ (fun n hn=>by cases hn)
    ·unfold eQ;simp only;split<;>simp[Hp.set,hm]
    unfold eQ;simp only;split<;>simp[Hp.set,hna]
   |tok n=>
    simp only at hR
    subst hR
    refine viaM _ _ (mk (htok _ rfl)) rfl (fun m hm hc=>?_) ?_ (fun c hn hne=>?_)
    ·have:=hc _ rfl;simp[eQ,Hp.set,Hp.del,hm];intro e;exact absurd e this
    ·simp[eQ,Hp.set]
    injection hn with hn;subst hn;simp only at hne;simp[eQ,Hp.set,Hp.del,hne]
   |free=>exact hR.elim
  exact hsem.elim
 |store t x v=>
  simp only[LOp.dsem] at hsem
  split at hsem
  ·rename_i n k i oo ex
   obtain⟨es,h1,h2,h3,rfl⟩:=hsem
   have hn:=htok _ rfl
   simp only at hn
   have hne:n≠a:=fun e=>by subst e;rw[hna] at hn;cases hn
   refine viaM V.undef (h.set n (.arr k (es.set i (bR t oo (es.getD i V.undef) (v.ev sl))))) (cI hl hs hr hfresh (by simp only[LOp.sem,LOp.base,ex,hn];exact⟨trivial,h1,h2,h3,trivial,trivial⟩)) rfl (fun m hm hc=>?_) ?_ (fun c hc _=>?_)
   ·have:=hc _ rfl;simp[Hp.set];intro e;exact absurd e this
   ·simp[Hp.set,Ne.symm hne,hna]
   injection hc with hc;subst hc;simp[Hp.set]
  exact hsem.elim
 |mkz k b x z=>
  simp only[LOp.dsem] at hsem
  split at hsem
  ·rename_i km m ex
   rcases hsem with⟨h1,h2,rfl|rfl⟩
   ·exact viaM _ _ (cI hl hs hr hfresh (by simp only[LOp.sem,LOp.base,ex];exact⟨h1,h2, .inl ⟨trivial,rfl⟩⟩)) rfl (fun m hm _=>by simp[Hp.set,hm]) (by simp[Hp.set]) (fun n hn=>by cases hn)
   exact viaM _ _ (cI hl hs hr hfresh (by simp only[LOp.sem,LOp.base,ex];exact⟨h1,h2, .inr ⟨trivial,rfl⟩⟩)) rfl (fun m hm _=>by simp[Hp.set,hm]) (by simp[Hp.set]) (fun n hn=>by cases hn)
  exact hsem.elim
 |appz k b x y z=>
  simp only[LOp.dsem] at hsem
  split at hsem
  ·rename_i k' ky m ex ey
   obtain⟨rfl,h1,h2,rfl⟩:=hsem
   exact viaM _ _ (cI hl hs hr hfresh (by simp only[LOp.sem,LOp.base,ex,ey];exact⟨trivial,h1,h2,trivial,rfl⟩)) rfl (fun m hm _=>by simp[Hp.set,hm]) (by simp[Hp.set]) (fun n hn=>by cases hn)
  exact hsem.elim
 |clear k x z=>exact hsem.elim
 |mp m=>
  cases m<;>first
   |exact hsem.elim
   |(have e:(⟨.map a,some (.mp [] 0),none⟩:eY)=d:=hsem
     subst e
     exact viaM _ (h.set a (.mp [] 0)) (cI hl hs hr hfresh ⟨rfl,rfl⟩) rfl (fun m hm _=>by simp[Hp.set,hm]) (by simp[Hp.set]) (fun n hn=>by cases hn))
 |call f args=>
  rcases hsem with⟨v,h1,h2⟩|⟨k,es,h1,h2⟩|⟨v,k,es,h1,h2⟩
  ·exact pureCall f _ v (fun _=>trivial) (.inl ⟨args,rfl,rfl⟩) h1 h2
  ·exact freshCall f _ k es (fun _=>trivial) (.inl ⟨args,rfl,rfl⟩) h1 h2
  exact turnCall f _ none v k es (fun _=>trivial) (.inl ⟨args,rfl,rfl⟩) h1 h2
 |callw f args fl=>
  rcases hsem with⟨v,h1,h2⟩|⟨k,es,h1,h2⟩|⟨c,v,k,es,h1,_,h2⟩
  ·exact pureCall f _ v (fun _=>trivial) (.inl ⟨args,rfl,rfl⟩) h1 h2
  ·exact freshCall f _ k es (fun _=>trivial) (.inl ⟨args,rfl,rfl⟩) h1 h2
  exact turnCall f _ c v k es (fun _=>trivial) (.inl ⟨args,rfl,rfl⟩) h1 h2
 |callv x args=>
  simp only[LOp.dsem] at hsem
  split at hsem
  ·rename_i f first cap e
   rcases hsem with⟨v,h1,h2⟩|⟨k,es,h1,h2⟩
   ·exact pureCall f _ v (fun _=>trivial) (.inr ⟨x,args,first,cap,rfl,e,rfl⟩) h1 h2
   exact freshCall f _ k es (fun _=>trivial) (.inr ⟨x,args,first,cap,rfl,e,rfl⟩) h1 h2
  exact hsem.elim
def gG(ops:Array Oper)(i:Nat):Option Nat:=(ops[i]?).bind (·.dst)
def zd1(ops:Array Oper)(n i:Nat):List Nat:=((ops[i]?).map fun o=>(o.after.toList.filter (fun e=>Region.binds .any e&&decide (e.on<n))).map (·.on)).getD []
def oC(ops:Array Oper)(n:Nat):Nat→List (List Nat)
 |0=>[]
 |i+1=>oC ops n i++[(List.range i).filter fun q=>(zd1 ops n i).contains q||(zd1 ops n i).any fun d=>((oC ops n i).getD d []).contains q]
def mF(ops:Array Oper)(n i:Nat):List Nat:=(oC ops n n).getD i []
theorem kP(ops:Array Oper)(n:Nat):∀m,(oC ops n m).length=m
 |0=>rfl
 |m+1=>by simp[oC,kP ops n m]
theorem mG(ops:Array Oper)(n:Nat):∀(m i:Nat),i<m→(oC ops n m).getD i []=(List.range i).filter fun q=>(zd1 ops n i).contains q||(zd1 ops n i).any fun d=>((oC ops n i).getD d []).contains q
 |0,_,h=>by omega
 |m+1,i,h=>by
  have e0:oC ops n (m+1)=oC ops n m++[(List.range m).filter fun q=>(zd1 ops n m).contains q||(zd1 ops n m).any fun d=>((oC ops n m).getD d []).contains q]:=rfl
  rw[e0,List.getD_eq_getElem?_getD]
  by_cases e:i<m
  ·rw[List.getElem?_append_left (by rw[kP];exact e),←List.getD_eq_getElem?_getD]
   exact mG ops n m i e
  have:i=m:=by omega
  subst this
  rw[List.getElem?_append_right (by rw[kP];exact Nat.le_refl _),kP]
  simp
theorem aAL(ops:Array Oper)(n:Nat){S:Nat→Prop}:∀(i:Nat),(∀j,j≤i→S j→∀d∈zd1 ops n j,S d)→S i→∀m,i<m→∀q∈(oC ops n m).getD i [],S q:=by
 intro i
 induction i using Nat.strongRecOn with
 |ind i ih=>
  intro hc hs m hm q hq
  rw[mG ops n m i hm] at hq
  obtain⟨h1,h2⟩:=List.mem_filter.1 hq
  simp only[Bool.or_eq_true,List.contains_iff_mem,List.any_eq_true] at h2
  rcases h2 with h2|⟨d,h2,h3⟩
  ·exact hc i (Nat.le_refl _) hs q h2
  by_cases hd:d<i
  ·exact ih d hd (fun j hj=>hc j (by omega)) (hc i (Nat.le_refl _) hs d h2) i hd q h3
  rw[List.getD_eq_getElem?_getD,List.getElem?_eq_none (by rw[kP];omega)] at h3
  cases h3
def oB(ops:Array Oper)(n j:Nat):List aL:=
 (List.range j).filterMap fun i=>match ops[i]? with
   |some o=>match o.op with
    | .load _ (.tmp t)=>if (mF ops n j).contains i then none else some (aL.slot t)
    |_=>none
   |none=>none
def LOp.widen(w:Bool)(fl:List aL):LOp→LOp
 | .call f args=>if w then .callw f args fl else .call f args
 |o=>o
def aA.widen(w:Bool)(fl:List aL)(o:aA):aA:=⟨o.dst,o.g,o.op.widen w fl⟩
theorem LOp.base_widen{w:Bool}{fl:List aL}{l:LOp}(h:∀f a b,l≠ .callw f a b):(l.widen w fl).base=l:=by
 cases l with
 |callw f a b=>exact absurd rfl (h f a b)
 |call f args=>cases w<;>rfl
 |_=>rfl
theorem aBY{P:Program}{o:Oper}{l:LOp}(h:iN P o=some l):∀f a b,l≠ .callw f a b:=by
 rintro f a b rfl
 have hs:∀(K:Ker) (sl:List V) (act:Act),(∀t,VR K (sl.getD t V.undef) (act.tmps.getD t Go.undef))→True:=fun _ _ _ _=>trivial
 rcases kL h with⟨x,_,e⟩|⟨f',args,ts,ls,_,_,e⟩|⟨n,args,ts,ls,_,_,e⟩|e
 ·cases e
 ·cases e
 ·cases e
 cases e
def LOp.nofl:LOp→LOp
 | .callw f args _=> .callw f args []
 |o=>o
def aA.nofl(o:aA):aA:=⟨o.dst,o.g,o.op.nofl⟩
theorem LOp.nofl_base(l:LOp):l.nofl.base=l.base:=by cases l<;>rfl
theorem LOp.nofl_touch(l:LOp)(sl:List V)(m:Nat):l.nofl.touch sl m=l.touch sl m:=by cases l<;>rfl
theorem LOp.nofl_ld{l:LOp}{x:aL}(h:(match l with| .val (.load _ x)=>some x|_=>none)=some x):l.nofl=l:=by cases l<;>first|rfl|(cases h)
theorem aBq{P:Program}{sl:List V}{h0:Hp}{a:Nat}{R:eY→Prop}{l:LOp}(h:l.dsem P sl h0 a R):l.nofl.dsem P sl h0 a R:=by
 cases l with
 |callw f args fl=>
  simp only[LOp.nofl,LOp.dsem] at h⊢
  rcases h with h|h|⟨c,v,k,es,h1,_,h3⟩
  ·exact .inl h
  ·exact .inr (.inl h)
  exact .inr (.inr ⟨c,v,k,es,h1,(fun c' _ x hx=>by cases hx),h3⟩)
 |_=>exact h
theorem aFn{P:Program}{sl:List V}{h:Hp}{a:Nat}{R:eY→Prop}{o:aA}(ho:eZ P h a o sl R):eZ P h a o.nofl sl R:=by
 unfold eZ at ho⊢
 show(match o.g with|none=>_|some (t,want)=>_)
 cases hg:o.g with
 |none=>rw[hg] at ho;exact aBq ho
 |some p=>
  obtain⟨t,want⟩:=p
  rw[hg] at ho
  simp only at ho⊢
  cases hv:sl.getD t V.undef<;>rw[hv] at ho<;>simp only at ho⊢<;>first
   |exact ho
   |(split at ho
     ·rename_i e;rw[if_pos e];exact aBq ho
     rename_i e;rw[if_neg e];exact ho)
def dK(P:Program)(ops:Array Oper)(n:Nat)(w:Bool):Nat→List Oper→Option (List (aA×List Nat))
 |_,[]=>some []
 |i,o::r=>(pT P ops o).bind fun l=>(dK P ops n w (i+1) r).map ((l.widen w (oB ops n i),mF ops n i):: ·)
def LOp.isLd:LOp→Option aL
 | .val (.load _ x)=>some x
 |_=>none
def LOp.isCl:LOp→Bool
 | .call _ _=>true
 | .callv _ _=>true
 | .callw _ _ _=>true
 |_=>false
def aCL:aL→aL→Bool
 | .slot a, .slot b=>a==b
 |_,_=>false
def bK(lj:LOp)(deps:List Nat)(i:Nat)(li:LOp):Bool:=
 deps.contains i||match lj with
  | .store _ _ _=>li.isLd.isNone&& !li.isCl
  | .callw _ _ fl=> !li.isCl&&match li.isLd with
   |some x=>fl.any (aCL x)
   |none=>true
  |_=>true
def nX(ops:Array Oper)(n:Nat)(l:List (aA×List Nat)):Bool:=
 Region.noSelect ops&&(decide (n=ops.size)||(decide (n<ops.size)&&Region.sinkB .any ops n&&Region.chainB .any ops n))&&
 Region.seqB .any ops (ops.size-n) n ((List.range ops.size).map (fun i=>decide (i<n))).toArray&&
 (List.range n).all (fun i=>match ops[i]?,l[i]? with
   |some o,some (lo,deps)=>(o.after.toList.all fun e=> !Region.binds .any e||decide (e.on<i))&&(lo.nofl.slots.all fun t=>(List.range n).all fun j=>gG ops j != some t||deps.contains j)&&deps.all (fun d=>decide (d<i))&&
    (List.range i).all fun q=>match l[q]? with
      |some (lq,_)=>bK lo.op deps q lq.op
      |none=>false
   |_,_=>false)&&
 (List.range n).all (fun i=>(List.range n).all fun j=>i==j||(gG ops i).isNone||gG ops i != gG ops j)
theorem gT{P:Program}{ops:Array Oper}{n:Nat}{w:Bool}:∀(r:List Oper) (i:Nat) (l:List (aA×List Nat)),dK P ops n w i r=some l→l.length=r.length∧
 ∀j o,r[j]?=some o→∃lo,l[j]?=some (lo.widen w (oB ops n (i+j)),mF ops n (i+j))∧pT P ops o=some lo
 | [],i,l,h=>by simp[dK] at h;subst h;exact⟨rfl,fun j o hj=>by simp at hj⟩
 |o::r,i,l,h=>by
  unfold dK at h
  obtain⟨lo,h1,h⟩:=Option.bind_eq_some_iff.1 h
  obtain⟨lr,h2,rfl⟩:=Option.map_eq_some_iff.1 h
  obtain⟨q1,q2⟩:=gT r (i+1) lr h2
  refine⟨by simp[q1],fun j o' hj=>?_⟩
  cases j with
  |zero=>simp at hj;subst hj;exact⟨lo,by simp,h1⟩
  |succ j=>
   obtain⟨lo',e1,e2⟩:=q2 j o' (by simpa using hj)
   exact⟨lo',by simpa [Nat.add_assoc,Nat.add_comm 1 j] using e1,e2⟩
theorem aIC{P:Program}{sl:List V}{h0:Hp}{a:Nat}{d:eY}{l:LOp}{c:Con}(hs:l.dsem P sl h0 a (·=d))(hc:d.con=some c):
 c.old= .tip∨(∃k es,c.old= .arr k es)∧((∃t x v,l= .store t x v)∨∃f args fl,l= .callw f args fl∧∀x∈fl,∀m k i o,x.ev sl= .ptr m k i o→m≠c.n):=by
 cases l with
 |val x=>
  obtain⟨v,_,h2⟩:=bD.sem_det (show x.sem sl h0 (fun v=>(⟨v,none,none⟩:eY)=d) from hs)
  subst h2;cases hc
 |box k x=>obtain⟨_,rfl⟩:=hs;cases hc
 |bslice k es=>rcases hs with⟨_,rfl|rfl⟩<;>cases hc
 |append k b x y=>
  simp only[LOp.dsem] at hs
  split at hs
  ·obtain⟨_,_,_,hs⟩:=hs
   split at hs
   ·subst hs;cases hc
   ·subst hs;cases hc
   ·subst hs;injection hc with hc;subst hc;exact .inl rfl
   exact hs.elim
  exact hs.elim
 |store t x v=>
  refine .inr ⟨?_, .inl ⟨t,x,v,rfl⟩⟩
  simp only[LOp.dsem] at hs
  split at hs
  ·obtain⟨es,_,_,_,rfl⟩:=hs;injection hc with hc;subst hc;exact⟨_,_,rfl⟩
  exact hs.elim
 |mp m=>cases m<;>first|exact hs.elim|(have e:(⟨.map a,some (.mp [] 0),none⟩:eY)=d:=hs;subst e;cases hc)
 |mkz k b x z=>
  simp only[LOp.dsem] at hs
  split at hs
  ·rcases hs with⟨_,_,rfl|rfl⟩<;>cases hc
  exact hs.elim
 |appz k b x y z=>
  simp only[LOp.dsem] at hs
  split at hs
  ·obtain⟨_,_,_,rfl⟩:=hs;cases hc
  exact hs.elim
 |clear k x z=>exact hs.elim
 |call f args=>rcases hs with⟨v,_,rfl⟩|⟨k,es,_,rfl⟩|⟨v,k,es,_,rfl⟩<;>cases hc
 |callv x args=>
  simp only[LOp.dsem] at hs
  split at hs
  ·rcases hs with⟨v,_,rfl⟩|⟨k,es,_,rfl⟩<;>cases hc
  exact hs.elim
 |callw f args fl=>
  rcases hs with⟨v,_,rfl⟩|⟨k,es,_,rfl⟩|⟨c',v,k,es,ht,h2,rfl⟩
  ·cases hc
  ·cases hc
  exact .inr ⟨(ht.2.2.1 c hc).2.1, .inr ⟨f,args,fl,rfl,h2 c hc⟩⟩
theorem aHb{P:Program}{sl:List V}{h0:Hp}{a:Nat}{d:eY}{o:aA}{c:Con}(hs:eZ P h0 a o sl (·=d))(hc:d.con=some c):o.op.dsem P sl h0 a (·=d):=by
 unfold eZ at hs
 split at hs
 ·exact hs
 split at hs
 ·split at hs
  ·exact hs
  subst hs;cases hc
 ·subst hs;cases hc
 exact hs.elim
theorem xJ{sl:List V}{m:Nat}{l:LOp}(h:l.touch sl m):l.isCl=true∨∃x k i o,l.isLd=some x∧x.ev sl= .ptr m k i o:=by
 cases l with
 |call f args=>exact .inl rfl
 |callv x args=>exact .inl rfl
 |callw f args fl=>exact .inl rfl
 |val x=>
  cases x with
  |load t x=>obtain⟨k,i,o,e⟩:=h;exact .inr ⟨x,k,i,o,rfl,e⟩
  |_=>exact h.elim
 |_=>exact h.elim
theorem aEZ{l:LOp}{x:aL}(h:l.isLd=some x):l.slots=x.slots:=by
 cases l with
 |val y=>
  cases y with
  |load t y=>injection h with h;subst h;rfl
  |_=>cases h
 |_=>cases h
def eY.none:eY:=⟨V.undef,Option.none,Option.none⟩
structure aFX(ops:Array Oper)(n:Nat)(sl0:List V)(res:List eY)(D:Nat→Prop)(sl:List V):Prop where
 len:sl.length=sl0.length
 val:∀j t,j<n→D j→gG ops j=some t→sl.getD t V.undef=(res.getD j .none).v
 frame:∀t,(∀j,j<n→D j→gG ops j≠some t)→sl.getD t V.undef=sl0.getD t V.undef
theorem aHS(sl:List V)(t:Nat)(v:V)(ht:t<sl.length)(u:Nat):(bF sl (some t) v).getD u V.undef=if u=t then v else sl.getD u V.undef:=by
 simp only[bF,List.getD_eq_getElem?_getD]
 by_cases e:u=t
 ·subst e;rw[List.getElem?_set_self ht,if_pos rfl];rfl
 rw[List.getElem?_set_ne (fun h=>e h.symm),if_neg e]
theorem sF{sl:List V}{dst:Option Nat}{v:V}(h:∀t,dst=some t→t<sl.length)(u:Nat):(bF sl dst v).getD u V.undef=if dst=some u then v else sl.getD u V.undef:=by
 cases dst with
 |none=>simp[bF]
 |some t=>
  rw[aHS _ _ _ (h t rfl)]
  by_cases e:u=t
  ·subst e;simp
  rw[if_neg e,if_neg (fun h=>e (Option.some.inj h).symm)]
theorem qU{ops:Array Oper}{n:Nat}{l:List (aA×List Nat)}{sl0:List V}{res:List eY}(hlen:l.length=n)(hres:res.length=n)(hdst:∀j lo deps,l[j]?=some (lo,deps)→lo.dst=gG ops j)(hin:∀j t,j<n→gG ops j=some t→t<sl0.length)
 (hdis:∀i j t,i<n→j<n→gG ops i=some t→gG ops j=some t→i=j):∀i,i≤n→aFX ops n sl0 res (·<i) (((l.zip res).take i).foldl (fun sl p=>bF sl p.1.1.dst p.2.v) sl0)
 |0,_=>⟨by simp,fun j t _ h=>by omega,fun t _=>by simp⟩
 |i+1,hi=>by
  have ih:=qU hlen hres hdst hin hdis i (by omega)
  have hl:i<(l.zip res).length:=by simp;omega
  rw[List.take_succ_eq_append_getElem hl,List.foldl_append]
  simp only[List.foldl_cons,List.foldl_nil,List.getElem_zip]
  generalize ((l.zip res).take i).foldl (fun sl p=>bF sl p.1.1.dst p.2.v) sl0=sl at ih
  have hd:(l[i]'(by omega)).1.dst=gG ops i:=hdst i _ (l[i]'(by omega)).2 (by rw[List.getElem?_eq_getElem (by omega)])
  rw[hd]
  have hs:∀t,gG ops i=some t→t<sl.length:=fun t ht=>by rw[ih.len];exact hin i t (by omega) ht
  have hr:res.getD i .none=res[i]'(by omega):=by rw[List.getD_eq_getElem?_getD,List.getElem?_eq_getElem (by omega)];rfl
  refine⟨?_,fun j t hj hji ht=>?_,fun t ht=>?_⟩
  ·cases gG ops i<;>simp[bF,ih.len]
  ·rw[sF hs]
   by_cases e:j=i
   ·subst e;rw[if_pos ht,hr]
   rw[if_neg (fun h=>e (hdis j i t hj (by omega) ht h))]
   exact ih.val j t hj (by omega) ht
  rw[sF hs,if_neg (fun h=>ht i (by omega) (by omega) h)]
  exact ih.frame t fun j hj hji=>ht j hj (by omega)
structure aKz(n nx0:Nat)(h0:Hp)(res:List eY)(D:Nat→Prop)(h:Hp):Prop where
 old:∀m,m<nx0→(∀j c,j<n→D j→(res.getD j .none).con=some c→c.n≠m)→h m=h0 m
 new:∀i,i<n→D i→(∀j c,j<n→D j→(res.getD j .none).con=some c→c.n≠nx0+i)→h (nx0+i)=(res.getD i .none).add
 wrt:∀j c,j<n→D j→(res.getD j .none).con=some c→h c.n=c.new
structure aHt(ops:Array Oper)(n:Nat)(res:List eY)(s:St)(K0:Ker)(ds:List Deferred)(listed:Array Bool)(a:Act)(w:World):Prop where
 head:HeadInv .any ops n listed
 size:a.tmps.size=s.sl.length
 ex:∃K sl h,K.w=w∧K0.le K∧gC K sl a∧Rel K h∧(∀m,K.live m→K0.live m∨∃i,i<n∧m=s.nx+i∧listed.getD i false=true)∧
  aFX ops n s.sl res (fun j=>listed.getD j false=true) sl∧aKz n s.nx s.h res (fun j=>listed.getD j false=true) h
 defers:a.defers=ds
theorem pC(p q:Nat→Bool)(i:Nat)(hp:p i=true)(hq:q i=false)(hpq:∀x,x≠i→q x=p x):∀l:List Nat,l.Nodup→i∈l→(l.filter p).length=(l.filter q).length+1
 | [],_,h=>by cases h
 |x::l,hnd,h=>by
  rw[List.nodup_cons] at hnd
  have same:∀l:List Nat,i∉l→l.filter q=l.filter p:=by
   intro l
   induction l with
   |nil=>intro _;rfl
   |cons y l ih=>
    intro h
    simp only[List.mem_cons,not_or] at h
    rw[List.filter_cons,List.filter_cons,ih h.2,hpq y (fun e=>h.1 e.symm)]
  by_cases hx:x=i
  ·subst hx
   rw[List.filter_cons,List.filter_cons,hp,hq,same l hnd.1]
   simp
  have hm:i∈l:=by
   rcases List.mem_cons.1 h with h|h
   ·exact absurd h.symm hx
   exact h
  have ih:=pC p q i hp hq hpq l hnd.2 hm
  rw[List.filter_cons,List.filter_cons,hpq x hx]
  cases p x<;>simp[ih]
section
variable{P:Program}{ops:Array Oper}{n:Nat}{w0:Bool}{l:List (aA×List Nat)}{s:St}{res:List eY}{K0:Ker}
theorem yY(hnle:n≤ops.size)(hl:dK P ops n w0 0 (ops.toList.take n)=some l):∀j lo deps,l[j]?=some (lo,deps)→lo.dst=gG ops j∧deps=mF ops n j:=by
 obtain⟨hll,hlg⟩:=gT _ _ _ hl
 intro j lo' deps hj
 have hjn:j<n:=by
  have:=(List.getElem?_eq_some_iff.1 hj).1
  rw[hll] at this
  simp at this
  omega
 have hoj:ops[j]?=some (ops[j]'(by omega)):=Array.getElem?_eq_getElem (by omega)
 obtain⟨lo2,e1,e2⟩:=hlg j (ops[j]'(by omega)) (by rw[List.getElem?_take,if_pos hjn];simp)
 rw[hj,Nat.zero_add] at e1
 injection e1 with e1
 injection e1 with e1 e3
 subst e1
 obtain⟨g,_,e4⟩:=Option.bind_eq_some_iff.1 e2
 obtain⟨l2,_,rfl⟩:=Option.map_eq_some_iff.1 e4
 refine⟨?_,e3⟩
 show(ops[j]'(by omega)).dst=_
 simp[gG,hoj]
theorem aHc(hB:nX ops n l=true)(hl:dK P ops n w0 0 (ops.toList.take n)=some l)(hslots:∀j t,j<n→gG ops j=some t→t<s.sl.length)(ht:aEh P s.h s.nx l s.sl res)
 {ds:List Deferred} {listed:Array Bool} {a:Act} {w:World} (inv:aHt ops n res s K0 ds listed a w) (hlv0:∀m,K0.live m→m<s.nx) (hdom:∀m b,s.h m=some b→m<s.nx) {i:Nat} (hin:i<n) (hi:i∈Region.ready .any ops listed) {Kn:Act→World→Prop} {Q:Exit→Act→World→Prop}
 (hK:∀a' w',aHt ops n res s K0 ds (listed.setIfInBounds i true) a' w'→Kn a' w') {rd:Option Nat} {m:Nat}:wpOpIn (FR rd) m P ops Q i Kn a w:=by
 simp only[nX,Bool.and_eq_true,List.all_eq_true,List.mem_range,Bool.or_eq_true,decide_eq_true_eq] at hB
 obtain⟨⟨⟨⟨hsel,hshape⟩,hseq⟩,hops⟩,hdist⟩:=hB
 have hnle:n≤ops.size:=by rcases hshape with h|⟨⟨h,_⟩,_⟩<;>omega
 obtain⟨hun,o,ho,hall⟩:=mem_ready.1 hi
 obtain⟨hll,hlg⟩:=gT _ _ _ hl
 have hln:l.length=n:=by rw[hll];simp;omega
 have hrn:res.length=n:=by rw[ht.len,hln]
 have hot:(ops.toList.take n)[i]?=some o:=by rw[List.getElem?_take,if_pos hin];simpa using ho
 obtain⟨lo,hlo,hlow⟩:=hlg i o hot
 rw[Nat.zero_add] at hlo
 have hdd:=yY hnle hl
 have hlj:∀j,j<n→∃lo deps,l[j]?=some (lo,deps):=fun j hj=>⟨(l[j]'(by omega)).1,(l[j]'(by omega)).2,List.getElem?_eq_getElem (by omega)⟩
 have hrj:∀j,j<n→res[j]?=some (res.getD j .none):=fun j hj=>by rw[List.getD_eq_getElem?_getD,List.getElem?_eq_getElem (by omega)];rfl
 --what the closed test says of each
 have hopsj:∀j lo deps,l[j]?=some (lo,deps)→(∀t∈lo.nofl.slots,∀q,q<n→gG ops q=some t→q∈deps)∧(∀d∈deps,d<j)∧(∀q lq dq,q<j→l[q]?=some (lq,dq)→bK lo.op deps q lq.op=true):=by
  intro j lo deps hj
  have hjn:j<n:=by have:=(List.getElem?_eq_some_iff.1 hj).1;omega
  have h2:=hops j hjn
  have hoj:ops[j]?=some (ops[j]'(by omega)):=Array.getElem?_eq_getElem (by omega)
  simp only[hoj,hj,Bool.and_eq_true,List.all_eq_true,List.mem_range,Bool.or_eq_true,bne_iff_ne,ne_eq,List.contains_iff_mem,decide_eq_true_eq] at h2
  obtain⟨⟨⟨_,h3⟩,h4⟩,h5⟩:=h2
  refine⟨fun t ht q hq e=>(h3 t ht q hq).resolve_left (fun h=>h e),h4,fun q lq dq hq e=>?_⟩
  have:=h5 q hq
  rw[e] at this
  exact this
 obtain⟨hlook,hdlt,_⟩:=hopsj i _ _ hlo
 have hdis:∀i j t,i<n→j<n→gG ops i=some t→gG ops j=some t→i=j:=fun i j t hi hj e e'=>by
  rcases hdist i hi j hj with h|h
  ·rcases h with h|h
   ·simpa using h
   rw[e] at h;cases h
  rw[e,e'] at h;simp at h
 have hd1:∀j,j<n→listed.getD j false=true→∀d,d∈zd1 ops n j→d<n∧listed.getD d false=true:=by
  intro j hj hlj' d hd
  have hoj:ops[j]?=some (ops[j]'(by omega)):=Array.getElem?_eq_getElem (by omega)
  simp only[zd1,hoj,Option.map_some,Option.getD_some,List.mem_map,List.mem_filter,Bool.and_eq_true,decide_eq_true_eq] at hd
  obtain⟨e,⟨he,hb,hn⟩,rfl⟩:=hd
  exact⟨hn,inv.head.closed j _ hoj hlj' e (Array.mem_toList_iff.1 he) hb⟩
 have hdepsj:∀j,j<n→listed.getD j false=true→∀d,d∈mF ops n j→d<n∧listed.getD d false=true:=by
  intro j hj hlj' d hd
  exact aAL ops n (S:=fun d=>d<n∧listed.getD d false=true) j (fun k hk hS d hd=>hd1 k hS.1 hS.2 d hd) ⟨hj,hlj'⟩ n hj d hd
 have hdepsl:∀d,d∈mF ops n i→d<n∧listed.getD d false=true:=by
  intro d hd
  have h1:∀d,d∈zd1 ops n i→d<n∧listed.getD d false=true:=by
   intro d hd
   simp only[zd1,ho,Option.map_some,Option.getD_some,List.mem_map,List.mem_filter,Bool.and_eq_true,decide_eq_true_eq] at hd
   obtain⟨e,⟨he,hb,hn⟩,rfl⟩:=hd
   exact⟨hn,hall e (Array.mem_toList_iff.1 he) hb⟩
  have hd':=hd
  unfold mF at hd'
  rw[mG ops n n i hin] at hd'
  have h2:=(List.mem_filter.1 hd').2
  simp only[Bool.or_eq_true,List.contains_iff_mem,List.any_eq_true] at h2
  rcases h2 with h2|⟨c,h2,h3⟩
  ·exact h1 d h2
  have hc:=h1 c h2
  by_cases hci:c<i
  ·rw[mG ops n i c hci,←mG ops n n c hc.1] at h3
   exact hdepsj c hc.1 hc.2 d h3
  rw[List.getD_eq_getElem?_getD,List.getElem?_eq_none (by rw[kP];omega)] at h3
  cases h3
 have huni:¬listed.getD i false=true:=fun h=>by rw[getD_both hun] at h;cases h
 obtain⟨K,sl,h,rfl,hle,hsl,hrel,hlive,hsa,hha⟩:=inv.ex
 have htextj:=qU (ops:=ops) (sl0:=s.sl) hln hrn (fun j lo deps hj=>(hdd j lo deps hj).1) hslots hdis
 have htext:=htextj i (by omega)
 have hri:=hrj i hin
 have hok:=ht.ok i _ _ _ hlo hri
 have hslt:∀j,j≤n→∃slt,slt=((l.zip res).take j).foldl (fun sl p=>bF sl p.1.1.dst p.2.v) s.sl:=fun j _=>⟨_,rfl⟩
 --what it looks at is as in the text's order
 have halike:gD (((l.zip res).take i).foldl (fun sl p=>bF sl p.1.1.dst p.2.v) s.sl) sl (lo.widen w0 (oB ops n i)).nofl.slots:=by
  intro u hu
  by_cases hex:∃j,j<n∧gG ops j=some u
  ·obtain⟨j,hj,hju⟩:=hex
   have hdep:j∈mF ops n i:=hlook _ hu j hj hju
   rw[htext.val j u hj (hdlt j hdep) hju,hsa.val j u hj (hdepsl j hdep).2 hju]
  rw[htext.frame u (fun j hj _ e=>hex ⟨j,hj,e⟩),hsa.frame u (fun j hj _ e=>hex ⟨j,hj,e⟩)]
 have hok':=(aDH halike).1 (aFn hok)
 have hfresh:¬K.live (s.nx+i):=by
  intro hl
  rcases hlive _ hl with h|⟨i',hi',e,hl'⟩
  ·have:=hlv0 _ h;omega
  have:i'=i:=by omega
  subst this
  exact huni hl'
 --what is taken is there,and is taken once
 have hcon:∀j,j<n→∀c,(res.getD j .none).con=some c→(∀q,q<j→∀c',(res.getD q .none).con=some c'→c'.n≠c.n)∧((c.n<s.nx∧s.h c.n=some c.old)∨∃d∈mF ops n j,d<j∧c.n=s.nx+d∧(res.getD d .none).add=some c.old):=by
  intro j hj c hc
  obtain⟨loj,dpj,hlj⟩:=hlj j hj
  have hk:=ht.tok j _ _ _ c hlj (hrj j hj) hc
  have hd2:=(hdd j _ _ hlj).2
  obtain⟨h1,h2⟩:=hk
  refine⟨fun q hq c' hc' e=>?_,?_⟩
  ·refine lO.1 h1 c' (List.mem_map.2 ⟨res.getD q .none,?_,hc'⟩) e.symm
   rw[List.getD_eq_getElem?_getD,List.getElem?_eq_getElem (by omega)]
   exact List.mem_take_iff_getElem.2 ⟨q,by omega,rfl⟩
  rcases h2 with h2|⟨d,hd,h3,h4⟩
  ·exact .inl h2
  rw[hd2] at hd
  have hdj:d<j:=(hopsj j _ _ hlj).2.1 d (by rw[hd2];exact hd)
  refine .inr ⟨d,hd,hdj,h3,?_⟩
  simp only[List.getD_eq_getElem?_getD,List.getElem?_map,List.getElem?_take,if_pos hdj] at h4
  rw[hrj d (by omega)] at h4
  exact h4
 have honce:∀j,j<n→listed.getD j false=true→∀c c',(res.getD j .none).con=some c→(res.getD i .none).con=some c'→c.n≠c'.n:=by
  intro j hj hlj' c c' hc hc' e
  rcases Nat.lt_trichotomy j i with h|h|h
  ·exact(hcon i hin c' hc').1 j h c hc e
  ·subst h;exact huni hlj'
  exact(hcon j hj c hc).1 i h c' hc' e.symm
 have hconOK:∀c,(res.getD i .none).con=some c→h c.n=some c.old:=by
  intro c hc
  rcases(hcon i hin c hc).2 with⟨h1,h2⟩|⟨d,h1,h2,h3,h4⟩
  ·rw[hha.old c.n h1 (fun j c' hj hlj' hc'=>honce j hj hlj' c' c hc' hc)];exact h2
  rw[h3,hha.new d (hdepsl d h1).1 (hdepsl d h1).2 (fun j c' hj hlj' hc'=>by rw[←h3];exact honce j hj hlj' c' c hc' hc)]
  exact h4
 --what it looks at in memory is as it was
 have hvis:∀m b,iQ s.h ((res.take i).map (·.con)) m=some b→b.mem=true→((∃es c,b= .mp es c)∨(lo.widen w0 (oB ops n i)).op.touch sl m)→h m=some b:=by
  intro m b hm hmem htc
  obtain⟨h1,h2⟩:=rK hm
  have hlt:=hdom m _ h2
  rw[hha.old m hlt (fun j c hj hlj' hc e=>?_)]
  ·exact h2
  rcases Nat.lt_trichotomy j i with hji|hji|hji
  ·refine lO.1 h1 c (List.mem_map.2 ⟨res.getD j .none,?_,hc⟩) e.symm
   rw[List.getD_eq_getElem?_getD,List.getElem?_eq_getElem (by omega)]
   exact List.mem_take_iff_getElem.2 ⟨j,by omega,rfl⟩
  ·subst hji;exact huni hlj'
  have hold:c.old=b:=by
   rcases(hcon j hj c hc).2 with⟨_,h4⟩|⟨d,_,_,h4,_⟩
   ·rw[e,h2] at h4;injection h4 with h4;exact h4.symm
   omega
  have hnd:i∉mF ops n j:=fun hd=>huni (hdepsj j hj hlj' i hd).2
  obtain⟨loj,dpj,hlj⟩:=hlj j hj
  have hd2:=(hdd j _ _ hlj).2
  have hah:=(hopsj j _ _ hlj).2.2 i _ _ hji hlo
  have hokj:=ht.ok j _ _ _ hlj (hrj j hj)
  have hds:=aHb hokj hc
  have hcnt:dpj.contains i=false:=by
   rw[hd2]
   cases hcc:(mF ops n j).contains i with
   |false=>rfl
   |true=>exact absurd (List.contains_iff_mem.1 hcc) hnd
  rcases aIC hds hc with h5|⟨⟨ak,aes,harr⟩,h5⟩
  ·rw[hold] at h5;rw[h5] at hmem;cases hmem
  replace htc:=htc.resolve_left (by rintro⟨es,cc,rfl⟩;rw[hold] at harr;cases harr)
  rcases h5 with⟨t,x,v,h5⟩|⟨f,args,fl,h5,h6⟩
  ·simp only[bK,hcnt,Bool.false_or,h5,Bool.and_eq_true,Bool.not_eq_true',Option.isNone_iff_eq_none] at hah
   rcases xJ htc with h7|⟨x,_,_,_,h7,_⟩
   ·rw[hah.2] at h7;cases h7
   rw[hah.1] at h7;cases h7
  simp only[bK,hcnt,Bool.false_or,h5,Bool.and_eq_true,Bool.not_eq_true'] at hah
  rcases xJ htc with h7|⟨x,kk,ii,oo,h7,h8⟩
  ·rw[hah.1] at h7;cases h7
  rw[h7] at hah
  simp only[List.any_eq_true] at hah
  obtain⟨_,y,hy,hxy⟩:=hah
  obtain⟨p,rfl,rfl⟩:∃p,x= .slot p∧y= .slot p:=by
   unfold aCL at hxy
   split at hxy
   ·rename_i p q;exact⟨p,rfl,by rw[eq_of_beq hxy]⟩
   cases hxy
  have hps:p∈(lo.widen w0 (oB ops n i)).nofl.slots:=by
   unfold aA.slots
   show p∈_++(lo.widen w0 (oB ops n i)).op.nofl.slots
   rw[LOp.nofl_ld h7,aEZ h7]
   exact List.mem_append.2 (.inr (by simp[aL.slots]))
  have hpj:(((l.zip res).take j).foldl (fun sl p=>bF sl p.1.1.dst p.2.v) s.sl).getD p V.undef=sl.getD p V.undef:=by
   rw[←halike p hps]
   have htj:=htextj j (by omega)
   by_cases hex:∃q,q<n∧gG ops q=some p
   ·obtain⟨q,hq,hqp⟩:=hex
    have hqi:=hdlt q (hlook p hps q hq hqp)
    rw[htj.val q p hq (by omega) hqp,htext.val q p hq hqi hqp]
   rw[htj.frame p (fun q hq _ e=>hex ⟨q,hq,e⟩),htext.frame p (fun q hq _ e=>hex ⟨q,hq,e⟩)]
  have h8':(aL.slot p).ev (((l.zip res).take j).foldl (fun sl p=>bF sl p.1.1.dst p.2.v) s.sl)= .ptr m kk ii oo:=by
   show List.getD _ p V.undef=_
   rw[hpj];exact h8
  exact h6 _ hy m kk ii oo h8' e.symm
 have hils:i<listed.size:=by rw[inv.head.size];exact(Array.getElem?_eq_some_iff.1 ho).1
 have hset:∀j,(listed.setIfInBounds i true).getD j false=true↔j=i∨listed.getD j false=true:=by
  intro j
  by_cases e:j=i
  ·subst e
   simp only[true_or,iff_true,Array.getD_eq_getD_getElem?,Array.getElem?_setIfInBounds_self,hils,if_true,Option.getD_some]
  rw[getD_set_ne false (fun h=>e h.symm)]
  simp[e]
 have hzi:gG ops i=o.dst:=by simp[gG,ho]
 have adv:∀(K':Ker) (cv:Value) (h':Hp),K.le K'→VR K' (res.getD i .none).v cv→Rel K' h'→(∀m,K'.live m→K.live m∨m=s.nx+i)→
  (∀m,m≠s.nx+i→(∀c,(res.getD i .none).con=some c→m≠c.n)→h' m=h m)→h' (s.nx+i)=(res.getD i .none).add→(∀c,(res.getD i .none).con=some c→c.n≠s.nx+i→h' c.n=c.new)→
  aHt ops n res s K0 ds (listed.setIfInBounds i true) (a.put o.dst cv) K'.w:=by
  intro K' cv h' q1 q2 q3 q4 q6 q7 q8
  have hput:(a.put o.dst cv).tmps.size=a.tmps.size:=by cases o.dst<;>simp[Act.put]
  have hputd:(a.put o.dst cv).defers=a.defers:=by cases o.dst<;>rfl
  refine⟨inv.head.set hi hin,by rw[hput];exact inv.size,⟨K',bF sl o.dst (res.getD i .none).v,h',rfl,hle.trans q1,(hsl.mono q1).put q2 o.dst,q3,?_,?_,?_⟩,by rw[hputd];exact inv.defers⟩
  ·intro m hm
   rcases q4 m hm with e2|e2
   ·rcases hlive m e2 with h|⟨i',a1,a2,a3⟩
    ·exact .inl h
    exact .inr ⟨i',a1,a2,(hset i').2 (.inr a3)⟩
   exact .inr ⟨i,hin,e2,(hset i).2 (.inl rfl)⟩
  ·have hts':∀t,o.dst=some t→t<sl.length:=fun t ht=>by rw[hsa.len];exact hslots i t hin (by rw[hzi];exact ht)
   refine⟨?_,fun j t hj hlj' hjt=>?_,fun u hu=>?_⟩
   ·cases o.dst<;>simp[bF,hsa.len]
   ·rw[sF hts']
    by_cases e:j=i
    ·subst e;rw[if_pos (by rw[←hzi];exact hjt)]
    rw[if_neg (fun h=>e (hdis j i t hj hin hjt (by rw[hzi];exact h)))]
    rcases(hset j).1 hlj' with h|h
    ·exact absurd h e
    exact hsa.val j t hj h hjt
   rw[sF hts',if_neg (fun h=>hu i hin ((hset i).2 (.inl rfl)) (by rw[hzi];exact h))]
   exact hsa.frame u fun j hj hlj'=>hu j hj ((hset j).2 (.inr hlj'))
  refine⟨fun m hm hc=>?_,fun i' hi' hl' hc=>?_,fun j c hj hlj' hc=>?_⟩
  ·rw[q6 m (by omega) (fun c hq e=>hc i c hin ((hset i).2 (.inl rfl)) hq e.symm)]
   exact hha.old m hm fun j c hj hlj'=>hc j c hj ((hset j).2 (.inr hlj'))
  ·by_cases e:i'=i
   ·subst e;exact q7
   rw[q6 (s.nx+i') (by omega) (fun c hq e=>hc i c hin ((hset i).2 (.inl rfl)) hq e.symm)]
   rcases(hset i').1 hl' with h|h
   ·exact absurd h e
   exact hha.new i' hi' h fun j c hj hlj'=>hc j c hj ((hset j).2 (.inr hlj'))
  by_cases e:j=i
  ·subst e
   refine q8 c hc fun e=>?_
   rcases(hcon j hj c hc).2 with⟨h1,_⟩|⟨d,_,h2,h3,_⟩<;>omega
  have hlj2:=((hset j).1 hlj').resolve_left e
  have hne:c.n≠s.nx+i:=fun e2=>by
   rcases(hcon j hj c hc).2 with⟨h1,_⟩|⟨d,h1,h2,h3,_⟩
   ·omega
   have:d=i:=by omega
   subst this
   exact huni (hdepsj j hj hlj2 d h1).2
  rw[q6 c.n hne (fun c' hc'=>honce j hj hlj2 c c' hc hc')]
  exact hha.wrt j c hj hlj2 hc
 obtain⟨g,hg,hlow⟩:=Option.bind_eq_some_iff.1 hlow
 obtain⟨l',hl',rfl⟩:=Option.map_eq_some_iff.1 hlow
 have go:(l'.widen w0 (oB ops n i)).nofl.dsem P sl (iQ s.h ((res.take i).map (·.con))) (s.nx+i) (·=res.getD i .none)→o.wpIn (FR rd) m P a K.w Kn Q:=fun hsem=>
  (aKT (nx:=s.nx+n) (by show iN P o=some (l'.widen w0 (oB ops n i)).nofl.base;rw[LOp.nofl_base,LOp.base_widen (aBY hl')];exact hl') hsl.2 hrel hfresh (fun m hm=>by
    rcases hlive m hm with h|⟨i',a1,a2,_⟩
    ·have:=hlv0 m h;omega
    omega) (by omega) (fun m k es h1 h2=>hvis m k es h1 (by rw[LOp.nofl_touch] at h2;exact h2)) hconOK hsem).go rd m Kn Q fun K' cv h' q1 q2 q3 q4 q6 q7 q8=>hK _ _ (adv K' cv h' q1 q2 q3 q4 q6 q7 q8)
 have skip:(⟨V.undef,none,none⟩:eY)=res.getD i .none→Kn (a.put o.dst Go.undef) K.w:=fun hd=>
  hK _ _ (adv K Go.undef h (.refl K) (by rw[←hd];exact .undef K) hrel (fun m hm=> .inl hm) (fun _ _ _=>rfl) (by
   rw[←hd]
   show h (s.nx+i)=none
   cases e:h (s.nx+i) with
   |none=>rfl
   |some b=>exact absurd (hrel.lt _ _ e) hfresh) (fun q hq=>by rw[←hd] at hq;cases hq))
 unfold wpOpIn
 simp only[ho]
 unfold vA at hg
 unfold eZ at hok'
 simp only[aA.widen,aA.nofl] at hok'
 cases hgd:o.guard with
 |none=>
  rw[hgd] at hg
  injection hg with hg
  subst hg
  rw[if_pos (by simp[Region.wanted,hgd])]
  exact(go hok')
 |some p=>
  obtain⟨j,want⟩:=p
  rw[hgd] at hg
  simp only at hg
  cases htg:(ops[j]?).bind (·.dst) with
  |none=>simp[htg] at hg
  |some tg=>
   rw[htg] at hg
   injection hg with hg
   subst hg
   simp only at hok'
   have hvr:=hsl.2 tg
   have hy:yielded ops a.tmps j=match a.tmps.getD tg Go.undef with| .bool b=>some b|_=>none:=by
    unfold yielded
    rw[htg]
    simp only[Option.bind_some,Array.getD_eq_getD_getElem?]
    cases a.tmps[tg]? with
    |none=>rfl
    |some x=>cases x<;>rfl
   by_cases hw:Region.wanted o (yielded ops a.tmps)=true
   ·rw[if_pos hw]
    simp only[Region.wanted,hgd,hy] at hw
    split at hok'
    ·rename_i b hb
     rw[hb] at hvr
     generalize a.tmps.getD tg Go.undef=cv at hvr hw
     cases hvr
     simp at hw
     rw[if_pos hw] at hok'
     exact(go hok')
    ·rename_i vs hb
     exfalso
     rw[hb] at hvr
     generalize a.tmps.getD tg Go.undef=cv at hvr hw
     cases hvr
     simp at hw
    exact hok'.elim
   rw[if_neg hw]
   simp only[Region.wanted,hgd,hy] at hw
   split at hok'
   ·rename_i b hb
    rw[hb] at hvr
    generalize a.tmps.getD tg Go.undef=cv at hvr hw
    cases hvr
    simp at hw
    rw[if_neg (by simpa using hw)] at hok'
    exact⟨fun _ _=>trivial,skip hok'⟩
   ·exact⟨fun _ _=>trivial,skip hok'⟩
   exact hok'.elim
end
end Go.Proofs.YtecepaehmojpgaaGreat
