/-
Texts of this proof,one behind the other. No conditions.
-/
import Derived.Test.YtecepaehmojpgaaGreatKc
import Derived.RangeFuncNested
import Derived.RangeFuncCalls
import Derived.RangeFuncLeaves
set_option linter.unusedSimpArgs false
set_option linter.unusedVariables false
set_option linter.unusedSectionVars false
namespace Go.Proofs.YtecepaehmojpgaaGreat
open Go.RowKit
section
variable{P:Program}{ops:Array Oper}{n:Nat}{w0:Bool}{l:List (aA×List Nat)}{s:St}{res:List eY}{K0:Ker}
theorem oD{rd:Option Nat}{mm:Nat}{md:Region.Mode}{Q':Exit→Act→World→Prop}:∀(l:List Oper) (k:Nat) (listed:Array Bool) (a:Act) (w:World),(∀j,l[j]?=ops[k+j]?)→
 Region.seqB md ops l.length k listed=true→wpListIn (FR rd) mm P ops Q' l a w→wpAnyIn (FR rd) mm P md ops Q' l.length listed a w
 | [],_,_,_,_,_,hB,h=>⟨by simpa [Region.seqB] using hB,h⟩
 |o::l,k,listed,a,w,hl,hB,h=>by
  have h0:ops[k]?=some o:=by simpa using(hl 0).symm
  simp only[List.length_cons,Region.seqB,Bool.and_eq_true,decide_eq_true_eq] at hB
  refine⟨fun h1=>(by rw[hB.1] at h1;cases h1),fun i hi=>?_⟩
  rw[hB.1] at hi
  have hik:i=k:=by simpa using hi
  subst hik
  have hw:wpOpIn (FR rd) mm P ops Q' i (wpListIn (FR rd) mm P ops Q' l) a w:=by unfold wpOpIn;simp only[h0];exact h
  exact wpOpIn_mono (fun a' w' h'=>oD l (i+1) _ a' w' (fun j=>by have:=hl (j+1);simpa [Nat.add_assoc,Nat.add_comm 1 j] using this) hB.2 h') hw
theorem aIq(hB:nX ops n l=true)(hl:dK P ops n w0 0 (ops.toList.take n)=some l)(hslots:∀j t,j<n→gG ops j=some t→t<s.sl.length)(ht:aEh P s.h s.nx l s.sl res)(hlv0:∀m,K0.live m→m<s.nx)(hdom:∀m b,s.h m=some b→m<s.nx)
 {ds:List Deferred} {rd:Option Nat} {mm:Nat} {Q:Exit→Act→World→Prop} (hend:∀listed a w,aHt ops n res s K0 ds listed a w→(∀j,j<n→listed.getD j false=true)→wpListIn (FR rd) mm P ops Q (ops.toList.drop n) a w):
 ∀(f:Nat) (listed:Array Bool) (a:Act) (w:World),f=((List.range n).filter fun i=> !listed.getD i true).length→aHt ops n res s K0 ds listed a w→wpAnyIn (FR rd) mm P .any ops Q (f+(ops.size-n)) listed a w:=by
 have hB':=hB
 simp only[nX,Bool.and_eq_true,List.all_eq_true,List.mem_range,Bool.or_eq_true,decide_eq_true_eq] at hB'
 obtain⟨⟨⟨⟨hsel,hshape⟩,hseq⟩,hops⟩,hdist⟩:=hB'
 have hnle:n≤ops.size:=by rcases hshape with h|⟨⟨h,_⟩,_⟩<;>omega
 intro f
 induction f with
 |zero=>
  intro listed a w hf inv
  have hall:∀i,i<n→listed.getD i true=true:=by
   intro i hi
   have hz:=List.eq_nil_of_length_eq_zero hf.symm
   rw[List.filter_eq_nil_iff] at hz
   have:=hz i (List.mem_range.2 hi)
   simpa using this
  have hallf:∀j,j<n→listed.getD j false=true:=by
   intro j hj
   have:=hall j hj
   have hjs:j<listed.size:=by rw[inv.head.size];omega
   simp only[Array.getD,hjs,dif_pos] at this⊢
   exact this
  have hlist:listed=((List.range ops.size).map (fun i=>decide (i<n))).toArray:=by
   apply Array.ext
   ·simp[inv.head.size]
   intro i h1 h2
   have hi:i<ops.size:=by simpa [inv.head.size] using h1
   by_cases hin:i<n
   ·have:=hall i hin
    rw[Array.getD_eq_getD_getElem?,Array.getElem?_eq_getElem h1] at this
    simpa [hin] using this
   have:=inv.head.tail i (by omega) hi
   rw[Array.getD_eq_getD_getElem?,Array.getElem?_eq_getElem h1] at this
   simpa [hin] using this
  have h:=hend listed a w inv hallf
  have hl:(ops.toList.drop n).length=ops.size-n:=by simp
  rw[Nat.zero_add]
  have:=oD (rd:=rd) (mm:=mm) (P:=P) (md:= .any) (Q':=Q) (ops.toList.drop n) n listed a w (fun j=>by simp[List.getElem?_drop]) (by rw[hl,hlist];exact hseq) h
  rwa [hl] at this
 |succ f ih=>
  intro listed a w hf inv
  have hex:∃i,i<n∧listed.getD i true=false:=by
   have hne:((List.range n).filter fun i=> !listed.getD i true)≠ []:=by intro h;rw[h] at hf;simp at hf
   obtain⟨i,hi⟩:=List.exists_mem_of_ne_nil _ hne
   rw[List.mem_filter,List.mem_range] at hi
   exact⟨i,hi.1,by simpa using hi.2⟩
  obtain⟨i0,hi0,hun0⟩:=hex
  have hhead:∀j∈Region.ready .any ops listed,j<n:=by
   intro j hj
   rcases hshape with h|⟨⟨h,hs⟩,hc⟩
   ·obtain⟨_,o,ho,_⟩:=mem_ready.1 hj
    have:=(Array.getElem?_eq_some_iff.1 ho).1
    omega
   rcases Nat.lt_or_ge j n with h'|h'
   ·exact h'
   exact absurd hj (tail_waits hs hc h inv.head _ i0 rfl hi0 hun0 j h')
  have readyOf:∀k,k<n→listed.getD k true=false→(∀j,j<k→listed.getD j true=true)→k∈Region.ready .any ops listed:=by
   intro k hk hun hlt
   have ho:=hops k hk
   have hok:ops[k]?=some (ops[k]'(by omega)):=Array.getElem?_eq_getElem (by omega)
   rw[hok] at ho
   refine mem_ready.2 ⟨hun,_,hok,fun e he hb=>?_⟩
   cases hlk:l[k]? with
   |none=>simp[hlk] at ho
   |some q=>
    obtain⟨lo,deps⟩:=q
    simp only[hlk,Bool.and_eq_true,List.all_eq_true] at ho
    have h:=ho.1.1.1 e (Array.mem_toList_iff.2 he)
    simp only[hb,Bool.not_true,Bool.false_or,decide_eq_true_eq] at h
    have h2:=hlt e.on h
    have hs:e.on<listed.size:=by rw[inv.head.size];omega
    rw[Array.getD_eq_getD_getElem?,Array.getElem?_eq_getElem hs] at h2⊢
    exact h2
  have hready:Region.ready .any ops listed≠ []:=by
   have least:∀k,k≤i0→(∀j,j<k→listed.getD j true=true)→∃i,i<n∧i∈Region.ready .any ops listed:=by
    intro k hk
    induction hd:i0-k generalizing k with
    |zero=>
     intro hl
     have hki:k=i0:=by omega
     subst hki
     exact⟨k,hi0,readyOf k hi0 hun0 hl⟩
    |succ d ihd=>
     intro hl
     by_cases hu:listed.getD k true=true
     ·exact ihd (k+1) (by omega) (by omega) (fun j hj=>by
       by_cases hjk:j=k
       ·subst hjk;exact hu
       exact hl j (by omega))
     exact⟨k,by omega,readyOf k (by omega) (by simpa using hu) hl⟩
   obtain⟨i,_,hi⟩:=least 0 (by omega) (fun j hj=>by omega)
   intro h
   rw[h] at hi
   cases hi
  rw[show f+1+(ops.size-n)=(f+(ops.size-n))+1 by omega]
  refine⟨fun h=>absurd h hready,fun i hi=>?_⟩
  have hin:=hhead i hi
  obtain⟨hun,o,ho,_⟩:=mem_ready.1 hi
  refine aHc hB hl hslots ht inv hlv0 hdom hin hi fun a' w' inv'=>ih _ a' w' ?_ inv'
  have hils:i<listed.size:=by rw[inv.head.size];exact(Array.getElem?_eq_some_iff.1 ho).1
  have:=pC (fun x=> !listed.getD x true) (fun x=> !(listed.setIfInBounds i true).getD x true) i (by simpa using hun) (by simp[Array.getD,hils]) (fun x hx=>by rw[getD_set_ne true (fun e=>hx e.symm)]) (List.range n) List.nodup_range (List.mem_range.2 hin)
  omega
end
theorem tS{P:Program}{ops:Array Oper}{K0:Ker}{nx0:Nat}{Q:Exit→Act→World→Prop}{Qs:St→Prop}(hQ:∀K s a,kO K0 K nx0 s a→Qs s→Q .normal a K.w){rd:Option Nat}{mm:Nat}:
 ∀(l:List Oper) (ls:List aA) (k:Nat),cS P ops l=some ls→(∀j,l[j]?=ops[k+j]?)→∀(K:Ker) (s:St) (a:Act),kO K0 K nx0 s a→aV P ls Qs s→wpListIn (FR rd) mm P ops Q l a K.w
 | [],ls,k,hl,hi,K,s,a,hr,h=>by
  simp[cS] at hl
  subst hl
  exact hQ K s a hr h
 |o::l,ls,k,hl,hi,K,s,a,hr,h=>by
  unfold cS at hl
  obtain⟨lo,h1,hl⟩:=Option.bind_eq_some_iff.1 hl
  obtain⟨lr,h2,rfl⟩:=Option.map_eq_some_iff.1 hl
  have h0:ops[k]?=some o:=by simpa using(hi 0).symm
  have hw:wpOpIn (FR rd) mm P ops Q k (wpListIn (FR rd) mm P ops Q l) a K.w:=by
   refine rD h0 h1 hr (aV P lr Qs) (fun K' s' a' hr' hq=>tS hQ l lr (k+1) h2 (fun j=>by have:=hi (j+1);simpa [Nat.add_assoc,Nat.add_comm 1 j] using this) K' s' a' hr' hq) ?_
   unfold aV at h
   exact h
  unfold wpOpIn at hw
  simp only[h0] at hw
  exact hw
theorem tR:∀(cons:List (Option Con)) (h:Hp) (m:Nat) (b:Blk),xD h cons m=some b→(∃c,some c∈cons∧c.n=m∧c.new=some b)∨((∀c,some c∈cons→c.n≠m)∧h m=some b)
 | [],h,m,b,e=> .inr ⟨by simp,e⟩
 |none::r,h,m,b,e=>by
  rcases tR r h m b e with⟨c,h1,h2⟩|⟨h1,h2⟩
  ·exact .inl ⟨c,by simp[h1],h2⟩
  exact .inr ⟨fun c hc=>h1 c (by simpa using hc),h2⟩
 |some c0::r,h,m,b,e=>by
  rcases tR r (h.turn (some c0)) m b e with⟨c,h1,h2⟩|⟨h1,h2⟩
  ·exact .inl ⟨c,by simp[h1],h2⟩
  by_cases hm:m=c0.n
  ·subst hm
   refine .inl ⟨c0,by simp,rfl,?_⟩
   unfold Hp.turn at h2
   cases hn:c0.new with
   |none=>simp[hn,Hp.del] at h2
   |some b'=>simpa [hn,Hp.set] using h2
  refine .inr ⟨fun c hc=>?_,?_⟩
  ·rcases List.mem_cons.1 hc with e1|e1
   ·injection e1 with e1;subst e1;exact fun e=>hm e.symm
   exact h1 c e1
  unfold Hp.turn at h2
  cases hn:c0.new with
  |none=>simpa [hn,Hp.del,hm] using h2
  |some b'=>simpa [hn,Hp.set,hm] using h2
theorem rR:∀(adds:List (Option Blk)) (h:Hp) (a m:Nat) (b:Blk),nZ h a adds m=some b→(∃i,m=a+i∧adds.getD i none=some b)∨h m=some b
 | [],h,a,m,b,e=> .inr e
 |none::r,h,a,m,b,e=>by
  rcases rR r h (a+1) m b e with⟨i,e1,e2⟩|h1
  ·exact .inl ⟨i+1,by omega,by simpa using e2⟩
  exact .inr h1
 |some c::r,h,a,m,b,e=>by
  rcases rR r (h.set a c) (a+1) m b e with⟨i,e1,e2⟩|h1
  ·exact .inl ⟨i+1,by omega,by simpa using e2⟩
  unfold Hp.set at h1
  split at h1
  ·rename_i hm;exact .inl ⟨0,by omega,by simpa using h1⟩
  exact .inr h1
theorem aFi{P:Program}{id:Nat}{ops:Array Oper}{n:Nat}{w0:Bool}{l:List (aA×List Nat)}{tl:List aA}(hm:P.follows .mixedOrders=true)(hB:nX ops n l=true)(hl:dK P ops n w0 0 (ops.toList.take n)=some l)(htl:cS P ops (ops.toList.drop n)=some tl)
 {K0 K:Ker} {nx0:Nat} {s:St} {a:Act} (hr:kO K0 K nx0 s a) {Q:Exit→Act→World→Prop} {Qs:St→Prop} (hQ:∀K s a,kO K0 K nx0 s a→Qs s→Q .normal a K.w)
 (hslots:(l.all fun p=>match p.1.dst with|some d=>decide (d<s.sl.length)|none=>true)=true)
 (h:dA P s.h s.nx l s.sl [] [] fun sl adds cons=>aV P tl Qs ⟨sl,xD (nZ s.h s.nx adds) cons,s.nx+n⟩) {rd:Option Nat} {mm:Nat}:(Code.region id ops true).wpIn (FR rd) mm P Q a K.w:=by
 obtain⟨res,ht,hfin⟩:=zK [] l s.sl [] ⟨rfl,fun i o deps d hi=>by simp at hi,fun i o deps d n hi=>by simp at hi⟩ (by simpa using h)
 simp only[List.nil_append] at ht hfin
 have hB':=hB
 simp only[nX,Bool.and_eq_true,List.all_eq_true,List.mem_range,Bool.or_eq_true,decide_eq_true_eq] at hB'
 obtain⟨⟨⟨⟨hsel,hshape⟩,hseq⟩,hops⟩,hdist⟩:=hB'
 have hnle:n≤ops.size:=by rcases hshape with h|⟨⟨h,_⟩,_⟩<;>omega
 obtain⟨hll,hlg⟩:=gT _ _ _ hl
 have hln:l.length=n:=by rw[hll];simp;omega
 have hrn:res.length=n:=by rw[ht.len,hln]
 have hdis:∀i j t,i<n→j<n→gG ops i=some t→gG ops j=some t→i=j:=fun i j t hi hj e e'=>by
  rcases hdist i hi j hj with h|h
  ·rcases h with h|h
   ·simpa using h
   rw[e] at h;cases h
  rw[e,e'] at h;simp at h
 have hldst:∀j lo deps,l[j]?=some (lo,deps)→lo.dst=gG ops j:=fun j lo deps hj=>(yY hnle hl j lo deps hj).1
 have hsl:∀j t,j<n→gG ops j=some t→t<s.sl.length:=by
  intro j t hj hjt
  have hlj:l[j]?=some (l[j]'(by omega)):=List.getElem?_eq_getElem (by omega)
  have h1:=hldst j (l[j]'(by omega)).1 (l[j]'(by omega)).2 hlj
  have h2:=List.all_eq_true.1 hslots (l[j]'(by omega)) (List.getElem_mem _)
  rw[h1,hjt] at h2
  simpa using h2
 refine wpIn_region_any hm ?_
 have hdr:=K.le_drew
 have inv:aHt ops n res s K.drew a.defers (Array.replicate ops.size false) a K.drew.w:=by
  refine⟨⟨by simp,fun j oj _ hl=>(by rw[getD_replicate_false] at hl;cases hl),fun t _ ht=>getD_in (by simpa using ht) (getD_replicate_false _ _)⟩,hr.slots.1.symm,⟨K.drew,s.sl,s.h,rfl, .refl _,hr.slots.mono hdr,hr.rel.drew,fun m hm=> .inl hm,?_,?_⟩,rfl⟩
  ·exact⟨rfl,(fun j t _ hl=>by rw[getD_replicate_false] at hl;cases hl),fun t _=>rfl⟩
  exact⟨fun m _ _=>rfl,(fun i _ hl=>by rw[getD_replicate_false] at hl;cases hl),(fun j c _ hl=>by rw[getD_replicate_false] at hl;cases hl)⟩
 have h:=aIq (rd:=rd) (mm:=mm) (Q:=Q) hB hl hsl ht (K0:=K.drew) (fun m hm=>(hr.live m hm).1) (fun m b hm=>(hr.live m (hr.rel.lt m b hm)).1) ?_ n (Array.replicate ops.size false) a K.drew.w ?_ inv
 ·rw[show n+(ops.size-n)=ops.size by omega] at h
  exact h
 ·--behind the head
  intro listed a' w' inv' hall
  obtain⟨K',sl,hh,rfl,hle,hsl',hrel,hlive,hsa,hha⟩:=inv'.ex
  have htext:=qU (ops:=ops) (sl0:=s.sl) hln hrn hldst hsl hdis n (Nat.le_refl _)
  have hzl:(l.zip res).length=n:=by simp[hln,hrn]
  rw[List.take_of_length_le (by omega)] at htext
  have hslEq:sl=(l.zip res).foldl (fun sl p=>bF sl p.1.1.dst p.2.v) s.sl:=by
   have hlen:sl.length=((l.zip res).foldl (fun sl p=>bF sl p.1.1.dst p.2.v) s.sl).length:=by rw[hsa.len,htext.len]
   apply List.ext_getElem hlen
   intro t h1 h2
   have:sl.getD t V.undef=((l.zip res).foldl (fun sl p=>bF sl p.1.1.dst p.2.v) s.sl).getD t V.undef:=by
    by_cases hex:∃j,j<n∧gG ops j=some t
    ·obtain⟨j,hj,hjt⟩:=hex
     rw[hsa.val j t hj (hall j hj) hjt,htext.val j t hj hj hjt]
    rw[hsa.frame t (fun j hj _ e=>hex ⟨j,hj,e⟩),htext.frame t (fun j hj _ e=>hex ⟨j,hj,e⟩)]
   rw[List.getD_eq_getElem?_getD,List.getD_eq_getElem?_getD,List.getElem?_eq_getElem h1,List.getElem?_eq_getElem h2] at this
   exact this
  have hdomS:∀m b,s.h m=some b→m<s.nx:=fun m b hm=>(hr.live m (hr.rel.lt m b hm)).1
  have hmemc:∀c,some c∈res.map (·.con)↔∃j,j<n∧(res.getD j .none).con=some c:=by
   intro c
   constructor
   ·intro hc
    obtain⟨d,hd,hdc⟩:=List.mem_map.1 hc
    obtain⟨j,hj,rfl⟩:=List.getElem_of_mem hd
    refine⟨j,by omega,?_⟩
    rw[List.getD_eq_getElem?_getD,List.getElem?_eq_getElem hj]
    exact hdc
   rintro⟨j,hj,hc⟩
   refine List.mem_map.2 ⟨res.getD j .none,?_,hc⟩
   rw[List.getD_eq_getElem?_getD,List.getElem?_eq_getElem (by omega)]
   exact List.getElem_mem _
  have hhp:(xD (nZ s.h s.nx (res.map (·.add))) (res.map (·.con))).le hh:=by
   intro m b hm
   rcases tR _ _ _ _ hm with⟨c,hc,rfl,hnew⟩|⟨hnc,hm⟩
   ·obtain⟨j,hj,hjc⟩:=(hmemc c).1 hc
    rw[hha.wrt j c hj (hall j hj) hjc]
    exact hnew
   have hno:∀j c,j<n→listed.getD j false=true→(res.getD j .none).con=some c→c.n≠m:=fun j c hj _ hc=>hnc c ((hmemc c).2 ⟨j,hj,hc⟩)
   rcases rR _ _ _ _ _ hm with⟨i,rfl,h3⟩|h3
   ·have hidx:i<n:=by
     rcases Nat.lt_or_ge i n with h|h
     ·exact h
     rw[List.getD_eq_getElem?_getD,List.getElem?_eq_none (by simp[hrn];exact h)] at h3
     cases h3
    rw[hha.new i hidx (hall _ hidx) hno]
    simp only[List.getD_eq_getElem?_getD,List.getElem?_map] at h3⊢
    rw[List.getElem?_eq_getElem (by omega)] at h3⊢
    exact h3
   rw[hha.old m (hdomS m b h3) hno];exact h3
  refine tS hQ (ops.toList.drop n) tl n htl (fun j=>by simp[List.getElem?_drop]) K' ⟨_,_,s.nx+n⟩ a' ⟨hr.le.trans (hdr.trans hle),?_,hrel.weaken hhp,?_,?_,(by show pH _ _ a'.defers;rw[inv'.defers];exact hr.defers.kept (hdr.trans hle).below)⟩ hfin
  ·show gC K' _ a'
   rw[←hslEq]
   exact hsl'
  ·intro m hm
   show m<s.nx+n∧_
   rcases hlive m hm with e2|⟨i,hi,e3,_⟩
   ·have:=hr.live m e2
    exact⟨by omega,this.2⟩
   exact⟨by omega, .inr (by have:=hr.nx;omega)⟩
  show nx0≤s.nx+n
  have:=hr.nx;omega
 have e:(List.range n).filter (fun i=> !(Array.replicate ops.size false).getD i true)=List.range n:=by
  rw[List.filter_eq_self]
  intro x hx
  have:x<ops.size:=by have:=List.mem_range.1 hx;omega
  simp[Array.getD,this]
 rw[e];simp
section
variable{F:Fence}{n:Nat}{P:Program}
def kE(fn:FuncId)(tmps:Array Value)(ps:Array Tmp)(assign body:Code)(D:Nat)(st:LoopState)(pe:Option Code):Loop:=
 {state:=st,pending:=pe,fn,tmps,params:=ps,assign,body,defers:=D}
theorem aAi{g:Operand}{ps:Array Tmp}{assign body:Code}{Q:Exit→Act→World→Prop}{a:Act}{w:World}
 (hro:F.round=none) (h1:F.depth.isSome=true→1≤n) {gf:Nat} {lb:Array Value} (hg:a.eval g= .func (.func gf) #[] lb) (hFg:F.fn gf) (eg:∀args w,(callFunc gf args).run P w= .ok (.enter gf args) w)
 (h:∀fn,F.fn fn→CallsIn F (n-1) P gf (#[.func (.yield (w.heap.size+1)) #[] #[]]++lb)
   ((w.alloc (.deferred (some []))).alloc (.loop (kE fn a.tmps ps assign body w.heap.size .ready none))) fun e W2=>(∃v,e= .returned v)∧
   ((W2.heap[w.heap.size+1]?=some (.loop (kE fn a.tmps ps assign body w.heap.size .ready none))∧
      Q .normal {a with defers:={target:= .collected w.heap.size,args:=#[]}::a.defers} (W2.putObj (w.heap.size+1) (.loop (kE fn a.tmps ps assign body w.heap.size .exhausted none))))∨
    (∃c,W2.heap[w.heap.size+1]?=some (.loop (kE fn a.tmps ps assign body w.heap.size .done (some c)))∧
      c.wpIn F n P Q {a with defers:={target:= .collected w.heap.size,args:=#[]}::a.defers} (W2.putObj (w.heap.size+1) (.loop (kE fn a.tmps ps assign body w.heap.size .exhausted (some c))))))):
 (Code.rangeFunc g ps assign body).wpIn F n P Q a w:=by
 refine wpIn_rangeFunc ?_
 intro fn hfn
 rw[hro]
 let W1:=(w.alloc (.deferred (some []))).alloc (.loop (kE fn a.tmps ps assign body w.heap.size .ready none))
 refine⟨w.heap.size+1,[{target:= .collected w.heap.size,args:=#[]}],W1,{target:= .fn (.func gf) lb,args:=#[.func (.yield (w.heap.size+1)) #[] #[]]},W1,gf,
  #[.func (.yield (w.heap.size+1)) #[] #[]]++lb,W1,run_enterLoop_outer _ _ _ _ _,?_,?_,?_,h1,?_⟩
 ·simp only[resolve,hg]
  simp[go_sem]
 ·intro f' hf';simp[Target.leads] at hf';subst hf';exact hFg
 ·simp[invoke,go_sem,eg]
 refine(h fn hfn).mono ?_
 rintro e W2 ⟨⟨v,rfl⟩,(⟨hl,hq⟩|⟨c,hl,hq⟩)⟩
 ·exact⟨none,_,by have:=run_endLoop (P:=P) hl (by simp[kE]);exact this,hq⟩
 exact⟨some c,_,by have:=run_endLoop (P:=P) hl (by simp[kE]);exact this,hq⟩
def aEA(l:Nat)(rcd:LoopState→Option Code→Obj)(R:Ending→World→Prop):Exit→Act→World→Prop
 | .normal,_,W=>W.heap[l]?=some (rcd .busy none)∧R (.returned (.bool true)) (W.putObj l (rcd .ready none))
 | .ret,_,W=>W.heap[l]?=some (rcd .busy none)∧R (.returned (.bool false)) (W.putObj l (rcd .done (some .ret)))
 | .exit id,_,W=>W.heap[l]?=some (rcd .busy none)∧R (.returned (.bool false)) (W.putObj l (rcd .done (some (.exit id))))
 |_,_,_=>False
theorem aCz{l:Nat}{fn:FuncId}{tmps:Array Value}{ps:Array Tmp}{assign body:Code}{D:Nat}{args:Array Value}{W:World}{R:Ending→World→Prop}{m:Nat}
 (hF:F.fn fn) (hl:W.heap[l]?=some (.loop (kE fn tmps ps assign body D .ready none))) (hsz:args.size=ps.size)
 (h:assign.wpIn (F.inRound l) m P (Exit.then (fun a₁ W₁=>W₁.heap[l]?=some (.loop (kE fn tmps ps assign body D .ready none))∧
   body.wpIn (F.inRound l) m P (aEA l (fun st pe=> .loop (kE fn tmps ps assign body D st pe)) R) a₁ (W₁.putObj l (.loop (kE fn tmps ps assign body D .busy none)))) (fun _ _ _=>False))
   {tmps:=(ps.zip args).foldl (fun t (p,v)=>t.setIfInBounds p v) tmps,defers:=[]} W):
 YieldAt F m P l args W R:=by
 refine⟨fn,_,assign,body,run_yield (P:=P) (args:=args) hl hsz,roundIn_of_wpIn hF ?_⟩
 refine wpIn_mono h ?_
 rintro e a₁ W₁ he
 cases e with
 |normal=>
  obtain⟨hl1,hb⟩:=he
  refine⟨_,run_beginRound hl1 rfl,?_⟩
  refine wpIn_mono hb ?_
  rintro e a₂ W₂ he
  cases e with
  |normal=>exact⟨_,_,run_endRound none he.1,he.2⟩
  |ret=>exact⟨_,_,run_endRound (some .ret) he.1,he.2⟩
  |exit id=>exact⟨_,_,run_endRound (some (.exit id)) he.1,he.2⟩
  |goto t=>exact he.elim
  |panic ch=>exact he.elim
  |outgrown=>exact he.elim
 |exit id=>exact he.elim
 |goto t=>exact he.elim
 |ret=>exact he.elim
 |panic ch=>exact he.elim
 |outgrown=>exact he.elim
end
def Ker.more(K:Ker)(o:Obj):Ker:={K with w:=K.w.alloc o}
theorem Ker.le_more(K:Ker)(o:Obj):K.le (K.more o) where
 live _ h:=h
 mu _ _:=rfl
 tp _ _:=rfl
 fro:=rfl
 imm _ _:=Nat.le_refl _
 cell b o' hlt _:=iR (eM _ _ _ hlt)
 shape b hlt:=lX (eM _ _ _ hlt)
 below:=nA.alloc _ o
theorem Rel.more{K:Ker}{h:Hp}(r:Rel K h)(o:Obj):Rel (K.more o) h:=r.keep (K.le_more o) fun _ b e=>⟨eM _ _ _ (r.blk _ b e).lt_size,rfl⟩
theorem BR.objAt{K:Ker}{n:Nat}{o:Obj}{U:Ker→Prop}(r:BR K n (.obj o U)):K.w.heap[K.mu n]?=some o∧iB o=true∧U K∧∀A B:Ker,A.leV B→U A→U B:=by
 cases r with
 |obj _ _ hh ho hu hU=>exact⟨hh,ho,hu,hU⟩
theorem Rel.setObj{K:Ker}{h:Hp}(r:Rel K h){n:Nat}{o o0:Obj}{U:Ker→Prop}(hn:h n=some (.obj o0 U))(ho:iB o=true):K.le (K.obj (K.mu n) o)∧Rel (K.obj (K.mu n) o) (h.set n (.obj o U)):=by
 obtain⟨h1,h2,h3,h4⟩:=(r.blk n _ hn).objAt
 have hle:=K.le_obj h1 (iK h2) (iK ho) (r.base n _ hn) (lQ h1 h2)
 exact r.putBlk hn h1 h2 ho (.obj o U (World.putObj_heap_same (Array.getElem?_eq_some_iff.1 h1).1) ho (h4 _ _ hle.toV h3) h4)
theorem aFo(h:Hp)(n:Nat)(b:Blk):(h.del n).le (h.set n b):=fun m c e=>by
 unfold Hp.del at e
 split at e
 ·cases e
 rename_i hm;unfold Hp.set;rw[if_neg hm];exact e
def putAll(sl:List V):List Nat→List V→List V
 |p::ps,v::vs=>putAll (sl.set p v) ps vs
 |_,_=>sl
theorem gC.monoV{K K':Ker}(h:K.leV K'){sl:List V}{a:Act}(r:gC K sl a):gC K' sl a:=⟨r.1,fun t=>(r.2 t).monoV h⟩
theorem gC.putAll{K:Ker}{ds:List Deferred}:∀(ps:List Nat) (args:List V) (cargs:List Value) (sl:List V) (tm:Array Value),gC K sl ⟨tm,ds⟩→args.length=cargs.length→(∀i,i<args.length→VR K (args.getD i V.undef) (cargs.getD i Go.undef))→
 gC K (putAll sl ps args) ⟨(ps.zip cargs).foldl (fun t p=>t.setIfInBounds p.1 p.2) tm,ds⟩
 | [],args,cargs,sl,tm,hs,_,_=>by cases args<;>simpa [Go.Proofs.YtecepaehmojpgaaGreat.putAll] using hs
 |p::ps,[],cargs,sl,tm,hs,hl,_=>by
  have:cargs=[]:=by cases cargs with
   |nil=>rfl
   |cons=>simp at hl
  subst this
  simpa [Go.Proofs.YtecepaehmojpgaaGreat.putAll] using hs
 |p::ps,v::vs,[],sl,tm,hs,hl,_=>by simp at hl
 |p::ps,v::vs,cv::cvs,sl,tm,hs,hl,hv=>by
  have h1:gC K (sl.set p v) ⟨tm.setIfInBounds p cv,ds⟩:=hs.put (dst:=some p) (by simpa using hv 0 (by simp))
  have:=gC.putAll ps vs cvs (sl.set p v) (tm.setIfInBounds p cv) h1 (by simpa using hl) (fun i hi=>by simpa using hv (i+1) (by simpa using hi))
  simpa [Go.Proofs.YtecepaehmojpgaaGreat.putAll] using this
def rX:List Nat→World→World
 | [],w=>w
 |D::Ds,w=>rX Ds (w.putObj D (.deferred none))
theorem nL{P:Program}{fn:Func}{tmps:Array Value}{R:Ending→World→Prop}:∀(Ds:List Nat) (w:World),Ds.Nodup→(∀D∈Ds,fZ w D)→(∃v,(results fn tmps).run P (rX Ds w)= .ok v (rX Ds w)∧R (.returned v) (rX Ds w))→
 LeavesInM Fence.wide 4 P fn tmps R (Ds.map fun D=>{target:= .collected D,args:=#[]}) .returning w
 | [],w,_,_,h=>h
 |D::Ds,w,hnd,hm,h=>by
  have hnd':=List.nodup_cons.1 hnd
  refine⟨by simp, .inl ⟨D,_,rfl,run_takeDeferred (hm D (by simp)),?_⟩⟩
  refine nL Ds _ hnd'.2 (fun E hE=>?_) h
  have hne:E≠D:=fun e=>hnd'.1 (e▸hE)
  exact(World.putObj_heap_other hne).trans (hm E (by simp[hE]))
theorem xL{K:Ker}:∀(Ds:List Nat) (w:World) (K1:Ker),K1.w=w→(∀D∈Ds,fZ w D)→Ds.Nodup→K.le K1→(∀D∈Ds,K.w.heap.size≤D)→(∀b,K.fro b→b<K.w.heap.size)→∀{h:Hp},Rel K1 h→
 ∃K2,K2.w=rX Ds w∧K1.leV K2∧K.le K2∧Rel K2 h∧K2.live=K1.live
 | [],w,K1,hw,_,_,hle,_,_,h,hr=>⟨K1,hw, .refl _,hle,hr,rfl⟩
 |D::Ds,w,K1,hw,hm,hnd,hle,hB,hF,h,hr=>by
  subst hw
  have hnd':=List.nodup_cons.1 hnd
  have hmD:=hm D (by simp)
  have hBD:=hB D (by simp)
  have hV:=K1.leV_obj (o:= .deferred none) hmD rfl rfl
  have hle':K.le (K1.obj D (.deferred none)):=by
   refine⟨fun n hn=>hle.live n hn,hle.mu,hle.tp,hle.fro,hle.imm,fun b o hb hst=>(hV.cell b o (Nat.lt_of_lt_of_le hb hle.below.size) (hle.still hb hst)).trans (hle.cell b o hb hst),fun b hb=>(hV.shape b (Nat.lt_of_lt_of_le hb hle.below.size)).trans (hle.shape b hb),?_⟩
   exact⟨hle.below.os,hle.below.tape,hle.below.output,hle.below.drawn,Nat.le_trans hle.below.size hV.size,fun b hb hk=>(World.putObj_heap_other (by omega)).trans (hle.below.block b hb hk)⟩
  have hr':Rel (K1.obj D (.deferred none)) h:=hr.keepV hV fun n b e=>by
   refine⟨World.putObj_heap_other ?_,rfl⟩
   intro e2
   have hb:=hr.blk n b e
   unfold fZ at hmD
   rw[←e2] at hmD
   cases hb with
   |arr k es c T hh=>rw[hh] at hmD;cases hmD
   |tip c T hh=>rw[hh] at hmD;cases hmD
   |obj o U hh ho=>rw[hh] at hmD;injection hmD with hmD;subst hmD;cases ho
   |mp es c ces hh=>rw[hh] at hmD;cases hmD
   |mit m since seen last hh=>rw[hh] at hmD;cases hmD
  obtain⟨K2,q1,q2,q3,q4,q5⟩:=xL (K:=K) Ds _ (K1.obj D (.deferred none)) rfl (fun E hE=>by
   have hne:E≠D:=fun e=>hnd'.1 (e▸hE)
   exact(World.putObj_heap_other hne).trans (hm E (by simp[hE]))) hnd'.2 hle' (fun E hE=>hB E (by simp[hE])) hF hr'
  exact⟨K2,q1,hV.trans q2,q3,q4,q5⟩
def sW(ops:Array Oper)(n:Nat)(l:List (aA×List Nat)):Bool:=
 Region.noSelect ops&&(decide (n=ops.size)||(decide (n<ops.size)&&Region.sinkB .any ops n&&Region.chainB .any ops n))&&
 Region.seqB .any ops (ops.size-n) n ((List.range ops.size).map (fun i=>decide (i<n))).toArray&&
 (List.range n).all (fun i=>match ops[i]?,l[i]? with
   |some o,some (lo,deps)=>(o.after.toList.all fun e=> !Region.binds .any e||decide (e.on<i))&&(lo.nofl.slots.all fun t=>(List.range n).all fun j=>gG ops j != some t||deps.contains j)&&deps.all (fun d=>decide (d<i))
   |_,_=>false)&&
 (List.range n).all (fun i=>(List.range n).all fun j=>i==j||(gG ops i).isNone||gG ops i != gG ops j)
theorem aIr{ops:Array Oper}{n:Nat}{l:List (aA×List Nat)}(h:nX ops n l=true):sW ops n l=true:=by
 unfold nX at h
 unfold sW
 simp only[Bool.and_eq_true,List.all_eq_true] at h⊢
 obtain⟨⟨⟨⟨a,b⟩,c⟩,d⟩,e⟩:=h
 refine⟨⟨⟨⟨a,b⟩,c⟩,fun i hi=>?_⟩,e⟩
 have:=d i hi
 cases h1:ops[i]? with
 |none=>simp[h1] at this
 |some o=>
  cases h2:l[i]? with
  |none=>simp[h1,h2] at this
  |some p=>
   simp only[h1,h2,Bool.and_eq_true] at this⊢
   exact this.1
theorem aIp{P:Program}{ops:Array Oper}{n:Nat}{l:List (aA×List Nat)}(hB:sW ops n l=true){rd:Option Nat}{mm:Nat}{Q:Exit→Act→World→Prop}(Iv:Array Bool→Act→World→Prop)(hhd:∀listed a w,Iv listed a w→HeadInv .any ops n listed)
 (hstep:∀listed a w i (Kn:Act→World→Prop),Iv listed a w→i<n→i∈Region.ready .any ops listed→(∀a' w',Iv (listed.setIfInBounds i true) a' w'→Kn a' w')→wpOpIn (FR rd) mm P ops Q i Kn a w)
 (hend:∀listed a w,Iv listed a w→(∀j,j<n→listed.getD j false=true)→wpListIn (FR rd) mm P ops Q (ops.toList.drop n) a w):
 ∀(f:Nat) (listed:Array Bool) (a:Act) (w:World),f=((List.range n).filter fun i=> !listed.getD i true).length→Iv listed a w→wpAnyIn (FR rd) mm P .any ops Q (f+(ops.size-n)) listed a w:=by
 have hB':=hB
 simp only[sW,Bool.and_eq_true,List.all_eq_true,List.mem_range,Bool.or_eq_true,decide_eq_true_eq] at hB'
 obtain⟨⟨⟨⟨hsel,hshape⟩,hseq⟩,hops⟩,hdist⟩:=hB'
 have hnle:n≤ops.size:=by rcases hshape with h|⟨⟨h,_⟩,_⟩<;>omega
 intro f
 induction f with
 |zero=>
  intro listed a w hf inv
  have hall:∀i,i<n→listed.getD i true=true:=by
   intro i hi
   have hz:=List.eq_nil_of_length_eq_zero hf.symm
   rw[List.filter_eq_nil_iff] at hz
   have:=hz i (List.mem_range.2 hi)
   simpa using this
  have hallf:∀j,j<n→listed.getD j false=true:=by
   intro j hj
   have:=hall j hj
   have hjs:j<listed.size:=by rw[(hhd _ _ _ inv).size];omega
   simp only[Array.getD,hjs,dif_pos] at this⊢
   exact this
  have hlist:listed=((List.range ops.size).map (fun i=>decide (i<n))).toArray:=by
   apply Array.ext
   ·simp[(hhd _ _ _ inv).size]
   intro i h1 h2
   have hi:i<ops.size:=by simpa [(hhd _ _ _ inv).size] using h1
   by_cases hin:i<n
   ·have:=hall i hin
    rw[Array.getD_eq_getD_getElem?,Array.getElem?_eq_getElem h1] at this
    simpa [hin] using this
   have:=(hhd _ _ _ inv).tail i (by omega) hi
   rw[Array.getD_eq_getD_getElem?,Array.getElem?_eq_getElem h1] at this
   simpa [hin] using this
  have h:=hend listed a w inv hallf
  have hl:(ops.toList.drop n).length=ops.size-n:=by simp
  rw[Nat.zero_add]
  have:=oD (rd:=rd) (mm:=mm) (P:=P) (md:= .any) (Q':=Q) (ops.toList.drop n) n listed a w (fun j=>by simp[List.getElem?_drop]) (by rw[hl,hlist];exact hseq) h
  rwa [hl] at this
 |succ f ih=>
  intro listed a w hf inv
  have hex:∃i,i<n∧listed.getD i true=false:=by
   have hne:((List.range n).filter fun i=> !listed.getD i true)≠ []:=by intro h;rw[h] at hf;simp at hf
   obtain⟨i,hi⟩:=List.exists_mem_of_ne_nil _ hne
   rw[List.mem_filter,List.mem_range] at hi
   exact⟨i,hi.1,by simpa using hi.2⟩
  obtain⟨i0,hi0,hun0⟩:=hex
  have hhead:∀j∈Region.ready .any ops listed,j<n:=by
   intro j hj
   rcases hshape with h|⟨⟨h,hs⟩,hc⟩
   ·obtain⟨_,o,ho,_⟩:=mem_ready.1 hj
    have:=(Array.getElem?_eq_some_iff.1 ho).1
    omega
   rcases Nat.lt_or_ge j n with h'|h'
   ·exact h'
   exact absurd hj (tail_waits hs hc h (hhd _ _ _ inv) _ i0 rfl hi0 hun0 j h')
  have readyOf:∀k,k<n→listed.getD k true=false→(∀j,j<k→listed.getD j true=true)→k∈Region.ready .any ops listed:=by
   intro k hk hun hlt
   have ho:=hops k hk
   have hok:ops[k]?=some (ops[k]'(by omega)):=Array.getElem?_eq_getElem (by omega)
   rw[hok] at ho
   refine mem_ready.2 ⟨hun,_,hok,fun e he hb=>?_⟩
   cases hlk:l[k]? with
   |none=>simp[hlk] at ho
   |some q=>
    obtain⟨lo,deps⟩:=q
    simp only[hlk,Bool.and_eq_true,List.all_eq_true] at ho
    have h:=ho.1.1 e (Array.mem_toList_iff.2 he)
    simp only[hb,Bool.not_true,Bool.false_or,decide_eq_true_eq] at h
    have h2:=hlt e.on h
    have hs:e.on<listed.size:=by rw[(hhd _ _ _ inv).size];omega
    rw[Array.getD_eq_getD_getElem?,Array.getElem?_eq_getElem hs] at h2⊢
    exact h2
  have hready:Region.ready .any ops listed≠ []:=by
   have least:∀k,k≤i0→(∀j,j<k→listed.getD j true=true)→∃i,i<n∧i∈Region.ready .any ops listed:=by
    intro k hk
    induction hd:i0-k generalizing k with
    |zero=>
     intro hl
     have hki:k=i0:=by omega
     subst hki
     exact⟨k,hi0,readyOf k hi0 hun0 hl⟩
    |succ d ihd=>
     intro hl
     by_cases hu:listed.getD k true=true
     ·exact ihd (k+1) (by omega) (by omega) (fun j hj=>by
       by_cases hjk:j=k
       ·subst hjk;exact hu
       exact hl j (by omega))
     exact⟨k,by omega,readyOf k (by omega) (by simpa using hu) hl⟩
   obtain⟨i,_,hi⟩:=least 0 (by omega) (fun j hj=>by omega)
   intro h
   rw[h] at hi
   cases hi
  rw[show f+1+(ops.size-n)=(f+(ops.size-n))+1 by omega]
  refine⟨fun h=>absurd h hready,fun i hi=>?_⟩
  have hin:=hhead i hi
  obtain⟨hun,o,ho,_⟩:=mem_ready.1 hi
  refine hstep _ _ _ _ _ inv hin hi fun a' w' inv'=>ih _ a' w' ?_ inv'
  have hils:i<listed.size:=by rw[(hhd _ _ _ inv).size];exact(Array.getElem?_eq_some_iff.1 ho).1
  have:=pC (fun x=> !listed.getD x true) (fun x=> !(listed.setIfInBounds i true).getD x true) i (by simpa using hun) (by simp[Array.getD,hils]) (fun x hx=>by rw[getD_set_ne true (fun e=>hx e.symm)]) (List.range n) List.nodup_range (List.mem_range.2 hin)
  omega
def aIE(P:Program)(hd:List (aA×List Nat))(tl:List aA)(Q:St→Prop)(s:St):Prop:=
 ∃I:(Nat→Bool)→St→Prop,I (fun _=>false) s∧
  (∀D i o deps s',hd[i]?=some (o,deps)→D i=false→(∀d∈deps,D d=true)→(∀j o deps,hd[j]?=some (o,deps)→D j=true→∀d∈deps,D d=true)→I D s'→aV P [o] (I fun j=>if j=i then true else D j) s')∧
  ∀D s',(∀i,i<hd.length→D i=true)→I D s'→aV P tl Q s'
theorem aBt{ops:Array Oper}{n:Nat}{listed:Array Bool}(hnle:n≤ops.size)(inv:HeadInv .any ops n listed):∀j,j<n→listed.getD j false=true→∀d,d∈mF ops n j→d<n∧listed.getD d false=true:=by
 have hd1:∀j,j<n→listed.getD j false=true→∀d,d∈zd1 ops n j→d<n∧listed.getD d false=true:=by
  intro j hj hlj' d hd
  have hoj:ops[j]?=some (ops[j]'(by omega)):=Array.getElem?_eq_getElem (by omega)
  simp only[zd1,hoj,Option.map_some,Option.getD_some,List.mem_map,List.mem_filter,Bool.and_eq_true,decide_eq_true_eq] at hd
  obtain⟨e,⟨he,hb,hn⟩,rfl⟩:=hd
  exact⟨hn,inv.closed j _ hoj hlj' e (Array.mem_toList_iff.1 he) hb⟩
 intro j hj hlj' d hd
 exact aAL ops n (S:=fun d=>d<n∧listed.getD d false=true) j (fun k hk hS d hd=>hd1 k hS.1 hS.2 d hd) ⟨hj,hlj'⟩ n hj d hd
theorem qK{P:Program}{w:Bool}{fl:List aL}{sl:List V}{h:Hp}{nx:Nat}{R:V→Hp→Nat→Prop}{l:LOp}(hr:(l.widen w fl).run P sl h nx R):l.run P sl h nx R:=by
 cases l with
 |call f args=>
  unfold LOp.widen at hr
  cases w with
  |true=>exact hr.elim
  |false=>exact hr
 |_=>exact hr
theorem aDE{P:Program}{id:Nat}{ops:Array Oper}{n:Nat}{w0:Bool}{l:List (aA×List Nat)}{tl:List aA}(hm:P.follows .mixedOrders=true)(hB:sW ops n l=true)(hl:dK P ops n w0 0 (ops.toList.take n)=some l)(htl:cS P ops (ops.toList.drop n)=some tl)
 {K0 K:Ker} {nx0:Nat} {s:St} {a:Act} (hr:kO K0 K nx0 s a) {Q:Exit→Act→World→Prop} {Qs:St→Prop} (hQ:∀K s a,kO K0 K nx0 s a→Qs s→Q .normal a K.w)
 (h:aIE P l tl Qs s) {rd:Option Nat} {mm:Nat}:(Code.region id ops true).wpIn (FR rd) mm P Q a K.w:=by
 obtain⟨I,h0,hstep,hend⟩:=h
 have hB':=hB
 simp only[sW,Bool.and_eq_true,List.all_eq_true,List.mem_range,Bool.or_eq_true,decide_eq_true_eq] at hB'
 obtain⟨⟨⟨⟨hsel,hshape⟩,hseq⟩,hops⟩,hdist⟩:=hB'
 have hnle:n≤ops.size:=by rcases hshape with h|⟨⟨h,_⟩,_⟩<;>omega
 obtain⟨hll,hlg⟩:=gT _ _ _ hl
 have hln:l.length=n:=by rw[hll];simp;omega
 have hdd:=yY hnle hl
 have hlj:∀j,j<n→∃lo deps,l[j]?=some (lo,deps):=fun j hj=>⟨(l[j]'(by omega)).1,(l[j]'(by omega)).2,List.getElem?_eq_getElem (by omega)⟩
 have hjn:∀{j lo deps},l[j]?=some (lo,deps)→j<n:=fun hj=>by have:=(List.getElem?_eq_some_iff.1 hj).1;omega
 refine wpIn_region_any hm ?_
 have hdr:=K.le_drew
 have hfin:=aIp (P:=P) (rd:=rd) (mm:=mm) (Q:=Q) hB (fun listed a w=>HeadInv .any ops n listed∧∃K' s',K'.w=w∧kO K0 K' nx0 s' a∧I (fun j=>listed.getD j false) s') (fun _ _ _ h=>h.1) ?_ ?_ n (Array.replicate ops.size false) a K.drew.w ?_ ?_
 ·rw[show n+(ops.size-n)=ops.size by omega] at hfin
  exact hfin
 ·rintro listed a' w' i Kn ⟨hhd,K',s',rfl,hr',hI⟩ hin hi hK
  obtain⟨hun,o,ho,hall⟩:=mem_ready.1 hi
  have hot:(ops.toList.take n)[i]?=some o:=by rw[List.getElem?_take,if_pos hin];simpa using ho
  obtain⟨lo,hlo,hlow⟩:=hlg i o hot
  rw[Nat.zero_add] at hlo
  have hdn:∀d,d∈mF ops n i→listed.getD d false=true:=by
   have hset:=aBt hnle (hhd.set hi hin) i hin (by
    have hs:i<listed.size:=by rw[hhd.size];omega
    simp[Array.getD,hs])
   intro d hd
   have h1:=hset d hd
   have hne:d≠i:=by
    have h2:=hops i hin
    have hoj:ops[i]?=some (ops[i]'(by omega)):=Array.getElem?_eq_getElem (by omega)
    simp only[hoj,hlo,Bool.and_eq_true,List.all_eq_true,decide_eq_true_eq] at h2
    have:=h2.2 d hd
    omega
   rw[getD_set_ne false (fun e=>hne e.symm)] at h1
   exact h1.2
  have hq:=hstep (fun j=>listed.getD j false) i _ _ s' hlo (getD_both hun) hdn (fun j o' deps' hj hD d hd=>by
   rw[(hdd j o' deps' hj).2] at hd
   exact(aBt hnle hhd j (hjn hj) hD d hd).2) hI
  refine rD ho hlow hr' (fun s''=>I (fun j=>(listed.setIfInBounds i true).getD j false) s'') (fun K2 s2 a2 hr2 hI2=>hK a2 K2.w ⟨hhd.set hi hin,K2,s2,rfl,hr2,hI2⟩) ?_
  have heq:(fun j=>if j=i then true else listed.getD j false)=fun j=>(listed.setIfInBounds i true).getD j false:=by
   funext j
   by_cases e:j=i
   ·subst e
    have hs:j<listed.size:=by rw[hhd.size];omega
    simp[Array.getD,hs]
   rw[if_neg e,getD_set_ne false (fun h=>e h.symm)]
  rw[heq] at hq
  unfold aV at hq
  unfold aA.widen at hq
  cases hg:lo.g with
  |none=>
   simp only[hg] at hq⊢
   exact qK hq
  |some p=>
   obtain⟨t,want⟩:=p
   simp only[hg] at hq⊢
   cases hv:s'.sl.getD t V.undef with
   |bool b=>
    simp only[hv] at hq⊢
    by_cases hb:b=want
    ·rw[if_pos hb] at hq⊢;exact qK hq
    rw[if_neg hb] at hq⊢;exact hq
   |tup _=>simp only[hv] at hq⊢;exact hq
   |_=>simp only[hv] at hq
 ·rintro listed a' w' ⟨hhd,K',s',rfl,hr',hI⟩ hall
  exact tS hQ (ops.toList.drop n) tl n htl (fun j=>by simp[List.getElem?_drop]) K' s' a' hr' (hend _ s' (fun i hi=>hall i (by omega)) hI)
 ·have:∀i∈List.range n,(!(Array.replicate ops.size false).getD i true)=true:=by
   intro i hi
   rw[getD_in (by simpa using(show i<ops.size by have:=List.mem_range.1 hi;omega)) (getD_replicate_false _ _)]
   rfl
  rw[List.filter_eq_self.2 this]
  simp
 refine⟨⟨by simp,fun j oj _ hl=>(by rw[getD_replicate_false] at hl;cases hl),fun t _ ht=>getD_in (by simpa using ht) (getD_replicate_false _ _)⟩,K.drew,s,rfl,⟨hr.le.trans hdr,hr.slots.mono hdr,hr.rel.drew,hr.live,hr.nx,hr.defers.kept hdr.below⟩,?_⟩
 have:(fun j=>(Array.replicate ops.size false).getD j false)=fun _=>false:=funext fun j=>getD_replicate_false _ _
 rw[this]
 exact h0
def WkL:List V→List V→Prop
 | [],[]=>True
 |a::as,b::bs=>(b=a∨b= .top)∧WkL as bs
 |_,_=>False
structure Wk(s s':St):Prop where
 sl:WkL s.sl s'.sl
 h:s'.h.le s.h
 nx:s.nx≤s'.nx
theorem WkL.refl:∀l,WkL l l
 | []=>trivial
 |_::l=>⟨.inl rfl,WkL.refl l⟩
theorem Wk.refl(s:St):Wk s s:=⟨WkL.refl _,Hp.le_refl _,Nat.le_refl _⟩
theorem WkL.len:∀{a b:List V},WkL a b→a.length=b.length
 | [],[],_=>rfl
 |_::as,_::bs,h=>by simp[WkL.len h.2]
theorem WkL.get:∀{a b:List V},WkL a b→∀i,b.getD i V.undef=a.getD i V.undef∨b.getD i V.undef= .top
 | [],[],_,i=> .inl rfl
 |a::as,b::bs,h,0=>by simpa using h.1
 |a::as,b::bs,h,i+1=>by simpa using WkL.get h.2 i
theorem kO.wk{K0 K:Ker}{nx0:Nat}{s s':St}{a:Act}(r:kO K0 K nx0 s a)(w:Wk s s'):kO K0 K nx0 s' a:=by
 refine⟨r.le,⟨w.sl.len.symm.trans r.slots.1,fun t=>?_⟩,r.rel.weaken w.h,fun n hn=>⟨Nat.lt_of_lt_of_le (r.live n hn).1 w.nx,(r.live n hn).2⟩,Nat.le_trans r.nx w.nx,r.defers⟩
 rcases w.sl.get t with h|h
 ·rw[h];exact r.slots.2 t
 rw[h];exact .top _
def aAI(s s':St):Prop:=∀(K0 K:Ker) (nx0:Nat) (a:Act),kO K0 K nx0 s a→∃K',K'.w=K.w∧kO K0 K' nx0 s' a
theorem Wk.tell{s s':St}(w:Wk s s'):aAI s s':=fun _ K _ _ r=>⟨K,rfl,r.wk w⟩
theorem aAI.trans{s1 s2 s3:St}(h:aAI s1 s2)(k:aAI s2 s3):aAI s1 s3:=fun K0 K nx0 a r=>
 have⟨_,e1,r1⟩:=h K0 K nx0 a r
 have⟨K2,e2,r2⟩:=k K0 _ nx0 a r1
 ⟨K2,e2.trans e1,r2⟩
def qB(b:(cD→St→Prop)→St→Prop)(Q:cD→St→Prop):cD→St→Prop
 | .normal,s=>∃s',aAI s s'∧b Q s'
 |e,s=>Q e s
def gB(id:Nat)(Q:cD→St→Prop):cD→St→Prop
 | .exit id',s=>if id'=id then Q .normal s else Q (.exit id') s
 |e,s=>Q e s
def aKM(J:St→Prop)(Q:cD→St→Prop):cD→St→Prop
 | .normal,s=>∃s',aAI s s'∧J s'
 |e,s=>Q e s
def aLf(r:Nat)(o:Obj)(U:Ker→Prop)(J:St→Prop):cD→St→Prop
 | .normal,s=>s.h r=some (.obj o U)∧J s
 |_,_=>False
def aKc(r:Nat)(rcd:LoopState→Option Code→Obj)(U:Ker→Prop)(R:V→Hp→Nat→Prop):cD→St→Prop
 | .normal,s=>s.h r=some (.obj (rcd .busy none) U)∧R (.bool true) (s.h.set r (.obj (rcd .ready none) U)) s.nx
 | .ret,s=>s.h r=some (.obj (rcd .busy none) U)∧R (.bool false) (s.h.set r (.obj (rcd .done (some .ret)) U)) s.nx
 | .exit id,s=>s.h r=some (.obj (rcd .busy none) U)∧R (.bool false) (s.h.set r (.obj (rcd .done (some (.exit id))) U)) s.nx
def aIS(r:Nat)(rcd:LoopState→Option Code→Obj)(U:Ker→Prop)(Q:cD→St→Prop)(sl:List V)(h':Hp)(nx':Nat):Prop:=
 (h' r=some (.obj (rcd .ready none) U)∧Q .normal ⟨sl,h'.del r,nx'⟩)∨(h' r=some (.obj (rcd .done (some .ret)) U)∧Q .ret ⟨sl,h'.del r,nx'⟩)∨
   ∃id,h' r=some (.obj (rcd .done (some (.exit id))) U)∧Q (.exit id) ⟨sl,h'.del r,nx'⟩
def lwp(P:Program):bE→(cD→St→Prop)→St→Prop
 | .skip,Q,s=>Q .normal s
 | .ops l,Q,s=>aV P l (Q .normal) s
 | .draw n hd tl,Q,s=>(((hd.all fun p=>match p.1.dst with|some d=>decide (d<s.sl.length)|none=>true)&&decide (n=hd.length))=true∧
  dA P s.h s.nx hd s.sl [] [] fun sl adds cons=>aV P tl (Q .normal) ⟨sl,xD (nZ s.h s.nx adds) cons,s.nx+n⟩)∨aIE P hd tl (Q .normal) s
 | .seq a b,Q,s=>lwp P a (qB (lwp P b) Q) s
 | .cond c a b,Q,s=>match c.ev s.sl with
  | .bool t=>if t=true then lwp P a Q s else lwp P b Q s
  |_=>False
 | .block id c,Q,s=>lwp P c (gB id Q) s
 | .loop c,Q,s=>∃(I:St→Prop) (m:St→Nat),(∃s',aAI s s'∧I s')∧∀s,I s→lwp P c (aKM (fun s'=>I s'∧m s'<m s) Q) s
 | .exit id,Q,s=>Q (.exit id) s
 | .ret,Q,s=>Q .ret s
 | .range g ps as b,Q,s=>match g.ev s.sl with
  | .fn (.func gf) [] caps=>∀(rcd:LoopState→Option Code→Obj) (U:Ker→Prop),(∀st pe,iB (rcd st pe)=true)→
   (∀(args:List V) (h:Hp) (nx:Nat) (R:V→Hp→Nat→Prop),args.length=ps.length→h s.nx=some (.obj (rcd .ready none) U)→
     lwp P as (aLf s.nx (rcd .ready none) U fun s1=>lwp P b (aKc s.nx rcd U R) ⟨s1.sl,s1.h.set s.nx (.obj (rcd .busy none) U),s1.nx⟩) ⟨putAll s.sl ps args,h,nx⟩→fH P s.nx args h nx R)→
   aW P gf (.yld s.nx::caps) (s.h.set s.nx (.obj (rcd .ready none) U)) (s.nx+1) fun _ h' nx'=>aIS s.nx rcd U Q s.sl h' nx'
  |_=>False
def LOp.isStore:LOp→Bool
 | .store _ _ _=>true
 | .mp (.put _ _ _ _ _)=>true
 | .mp (.del _ _ _ _)=>true
 |_=>false
def vG(P:Program)(ops:Array Oper)(w:Bool)(n:Nat):Option bE:=
 match dK P ops n w 0 (ops.toList.take n),cS P ops (ops.toList.drop n) with
 |some l,some tl=>if (nX ops n l&&(w||l.all fun p=> !p.1.op.isStore))=true then some (.draw n l tl) else none
 |_,_=>none
def pD(P:Program)(ops:Array Oper)(w:Bool):Nat→Option bE
 |0=>vG P ops w 0
 |n+1=>match vG P ops w (n+1) with
  |some c=>some c
  |none=>pD P ops w n
def aDD(P:Program)(ops:Array Oper):Option bE:=
 match dK P ops ops.size false 0 (ops.toList.take ops.size) with
 |some l=>if sW ops ops.size l=true then some (.draw (l.length+1) l []) else none
 |none=>none
def aCi(P:Program)(ops:Array Oper):Option bE:=
 match pD P ops false ops.size with
 |some c=>some c
 |none=>match pD P ops true ops.size with
  |some c=>some c
  |none=>aDD P ops
def fD:Code→Bool
 | .seq a b=>fD a&&fD b
 | .cond _ a b=>fD a&&fD b
 | .block _ c=>fD c
 | .loop c=>fD c
 | .scope _=>false
 | .rangeFunc _ _ _ _=>false
 |_=>true
def bW(P:Program):Code→Option bE
 | .skip=>some .skip
 | .label _=>some .skip
 | .region _ ops false=>(cS P ops ops.toList).map .ops
 | .region _ ops true=>if P.follows .mixedOrders then aCi P ops else none
 | .seq a b=>match bW P a,bW P b with
  |some a,some b=>some (.seq a b)
  |_,_=>none
 | .cond c a b=>match aP P 0 c,bW P a,bW P b with
  |some c,some a,some b=>some (.cond c a b)
  |_,_,_=>none
 | .block id c=>(bW P c).map (.block id)
 | .loop c=>(bW P c).map .loop
 | .scope c=>bW P c
 | .exit id=>some (.exit id)
 | .ret=>some .ret
 | .rangeFunc g ps as b=>if fD as=true∧fD b=true then match aP P 0 g,bW P as,bW P b with
  |some g,some as,some b=>some (.range g ps.toList as b)
  |_,_,_=>none
  else none
 |_=>none
theorem aCh{P:Program}{ops:Array Oper}{w:Bool}{n:Nat}{L:bE}(h:vG P ops w n=some L):∃l tl,L= .draw n l tl∧nX ops n l=true∧dK P ops n w 0 (ops.toList.take n)=some l∧cS P ops (ops.toList.drop n)=some tl:=by
 unfold vG at h
 split at h
 ·rename_i l tl h1 h2
  split at h
  ·rename_i hb
   injection h with h
   simp only[Bool.and_eq_true] at hb
   exact⟨l,tl,h.symm,hb.1,h1,h2⟩
  cases h
 cases h
theorem lJ{P:Program}{ops:Array Oper}{w:Bool}{L:bE}:∀n,pD P ops w n=some L→∃n,vG P ops w n=some L
 |0,h=>⟨0,h⟩
 |n+1,h=>by
  unfold pD at h
  split at h
  ·rename_i c hc;injection h with h;subst h;exact⟨n+1,hc⟩
  exact lJ n h
theorem aAz{P:Program}{ops:Array Oper}{L:bE}(h:aCi P ops=some L):∃m l tl w n,L= .draw m l tl∧(m=l.length→nX ops n l=true∧m=n)∧sW ops n l=true∧dK P ops n w 0 (ops.toList.take n)=some l∧cS P ops (ops.toList.drop n)=some tl:=by
 have at_:∀w n,vG P ops w n=some L→∃m l tl w n,L= .draw m l tl∧(m=l.length→nX ops n l=true∧m=n)∧sW ops n l=true∧dK P ops n w 0 (ops.toList.take n)=some l∧cS P ops (ops.toList.drop n)=some tl:=fun w n hn=>by
  obtain⟨l,tl,rfl,hB,h1,h2⟩:=aCh hn
  exact⟨n,l,tl,w,n,rfl,fun _=>⟨hB,rfl⟩,aIr hB,h1,h2⟩
 unfold aCi at h
 split at h
 ·rename_i c hc;injection h with h;subst h;obtain⟨n,hn⟩:=lJ _ hc;exact at_ _ _ hn
 split at h
 ·rename_i c hc;injection h with h;subst h;obtain⟨n,hn⟩:=lJ _ hc;exact at_ _ _ hn
 unfold aDD at h
 split at h
 ·rename_i l hl
  split at h
  ·rename_i hB
   injection h with h
   subst h
   exact⟨_,l,[],false,ops.size,rfl,fun e=>by omega,hB,hl,by rw[List.drop_of_length_le (by simp)];rfl⟩
  cases h
 cases h
theorem aCN{P:Program}{g:Operand}{ps:Array Tmp}{as b:Code}{lg:aL}{la lb:bE}(h0:aP P 0 g=some lg)
 (ha:∀(l m:Nat) (Q:cD→St→Prop) (s:St),lwp P la Q s→∀(K0 K:Ker) (nx0:Nat) (act:Act),kO K0 K nx0 s act→as.wpIn (FR (some l)) m P (aFx K0 nx0 Q) act K.w)
 (hb:∀(l m:Nat) (Q:cD→St→Prop) (s:St),lwp P lb Q s→∀(K0 K:Ker) (nx0:Nat) (act:Act),kO K0 K nx0 s act→b.wpIn (FR (some l)) m P (aFx K0 nx0 Q) act K.w)
 {K0 K:Ker} {nx0:Nat} {s:St} {a:Act} (hr:kO K0 K nx0 s a) {Q:cD→St→Prop} (h:lwp P (.range lg ps.toList la lb) Q s) {mm:Nat}:(Code.rangeFunc g ps as b).wpIn (FR none) mm P (aFx K0 nx0 Q) a K.w:=by
 have vg:=aF h0 hr.slots.2
 simp only[lwp] at h
 split at h
 case h_2=>exact h.elim
 rename_i gf caps hev
 rw[hev] at vg
 generalize hcg:a.eval g=cg at vg
 cases vg with
 |fn _ _ _ cf cc hl1 hl2 hv1 hv2=>
 have hcf:cf=#[]:=by
  apply Array.eq_empty_of_size_eq_zero
  simpa using hl1.symm
 subst hcf
 have hfresh:¬K.live s.nx:=fun hn=>Nat.lt_irrefl _ (hr.live _ hn).1
 have key:∀fn:FuncId,∃(rcd:LoopState→Option Code→Obj) (K1:Ker),(rcd=fun st pe=> .loop (kE fn a.tmps ps as b K.w.heap.size st pe))∧K1=(K.more (.deferred (some []))).push s.nx (rcd .ready none) 0∧K.le K1∧
  Rel K1 (s.h.set s.nx (.obj (rcd .ready none) fun K'=>K1.leV K'))∧aW P gf (.yld s.nx::caps) (s.h.set s.nx (.obj (rcd .ready none) fun K'=>K1.leV K')) (s.nx+1) fun _ h' nx'=>aIS s.nx rcd (fun K'=>K1.leV K') Q s.sl h' nx':=by
  intro fn
  obtain⟨rcd,hrcd⟩:∃rcd:LoopState→Option Code→Obj,rcd=fun st pe=> .loop (kE fn a.tmps ps as b K.w.heap.size st pe):=⟨_,rfl⟩
  have hpl:∀st pe,iB (rcd st pe)=true:=fun st pe=>by rw[hrcd];rfl
  obtain⟨K1,hK1⟩:∃K1,K1=(K.more (.deferred (some []))).push s.nx (rcd .ready none) 0:=⟨_,rfl⟩
  have hle1:K.le K1:=by rw[hK1];exact(K.le_more _).trans ((K.more _).le_push s.nx hfresh _ _)
  have hmu1:K1.mu s.nx=K.w.heap.size+1:=by rw[hK1];simp[Ker.push,Ker.more]
  have hlive1:∀n,K1.live n↔n=s.nx∨K.live n:=fun n=>by rw[hK1];exact Iff.rfl
  have hrel1:Rel K1 (s.h.set s.nx (.obj (rcd .ready none) fun K'=>K1.leV K')):=by
   have:=(hr.rel.more (.deferred (some []))).set_push (a:=s.nx) hfresh (rcd .ready none) 0 (b:= .obj (rcd .ready none) fun K'=>K1.leV K') (by
    rw[←hK1]
    refine .obj _ _ ?_ (hpl _ _) (.refl K1) (fun A B hAB hA=>hA.trans hAB)
    rw[hmu1,hK1]
    have:=cQ (K.w.alloc (.deferred (some []))) (rcd .ready none)
    rw[rQ] at this
    exact this)
   rwa [←hK1] at this
  refine⟨rcd,K1,hrcd,hK1,hle1,hrel1,h rcd _ hpl ?_⟩
  --a call of yield
  intro args hh nx R hlen hready hw m Kr cargs hlv hn hrel hv
  obtain⟨q1,q2,q3,q4⟩:=(hrel.blk s.nx _ hready).objAt
  have hl1':K1.live s.nx:=(hlive1 _).2 (.inl rfl)
  have hmur:Kr.mu s.nx=K.w.heap.size+1:=(q3.mu _ hl1').trans hmu1
  have hsz:cargs.size=ps.size:=by rw[←hv.1,hlen];simp
  rw[hmur] at q1⊢
  have hslots:gC Kr (putAll s.sl ps.toList args) {tmps:=(ps.zip cargs).foldl (fun t (p,v)=>t.setIfInBounds p v) a.tmps,defers:=[]}:=by
   have:=gC.putAll (K:=Kr) (ds:=[]) ps.toList args cargs.toList s.sl a.tmps (gC.monoV q3 (gC.mono hle1 hr.slots)) (by rw[hv.1];simp) (fun i hi=>by
    have:=hv.2 i hi
    simpa [Array.getD_eq_getD_getElem?,List.getD_eq_getElem?_getD] using this)
   have e:(ps.zip cargs).foldl (fun t (p,v)=>t.setIfInBounds p v) a.tmps=(ps.toList.zip cargs.toList).foldl (fun t p=>t.setIfInBounds p.1 p.2) a.tmps:=by
    rw[←Array.foldl_toList,Array.toList_zip]
   rw[e];exact this
  refine aCz (fn:=fn) (tmps:=a.tmps) (ps:=ps) (assign:=as) (body:=b) (D:=K.w.heap.size) trivial (by rw[q1,hrcd]) hsz ?_
  have hrs:kO Kr Kr nx ⟨putAll s.sl ps.toList args,hh,nx⟩ {tmps:=(ps.zip cargs).foldl (fun t (p,v)=>t.setIfInBounds p v) a.tmps,defers:=[]}:=
   ⟨.refl _,hslots,hrel,fun n hn=>⟨hlv n hn, .inl hn⟩,Nat.le_refl _,pH.nil _ _⟩
  refine wpIn_mono (show as.wpIn (Fence.wide.inRound (K.w.heap.size+1)) m P (aFx Kr nx _) _ Kr.w from ha (K.w.heap.size+1) m _ _ hw Kr Kr nx _ hrs) ?_
  rintro e a1 W1 ⟨K',s1,le,rfl,hr1,rfl,hq⟩
  cases le with
  |exit id=>exact hq.elim
  |ret=>exact hq.elim
  |normal=>
   obtain⟨ho,hq⟩:=hq
   have hmu':K'.mu s.nx=K.w.heap.size+1:=(hr1.le.mu _ hn).trans hmur
   obtain⟨p1,p2,p3,p4⟩:=(hr1.rel.blk s.nx _ ho).objAt
   rw[hmu'] at p1
   obtain⟨hle2,hrel2⟩:=hr1.rel.setObj ho (hpl .busy none)
   rw[hmu'] at hle2 hrel2
   refine⟨by rw[p1,hrcd],?_⟩
   have hbusy:(.loop (kE fn a.tmps ps as b K.w.heap.size .busy none):Obj)=rcd .busy none:=by rw[hrcd]
   rw[hbusy]
   refine wpIn_mono (show b.wpIn (Fence.wide.inRound (K.w.heap.size+1)) m P (aFx Kr nx _) a1 (K'.obj (K.w.heap.size+1) (rcd .busy none)).w from hb (K.w.heap.size+1) m _ _ hq Kr _ nx a1 ⟨hr1.le.trans hle2,hr1.slots.mono hle2,hrel2,hr1.live,hr1.nx,hr1.defers.kept hle2.below⟩) ?_
   rintro e a2 W2 ⟨K3,s3,le3,rfl,hr3,rfl,hq3⟩
   have hmu3:K3.mu s.nx=K.w.heap.size+1:=(hr3.le.mu _ hn).trans hmur
   have fin:∀(o:Obj) (bb:Bool),iB o=true→s3.h s.nx=some (.obj (rcd .busy none) fun K'=>K1.leV K')→R (.bool bb) (s3.h.set s.nx (.obj o fun K'=>K1.leV K')) s3.nx→
    K3.w.heap[K.w.heap.size+1]?=some (rcd .busy none)∧∃K' v cv h' nx',K'.w=K3.w.putObj (K.w.heap.size+1) o∧Ending.returned (.bool bb)= .returned cv∧Kr.le K'∧VR K' v cv∧Rel K' h'∧(∀i,K'.live i→i<nx'∧(Kr.live i∨nx≤i))∧nx≤nx'∧R v h' nx':=by
    intro o bb hpo hbz hR
    obtain⟨u1,u2,u3,u4⟩:=(hr3.rel.blk s.nx _ hbz).objAt
    obtain⟨hle4,hrel4⟩:=hr3.rel.setObj hbz hpo
    rw[hmu3] at u1 hle4 hrel4
    exact⟨u1,K3.obj (K.w.heap.size+1) o, .bool bb, .bool bb,_,s3.nx,rfl,rfl,hr3.le.trans hle4, .bool bb,hrel4,hr3.live,hr3.nx,hR⟩
   cases le3 with
   |normal=>
    have:=fin (rcd .ready none) true (hpl _ _) hq3.1 hq3.2
    simp only[hrcd] at this⊢
    exact this
   |ret=>
    have:=fin (rcd .done (some .ret)) false (hpl _ _) hq3.1 hq3.2
    simp only[hrcd] at this⊢
    exact this
   |exit id=>
    have:=fin (rcd .done (some (.exit id))) false (hpl _ _) hq3.1 hq3.2
    simp only[hrcd] at this⊢
    exact this
 obtain⟨_,_,_,_,_,_,hen,_⟩:=key 0
 refine aAi (F:=FR none) rfl (by intro h;cases h) hcg trivial (fun args w=>kJ hen args w) ?_
 intro fn _
 obtain⟨rcd,K1,hrcd,hK1,hle1,hrel1,hcall⟩:=key fn
 have hmu1:K1.mu s.nx=K.w.heap.size+1:=by rw[hK1];simp[Ker.push,Ker.more]
 have hlive1:∀n,K1.live n→n=s.nx∨K.live n:=fun n=>by rw[hK1];exact fun h=>h
 have hpl:∀st pe,iB (rcd st pe)=true:=fun st pe=>by rw[hrcd];rfl
 have hW1:(K.w.alloc (.deferred (some []))).alloc (.loop (kE fn a.tmps ps as b K.w.heap.size .ready none))=K1.w:=by rw[hK1,hrcd];rfl
 rw[hW1]
 have hyl:VRs K1 (.yld s.nx::caps) (#[.func (.yield (K.w.heap.size+1)) #[] #[]]++cc):=by
  refine VRs.append (a:=[.yld s.nx]) (b:=caps) ⟨rfl,fun i hi=>?_⟩ ⟨hl2,fun i hi=>(hv2 i hi).mono hle1⟩
  have:i=0:=by simpa using hi
  subst this
  have:=VR.yld (K:=K1) s.nx (by rw[hK1];exact .inl rfl)
  rw[hmu1] at this
  simpa using this
 refine zX ((hcall.2 K1 _ (fun n hn=>?_) hrel1 hyl).mono ?_)
 ·rcases hlive1 n hn with rfl|h
  ·omega
  have:=(hr.live n h).1;omega
 rintro e W2 ⟨K',v,cv,h',nx',rfl,rfl,hle',hvr,hrel',hlv',hnx',hq⟩
 have hn1:K1.live s.nx:=by rw[hK1];exact .inl rfl
 have hmu':K'.mu s.nx=K.w.heap.size+1:=(hle'.mu _ hn1).trans hmu1
 have hmark1:fZ K1.w K.w.heap.size:=by
  rw[←hW1]
  show((K.w.alloc _).alloc _).heap[K.w.heap.size]?=_
  rw[eM _ _ _ (by rw[rQ];omega)]
  exact cQ _ _
 have fin:∀(o o':Obj) (le:cD),h' s.nx=some (.obj o fun K'=>K1.leV K')→iB o'=true→Q le ⟨s.sl,h'.del s.nx,nx'⟩→
  K'.w.heap[K.w.heap.size+1]?=some o∧aFx K0 nx0 Q le.up {a with defers:={target:= .collected K.w.heap.size,args:=#[]}::a.defers} (K'.w.putObj (K.w.heap.size+1) o'):=by
  intro o o' le ho hpo hQ
  obtain⟨u1,_⟩:=(hrel'.blk s.nx _ ho).objAt
  obtain⟨hle4,hrel4⟩:=hrel'.setObj ho hpo
  rw[hmu'] at u1 hle4 hrel4
  refine⟨u1,K'.obj (K.w.heap.size+1) o',⟨s.sl,h'.del s.nx,nx'⟩,le,rfl,⟨hr.le.trans (hle1.trans (hle'.trans hle4)),hr.slots.mono (hle1.trans (hle'.trans hle4)),hrel4.weaken (aFo _ _ _),?_,?_,?_⟩,rfl,hQ⟩
  ·intro n hn
   obtain⟨w1,w2⟩:=hlv' n hn
   refine⟨w1,?_⟩
   rcases w2 with w2|w2
   ·rcases hlive1 n w2 with rfl|w3
    ·exact .inr hr.nx
    exact(hr.live n w3).2
   exact .inr (by have:=hr.nx;omega)
  ·have:=hr.nx;show nx0≤nx';omega
  obtain⟨Ds,d1,d2,d3⟩:=hr.defers
  refine⟨K.w.heap.size::Ds,List.nodup_cons.2 ⟨fun hm=>Nat.lt_irrefl _ (d3 _ hm).2.lt,d1⟩,by simp[d2],?_⟩
  intro D hD
  rcases List.mem_cons.1 hD with rfl|hD
  ·exact⟨hr.le.below.size,hmark1.kept (hle'.trans hle4).below⟩
  exact⟨(d3 D hD).1,(d3 D hD).2.kept (hle1.trans (hle'.trans hle4)).below⟩
 refine⟨⟨cv,rfl⟩,?_⟩
 rcases hq with⟨ho,hQ⟩|⟨ho,hQ⟩|⟨id,ho,hQ⟩
 ·have:=fin _ (rcd .exhausted none) .normal ho (hpl _ _) hQ
  simp only[hrcd] at this
  exact .inl this
 ·have:=fin _ (rcd .exhausted (some .ret)) .ret ho (hpl _ _) hQ
  simp only[hrcd] at this
  exact .inr ⟨.ret,this.1,wpIn_ret this.2⟩
 have:=fin _ (rcd .exhausted (some (.exit id))) (.exit id) ho (hpl _ _) hQ
 simp only[hrcd] at this
 exact .inr ⟨.exit id,this.1,wpIn_exit this.2⟩
theorem aGC{P:Program}:∀(c:Code) (L:bE),bW P c=some L→∀(rd:Option Nat) (mm:Nat) (Q:cD→St→Prop) (s:St),lwp P L Q s→∀(K0 K:Ker) (nx0:Nat) (a:Act),kO K0 K nx0 s a→(rd=none∨fD c=true)→c.wpIn (FR rd) mm P (aFx K0 nx0 Q) a K.w:=by
 intro c
 induction c with
 |skip=>
  intro L hl rd mm Q s h K0 K nx0 a hr hsc
  simp only[bW,Option.some.injEq] at hl;subst hl
  exact wpIn_skip ⟨K,s, .normal,rfl,hr,rfl,h⟩
 |label l=>
  intro L hl rd mm Q s h K0 K nx0 a hr hsc
  simp only[bW,Option.some.injEq] at hl;subst hl
  exact wpIn_label ⟨K,s, .normal,rfl,hr,rfl,h⟩
 |region id ops draw=>
  intro L hl rd mm Q s h K0 K nx0 a hr hsc
  cases draw with
  |false=>
   simp only[bW] at hl
   obtain⟨ls,hls,rfl⟩:=Option.map_eq_some_iff.1 hl
   refine wpIn_region ?_
   refine yN (Qs:=Q .normal) (fun K s a hr hq=>⟨K,s, .normal,rfl,hr,rfl,hq⟩) ops.toList ls (List.range ops.size) hls ?_ K s a hr h
   apply List.ext_getElem
   ·simp
   intro i h1 h2
   simp at h1 h2⊢
  |true=>
   simp only[bW] at hl
   split at hl
   ·rename_i hm
    obtain⟨m,l,tl,w,n,rfl,hB,hI,h1,h2⟩:=aAz hl
    rcases h with⟨hs,hd⟩|h
    ·simp only[Bool.and_eq_true,decide_eq_true_eq] at hs
     obtain⟨hB,rfl⟩:=hB hs.2
     replace hs:=hs.1
     exact aFi (Qs:=Q .normal) hm hB h1 h2 hr (fun K s a hr hq=>⟨K,s, .normal,rfl,hr,rfl,hq⟩) hs hd
    exact aDE (Qs:=Q .normal) hm hI h1 h2 hr (fun K s a hr hq=>⟨K,s, .normal,rfl,hr,rfl,hq⟩) h
   cases hl
 |seq x y ihx ihy=>
  intro L hl rd mm Q s h K0 K nx0 a hr hsc
  simp only[bW] at hl
  split at hl
  ·rename_i lx ly h1 h2
   injection hl with hl;subst hl
   refine wpIn_seq (wpIn_mono (ihx lx h1 rd mm _ s h K0 K nx0 a hr (hsc.imp (fun h=>h) fun h=>by simp only[fD,Bool.and_eq_true] at h;exact h.1)) ?_)
   rintro e a' w' ⟨K',s',le,rfl,hr',rfl,hq⟩
   cases le with
   |normal=>
    obtain⟨s'',hw,hq⟩:=hq
    obtain⟨K2,e2,hr2⟩:=hw _ _ _ _ hr'
    rw[←e2]
    exact ihy ly h2 rd mm Q s'' hq K0 K2 nx0 a' hr2 (hsc.imp (fun h=>h) fun h=>by simp only[fD,Bool.and_eq_true] at h;exact h.2)
   |exit id=>exact⟨K',s', .exit id,rfl,hr',rfl,hq⟩
   |ret=>exact⟨K',s', .ret,rfl,hr',rfl,hq⟩
  cases hl
 |cond c x y ihx ihy=>
  intro L hl rd mm Q s h K0 K nx0 a hr hsc
  simp only[bW] at hl
  split at hl
  ·rename_i lc lx ly h0 h1 h2
   injection hl with hl;subst hl
   have vc:=aF h0 hr.slots.2
   simp only[lwp] at h
   split at h
   ·rename_i t ht
    rw[ht] at vc
    generalize hcv:a.eval c=cv at vc
    cases vc
    refine wpIn_cond hcv ?_
    cases t with
    |true=>exact ihx lx h1 rd mm Q s (by simpa using h) K0 K nx0 a hr (hsc.imp (fun h=>h) fun h=>by simp only[fD,Bool.and_eq_true] at h;exact h.1)
    |false=>exact ihy ly h2 rd mm Q s (by simpa using h) K0 K nx0 a hr (hsc.imp (fun h=>h) fun h=>by simp only[fD,Bool.and_eq_true] at h;exact h.2)
   exact h.elim
  cases hl
 |block id c ih=>
  intro L hl rd mm Q s h K0 K nx0 a hr hsc
  simp only[bW] at hl
  obtain⟨lc,h1,rfl⟩:=Option.map_eq_some_iff.1 hl
  refine wpIn_block (wpIn_mono (ih lc h1 rd mm _ s h K0 K nx0 a hr (hsc.imp (fun h=>h) fun h=>h)) ?_)
  rintro e a' w' ⟨K',s',le,rfl,hr',rfl,hq⟩
  cases le with
  |normal=>exact⟨K',s', .normal,rfl,hr',rfl,hq⟩
  |exit id'=>
   show if id'=id then _ else _
   split
   ·rename_i e;simp only[gB,e,if_true] at hq;exact⟨K',s', .normal,rfl,hr',rfl,hq⟩
   rename_i e;simp only[gB,e,if_false] at hq;exact⟨K',s', .exit id',rfl,hr',rfl,hq⟩
  |ret=>exact⟨K',s', .ret,rfl,hr',rfl,hq⟩
 |loop c ih=>
  intro L hl rd mm Q s h K0 K nx0 a hr hsc
  simp only[bW] at hl
  obtain⟨lc,h1,rfl⟩:=Option.map_eq_some_iff.1 hl
  obtain⟨I,m,⟨s0,hw0,hI⟩,hround⟩:=h
  obtain⟨Kl,el,hrl⟩:=hw0 _ _ _ _ hr
  refine wpIn_loop_ghost (fun n a w=>∃K s,K.w=w∧kO K0 K nx0 s a∧I s∧m s=n) (m s0) ⟨Kl,s0,el,hrl,hI,rfl⟩ ?_
  rintro n a' w' ⟨K',s',rfl,hr',hI',rfl⟩
  refine wpIn_mono (ih lc h1 rd mm _ s' (hround s' hI') K0 K' nx0 a' hr' (hsc.imp (fun h=>h) fun h=>h)) ?_
  rintro e a'' w'' ⟨K'',s'',le,rfl,hr'',rfl,hq⟩
  cases le with
  |normal=>
   obtain⟨s3,hw,hq⟩:=hq
   obtain⟨K3,e3,hr3⟩:=hw _ _ _ _ hr''
   exact⟨m s3,hq.2,K3,s3,e3,hr3,hq.1,rfl⟩
  |exit id=>exact⟨K'',s'', .exit id,rfl,hr'',rfl,hq⟩
  |ret=>exact⟨K'',s'', .ret,rfl,hr'',rfl,hq⟩
 |scope c ih=>
  intro L hl rd mm Q s h K0 K nx0 a hr hsc
  simp only[bW] at hl
  have hsc:rd=none:=hsc.resolve_right (by simp[fD])
  subst hsc
  refine wpIn_wide.2 (wp_scope_straight (wp_mono ((wpIn_wide (n:=mm)).1 (ih L hl none mm Q s h K0 K nx0 a hr (.inl rfl))) ?_))
  rintro e a' w' ⟨K',s',le,rfl,hr',rfl,hq⟩
  cases le with
  |normal=>exact⟨K',s', .normal,rfl,hr',rfl,hq⟩
  |exit id=>exact⟨K',s', .exit id,rfl,hr',rfl,hq⟩
  |ret=>exact⟨K',s', .ret,rfl,hr',rfl,hq⟩
 |exit id=>
  intro L hl rd mm Q s h K0 K nx0 a hr hsc
  simp only[bW,Option.some.injEq] at hl;subst hl
  exact wpIn_exit ⟨K,s, .exit id,rfl,hr,rfl,h⟩
 |ret=>
  intro L hl rd mm Q s h K0 K nx0 a hr hsc
  simp only[bW,Option.some.injEq] at hl;subst hl
  exact wpIn_ret ⟨K,s, .ret,rfl,hr,rfl,h⟩
 |rangeFunc g ps as b iha ihb=>
  intro L hl rd mm Q s h K0 K nx0 a hr hsc
  have hsc:rd=none:=hsc.resolve_right (by simp[fD])
  subst hsc
  simp only[bW] at hl
  split at hl
  ·rename_i hns
   split at hl
   ·rename_i lg la lb h0 h1 h2
    injection hl with hl;subst hl
    exact aCN h0 (fun l m Q s h K0 K nx0 act hr=>iha la h1 (some l) m Q s h K0 K nx0 act hr (.inr hns.1)) (fun l m Q s h K0 K nx0 act hr=>ihb lb h2 (some l) m Q s h K0 K nx0 act hr (.inr hns.2)) hr h
   cases hl
  cases hl
 |goto l=>intro L hl;simp[bW] at hl
 |refuse w=>intro L hl;simp[bW] at hl
inductive aAg where
 |slot (t:Nat)
 |cell (t:Nat) (k:Sh)
 deriving Inhabited
def aAg.sem(s:St)(R:V→Prop):aAg→Prop
 | .slot t=>R (s.sl.getD t V.undef)
 | .cell t k=>(bD.load k (.slot t)).sem s.sl s.h R
def oN(s:St):List aAg→List V→(List V→Prop)→Prop
 | [],acc,R=>R acc
 |r::rs,acc,R=>r.sem s fun v=>oN s rs (acc++[v]) R
def mI(vs:List V):V:=
 match vs with
 | [v]=>v
 |vs=> .tup vs
structure LFn where
 body:bE
 nt:Nat
 res:List aAg
 deriving Inhabited
def jW(P:Program):List ResultVar→Option (List aAg)
 | []=>some []
 | .tmp t::r=>(jW P r).map (.slot t:: ·)
 | .cell a t::r=>(cO P t).bind fun k=>(jW P r).map (.cell a k:: ·)
def aH(P:Program)(f:FuncId):Option LFn:=
 match P.funcs[f]? with
 |some fn=>if fn.name== "runtime.NumGoroutine" then none else match fn.body with
  |some c=>(bW P c).bind fun b=>(jW P fn.results.toList).map fun r=>⟨b,fn.ntmps,r⟩
  |none=>none
 |none=>none
def aKH(L:LFn)(R:V→Hp→Nat→Prop):cD→St→Prop
 | .exit _,_=>False
 |_,s=>oN s L.res [] fun vs=>∃h',h'.le s.h∧R (mI vs) h' s.nx
theorem qI{P:Program}{K:Ker}{s:St}{a:Act}(hs:gC K s.sl a)(hr:Rel K s.h){R:List V→Prop}:∀(rs:List ResultVar) (ls:List aAg),jW P rs=some ls→∀(acc:List V) (cacc:List Value),acc.length=cacc.length→(∀i,i<acc.length→VR K (acc.getD i V.undef) (cacc.getD i Go.undef))→
 oN s ls acc R→∃vs cvs,(rs.mapM (fun| .tmp t=>pure (a.tmps.getD t Go.undef)| .cell b t=>do loadVar t (←asAddr (a.tmps.getD b Go.undef)):ResultVar→Sem Value)).run P K.w= .ok cvs K.w∧(cacc++cvs).length=vs.length∧(∀i,i<vs.length→VR K (vs.getD i V.undef) ((cacc++cvs).getD i Go.undef))∧R vs
 | [],ls,hl,acc,cacc,h1,h2,h=>by
  simp[jW] at hl
  subst hl
  exact⟨acc,[],by simp,by simp[h1],by simpa using h2,h⟩
 |r::rs,ls,hl,acc,cacc,h1,h2,h=>by
  have one:∃lr lrs v cv,ls=lr::lrs∧jW P rs=some lrs∧oN s lrs (acc++[v]) R∧VR K v cv∧(match r with| .tmp t=>pure (a.tmps.getD t Go.undef)| .cell b t=>do loadVar t (←asAddr (a.tmps.getD b Go.undef)):Sem Value).run P K.w= .ok cv K.w:=by
   cases r with
   |tmp t=>
    simp only[jW] at hl
    obtain⟨lrs,h3,rfl⟩:=Option.map_eq_some_iff.1 hl
    exact⟨_,lrs,_,_,rfl,h3,h,hs.2 t,rfl⟩
   |cell b t=>
    simp only[jW] at hl
    obtain⟨k,hk,hl⟩:=Option.bind_eq_some_iff.1 hl
    obtain⟨lrs,h3,rfl⟩:=Option.map_eq_some_iff.1 hl
    simp only[oN,aAg.sem] at h
    obtain⟨cv,v,q1,q2,q3⟩:=aJO (P:=P) hk hr (hs.2 b) (.slot b) rfl h
    refine⟨_,lrs,v,cv,rfl,h3,q3,q2,?_⟩
    simp only[Instr.loadAt,Sem.run_bind] at q1
    show(do loadVar t (←asAddr (a.tmps.getD b Go.undef)):Sem Value).run P K.w=_
    generalize a.tmps.getD b Go.undef=x at q1⊢
    cases x<;>simp[Instr.sureAddr] at q1
    rename_i ad
    cases ad with
    |none=>simp[Instr.sureAddr] at q1
    |some ad=>simpa [asAddr,Instr.sureAddr] using q1
  obtain⟨lr,lrs,v,cv,rfl,h3,h4,h5,h6⟩:=one
  obtain⟨vs,cvs,g1,g2,g3,g4⟩:=qI hs hr rs lrs h3 (acc++[v]) (cacc++[cv]) (by simp[h1]) (fun i hi=>by
   simp only[List.length_append,List.length_cons,List.length_nil] at hi
   by_cases e:i<acc.length
   ·have:=h2 i e
    simp only[List.getD_eq_getElem?_getD] at this⊢
    rw[List.getElem?_append_left e,List.getElem?_append_left (by omega)]
    exact this
   have e2:i=acc.length:=by omega
   subst e2
   simp only[List.getD_eq_getElem?_getD]
   rw[List.getElem?_append_right (Nat.le_refl _),List.getElem?_append_right (by omega)]
   simp[h1]
   exact h5) h4
  refine⟨vs,cv::cvs,?_,by simpa using g2,by simpa using g3,g4⟩
  rw[List.mapM_cons,Sem.run_bind]
  cases r<;>(simp only at h6⊢;rw[h6];simp only[Result.andThen_ok,Sem.run_bind,g1,Sem.run_pure])
theorem aAH{P:Program}{f:FuncId}{L:LFn}(hL:aH P f=some L){args:List V}{h:Hp}{nx:Nat}{R:V→Hp→Nat→Prop}
 (hw:(∀m b,h m=some b→m<nx)→lwp P L.body (aKH L R) ⟨args++List.replicate (L.nt-args.length) V.undef,h,nx⟩):aW P f args h nx R:=by
 unfold aH at hL
 split at hL
 ·rename_i fn hf
  split at hL
  ·cases hL
  rename_i hnm
  split at hL
  ·rename_i c hb
   obtain⟨b,hlc,hL⟩:=Option.bind_eq_some_iff.1 hL
   obtain⟨r,hlr,rfl⟩:=Option.map_eq_some_iff.1 hL
   refine⟨by simp only[fR,hf,hb];simpa using hnm,?_⟩
   intro K cargs hlv hrel hv
   refine callsIn_wide.1 (callsIn_of_wp_marks (n:=4) hf hb trivial ?_)
   have hst:kO K K nx ⟨args++List.replicate (fn.ntmps-args.length) V.undef,h,nx⟩ {tmps:=cargs++Array.replicate (fn.ntmps-cargs.size) Go.undef,defers:=[]}:=by
    refine⟨.refl K,?_,hrel,fun n hn=>⟨hlv n hn, .inl hn⟩,Nat.le_refl _,pH.nil _ _⟩
    refine⟨by simp[hv.1],fun t=>?_⟩
    simp only[List.getD_eq_getElem?_getD,Array.getD_eq_getD_getElem?]
    by_cases e:t<args.length
    ·have:=hv.2 t e
     simp only[List.getD_eq_getElem?_getD,Array.getD_eq_getD_getElem?] at this
     rw[List.getElem?_append_left e,Array.getElem?_append_left (by have:=hv.1;omega)]
     exact this
    rw[List.getElem?_append_right (by omega),Array.getElem?_append_right (by have:=hv.1;omega)]
    rw[List.getElem?_replicate,Array.getElem?_replicate,hv.1]
    split
    ·exact .undef K
    exact .undef K
   refine wpIn_mono (aGC c b hlc none 4 _ _ (hw fun m b hm=>hlv m (hrel.lt m b hm)) K K nx _ hst (.inl rfl)) ?_
   rintro e a' w' ⟨K1',s',le,rfl,hr1',rfl,hq⟩
   obtain⟨Ds,hd1,hd2,hd3⟩:=hr1'.defers
   obtain⟨K',hKw,hV,hKle,hKrel,hKlive⟩:=xL (K:=K) Ds _ K1' rfl (fun D hD=>(hd3 D hD).2) hd1 hr1'.le (fun D hD=>(hd3 D hD).1) (fun b hb=>hrel.size b hb) hr1'.rel
   have hr':∃dummy:True,K.le K'∧gC K' s'.sl a'∧Rel K' s'.h∧(∀n,K'.live n→n<s'.nx∧(K.live n∨nx≤n))∧nx≤s'.nx:=⟨trivial,hKle,hr1'.slots.monoV hV,hKrel,fun n hn=>hr1'.live n (by rw[←hKlive];exact hn),hr1'.nx⟩
   obtain⟨_,hr'le,hr'slots,hr'rel,hr'live,hr'nx⟩:=hr'
   have key:(oN s' r [] fun vs=>∃h',h'.le s'.h∧R (mI vs) h' s'.nx)→∃v,(results fn a'.tmps).run P K'.w= .ok v K'.w∧∃K'' v' cv h' nx',K''.w=K'.w∧Ending.returned v= .returned cv∧K.le K''∧VR K'' v' cv∧Rel K'' h'∧(∀n,K''.live n→n<nx'∧(K.live n∨nx≤n))∧nx≤nx'∧R v' h' nx':=by
    intro hq
    obtain⟨vs,cvs,g1,g2,g3,g4⟩:=qI (P:=P) hr'slots hr'rel fn.results.toList r hlr [] [] rfl (fun i hi=>absurd hi (by simp)) hq
    simp only[List.nil_append] at g2 g3
    have hrun:(results fn a'.tmps).run P K'.w= .ok (if h:cvs.toArray.size=1 then cvs.toArray[0] else .tuple cvs.toArray) K'.w:=by
     unfold results
     simp only[Sem.run_bind,Array.mapM_eq_mapM_toList,Sem.run_map]
     refine Eq.trans (congrArg (fun r:Result (List Value)=>(r.andThen fun a w'=>Result.ok a.toArray w').andThen fun a w'=>Sem.run P (pure (if h:a.size=1 then a[0] else Value.tuple a)) w') g1) ?_
     rfl
    obtain⟨h',hle',g4⟩:=g4
    refine⟨_,hrun,K',mI vs,_,h',s'.nx,rfl,rfl,hr'le,?_,hr'rel.weaken hle',hr'live,hr'nx,g4⟩
    have many:vs.length≠1→VR K' (mI vs) (if h:cvs.toArray.size=1 then cvs.toArray[0] else .tuple cvs.toArray):=by
     intro hne
     rw[dif_neg (by simpa [g2] using hne)]
     have:mI vs= .tup vs:=by
      cases vs with
      |nil=>rfl
      |cons x t=>cases t with
       |nil=>simp at hne
       |cons _ _=>rfl
     rw[this]
     refine .tup vs cvs.toArray (by simp[g2]) fun i hi=>?_
     have:=g3 i hi
     simpa [Array.getD_eq_getD_getElem?,List.getD_eq_getElem?_getD] using this
    by_cases h1:vs.length=1
    ·obtain⟨v,rfl⟩:∃v,vs=[v]:=by
      cases vs with
      |nil=>simp at h1
      |cons x t=>cases t with
       |nil=>exact⟨x,rfl⟩
       |cons _ _=>simp at h1
     obtain⟨cv,rfl⟩:∃v,cvs=[v]:=by
      cases cvs with
      |nil=>simp at g2
      |cons x t=>cases t with
       |nil=>exact⟨x,rfl⟩
       |cons _ _=>simp at g2
     have:=g3 0 (by simp)
     simpa [mI] using this
    exact many h1
   cases le with
   |exit id=>exact hq.elim
   |normal=>
    show LeavesInM Fence.wide 4 P fn a'.tmps _ a'.defers .returning K1'.w
    rw[hd2]
    exact nL Ds _ hd1 (fun D hD=>(hd3 D hD).2) (by rw[←hKw];exact key hq)
   |ret=>
    show LeavesInM Fence.wide 4 P fn a'.tmps _ a'.defers .returning K1'.w
    rw[hd2]
    exact nL Ds _ hd1 (fun D hD=>(hd3 D hD).2) (by rw[←hKw];exact key hq)
  cases hL
 cases hL
def bD.out(sl:List V)(h:Hp):bD→V
 | .move x=>x.ev sl
 | .pick c a b=>match c.ev sl with
  | .bool t=>V.pick t (a.ev sl) (b.ev sl)
  |_=> .undef
 | .load t x=>match x.ev sl with
  | .ptr n _ i o=>match h n with
   |some (.arr _ es)=>bY t o (es.getD i V.undef)
   |_=> .undef
  | .ept _ es i o=>bY t o (es.getD i V.undef)
  |_=> .undef
 | .nilCheck x=>x.ev sl
 | .bin op x y=>match x.ev sl,y.ev sl with
  | .int k a, .int _ b=>match op with
   | .add=> .int k (k.wrap (a+b))
   | .sub=> .int k (k.wrap (a-b))
   | .mul=> .int k (k.wrap (a*b))
   | .quo=> .int k (k.wrap (a.tdiv b))
   | .rem=> .int k (a.tmod b)
   | .eql=> .bool (a==b)
   | .neq=> .bool (a != b)
   | .lss=> .bool (decide (a<b))
   | .leq=> .bool (decide (a≤b))
   | .gtr=> .bool (decide (b<a))
   | .geq=> .bool (decide (b≤a))
   |_=> .undef
  | .str s, .str t=>match op with
   | .add=> .str (s++t)
   | .eql=> .bool (s.toList==t.toList)
   | .neq=> .bool (!(s.toList==t.toList))
   | .lss=> .bool (Op.bytesLess s.toList t.toList)
   | .leq=> .bool (Op.bytesLess s.toList t.toList||s.toList==t.toList)
   | .gtr=> .bool (!(Op.bytesLess s.toList t.toList||s.toList==t.toList))
   | .geq=> .bool (!Op.bytesLess s.toList t.toList)
   |_=> .undef
  |_,_=> .undef
 | .eq ng ty x y=> .bool (if ng then !((veq ty (x.ev sl) (y.ev sl)).getD false) else (veq ty (x.ev sl) (y.ev sl)).getD false)
 | .not x=>match x.ev sl with
  | .bool b=> .bool (!b)
  |_=> .undef
 | .neg x=>match x.ev sl with
  | .int k n=> .int k (k.wrap (0-n))
  |_=> .undef
 | .conv k x=>match x.ev sl with
  | .int _ n=> .int k (k.wrap n)
  |_=> .undef
 | .mkif t x=> .iface t (x.ev sl)
 | .mkfn f first cap=> .fn f (first.map (aL.ev sl)) (cap.map (aL.ev sl))
 | .fldA off x=>match x.ev sl with
  | .ptr n k i o=> .ptr n k i (o+off)
  | .ept k es i o=> .ept k es i (o+off)
  |_=> .undef
 | .fld t off x=>match x.ev sl with
  | .agg cs=>bY t off (.agg cs)
  |_=> .undef
 | .idxA k x i=>match x.ev sl,i.ev sl with
  | .sl _ _ es, .int _ j=> .ept k es j.toNat 0
  | .rs n _ off _, .int _ j=> .ptr n k (off+j.toNat) 0
  |_,_=> .undef
 | .idxP _ k x i=>match x.ev sl,i.ev sl with
  | .ptr n k' i' o, .int _ j=> .ptr n k' i' (o+j.toNat*k.size)
  |_,_=> .undef
 | .len x=>match x.ev sl with
  | .sl _ _ es=> .int .i64 es.length
  | .rs _ _ _ ln=> .int .i64 ln
  |_=> .undef
 | .slen x=>match x.ev sl with
  | .str s=> .int .i64 s.size
  |_=> .undef
 | .ext x i=>match x.ev sl with
  | .tup vs=>vs.getD i V.undef
  |_=> .undef
 | .build z parts=> .agg (aBn z (parts.map fun p=>(p.1,(p.2.2.ev sl).cells)))
 | .slc k x lo hi mx=>match x.ev sl with
  | .sl _ own es=> .sl k (cutE own es (eP sl hi) (eP sl mx)) ((es.take ((dT sl es.length hi).getD 0).toNat).drop ((dT sl 0 lo).getD 0).toNat)
  | .rs n _ off ln=>if mx.isSome=true then .sl k .full [] else if ((dT sl 0 lo).getD 0).toNat=ln∧((dT sl 0 lo).getD 0).toNat≠0 then .sl k .free [] else .rs n k (off+((dT sl 0 lo).getD 0).toNat) (((dT sl ln hi).getD 0).toNat-((dT sl 0 lo).getD 0).toNat)
  |_=> .undef
 | .slcs x lo hi=>match x.ev sl with
  | .str s=> .str (s.extract ((dT sl 0 lo).getD 0).toNat ((dT sl s.size hi).getD 0).toNat)
  |_=> .undef
 | .never=> .undef
 | .capv x=>match x.ev sl with
  | .sl _ .nil _=> .int .i64 0
  | .sl _ .full es=> .int .i64 es.length
  |_=> .undef
 | .mnx mx x y=>match x.ev sl,y.ev sl with
  | .int k a, .int _ b=> .int k (aKI mx a b)
  |_,_=> .undef
 | .sidx x i=>match x.ev sl,i.ev sl with
  | .str s, .int _ j=> .int .u8 (s.data.toList.getD j.toNat 0).toNat
  |_,_=> .undef
 | .asrt t z x=>match x.ev sl with
  | .iface t' v=> .tup [if t'=t then v else z, .bool (decide (t'=t))]
  | .nilIface=> .tup [z, .bool false]
  |_=> .undef
 | .asrq _ x=>match x.ev sl with
  | .iface _ v=>v
  |_=> .undef
 | .mget kS ks z ok x i=>match x.ev sl with
  | .map n=>match h n with
   |some (.mp es _)=>lR ok z es ((eJ (.plain kS ks) (i.ev sl) es).getD none)
   |_=> .undef
  |_=>lR ok z [] none
 | .mlen x=>match x.ev sl with
  | .map n=>match h n with
   |some (.mp es _)=> .int .i64 es.length
   |_=> .undef
  |_=> .int .i64 0
def aDU(op:BinOp)(x y:V):Prop:=
 match x,y with
 | .int k _, .int k' b=>k=k'∧(match op with
  | .add| .sub| .mul| .eql| .neq| .lss| .leq| .gtr| .geq=>True
  | .quo| .rem=>b≠0
  |_=>False)
 | .str s, .str t=>match op with
  | .add=>((s.size+t.size:Nat):Int)≤9223372036854775807
  | .eql| .neq| .lss| .leq| .gtr| .geq=>True
  |_=>False
 |_,_=>False
def bD.ok(sl:List V)(h:Hp):bD→Prop
 | .move _=>True
 | .pick c _ _=>match c.ev sl with
  | .bool _=>True
  |_=>False
 | .load t x=>match x.ev sl with
  | .ptr n k i o=>match h n with
   |some (.arr k' es)=>k'=k∧i<es.length∧cJ k t o
   |_=>False
  | .ept k es i o=>i<es.length∧cJ k t o
  |_=>False
 | .nilCheck x=>match x.ev sl with
  | .ptr _ _ _ _=>True
  | .ept _ _ _ _=>True
  |_=>False
 | .bin op x y=>aDU op (x.ev sl) (y.ev sl)
 | .eq _ ty x y=>(veq ty (x.ev sl) (y.ev sl)).isSome=true
 | .not x=>match x.ev sl with
  | .bool _=>True
  |_=>False
 | .neg x=>match x.ev sl with
  | .int _ _=>True
  |_=>False
 | .conv _ x=>match x.ev sl with
  | .int _ _=>True
  |_=>False
 | .mkif _ _=>True
 | .mkfn _ _ _=>True
 | .fldA _ x=>match x.ev sl with
  | .ptr _ _ _ _=>True
  | .ept _ _ _ _=>True
  |_=>False
 | .fld t off x=>match x.ev sl with
  | .agg cs=>cJ (.agg cs.length) t off∧cs.all V.leafy=true
  |_=>False
 | .idxA k x i=>match x.ev sl,i.ev sl with
  | .sl k' _ es, .int _ j=>k'=k∧0≤j∧j<es.length
  | .rs _ k' _ ln, .int _ j=>k'=k∧0≤j∧j<ln
  |_,_=>False
 | .idxP ln _ x i=>match x.ev sl,i.ev sl with
  | .ptr _ _ _ _, .int _ j=>0≤j∧j<ln
  |_,_=>False
 | .len x=>match x.ev sl with
  | .sl _ _ _=>True
  | .rs _ _ _ _=>True
  |_=>False
 | .slen x=>match x.ev sl with
  | .str _=>True
  |_=>False
 | .ext x i=>match x.ev sl with
  | .tup vs=>i<vs.length
  |_=>False
 | .build z parts=>∀p∈parts,(p.2.2.ev sl).fits p.2.1=true∧p.1+p.2.1.size≤z.length
 | .slc k x lo hi mx=>match x.ev sl with
  | .sl k' _ es=>match dT sl 0 lo,dT sl es.length hi,dT sl es.length mx with
   |some l,some h',some m=>k'=k∧0≤l∧l≤h'∧h'≤m∧m≤es.length∧(hi.isNone=true→mx.isNone=true)
   |_,_,_=>False
  | .rs _ k' _ ln=>match dT sl 0 lo,dT sl ln hi,mx with
   |some l,some h',none=>k'=k∧0≤l∧l≤h'∧h'≤ln
   |some l,some h',some _=>dT sl ln mx=some 0∧k'=k∧l=0∧h'=0∧hi.isSome=true
   |_,_,_=>False
  |_=>False
 | .slcs x lo hi=>match x.ev sl with
  | .str s=>match dT sl 0 lo,dT sl s.size hi with
   |some l,some h'=>0≤l∧l≤h'∧h'≤s.size
   |_,_=>False
  |_=>False
 | .never=>False
 | .capv x=>match x.ev sl with
  | .sl _ .nil _=>True
  | .sl _ .full _=>True
  |_=>False
 | .mnx _ x y=>match x.ev sl,y.ev sl with
  | .int k _, .int k' _=>k=k'
  |_,_=>False
 | .sidx x i=>match x.ev sl,i.ev sl with
  | .str s, .int _ j=>0≤j∧j<s.size
  |_,_=>False
 | .asrt _ _ x=>match x.ev sl with
  | .iface _ _=>True
  | .nilIface=>True
  |_=>False
 | .asrq t x=>match x.ev sl with
  | .iface t' _=>t'=t
  |_=>False
 | .mget kS ks _ _ x i=>(i.ev sl).fits kS=true∧match x.ev sl with
  | .nilMap=>True
  | .map n=>match h n with
   |some (.mp es _)=>(eJ (.plain kS ks) (i.ev sl) es).isSome=true
   |_=>False
  |_=>False
 | .mlen x=>match x.ev sl with
  | .nilMap=>True
  | .map n=>match h n with
   |some (.mp _ _)=>True
   |_=>False
  |_=>False
theorem bD.sem_of_ok{sl:List V}{h:Hp}{R:V→Prop}{l:bD}(ho:l.ok sl h)(hR:R (l.out sl h)):l.sem sl h R:=by
 cases l<;>simp only[bD.ok,bD.out,bD.sem] at ho hR⊢
 case bin op x y=>
  generalize x.ev sl=v at ho hR⊢
  generalize y.ev sl=u at ho hR⊢
  cases v<;>try (exact ho.elim)
  ·cases u<;>try (exact ho.elim)
   obtain⟨rfl,ho⟩:=ho
   cases op<;>simp only at ho hR<;>first|exact ho.elim|exact⟨rfl,hR⟩|exact⟨rfl,ho,hR⟩
  cases u<;>try (exact ho.elim)
  simp only[aDU] at ho
  cases op<;>simp only at ho hR<;>first|exact ho.elim|exact hR|exact⟨ho,hR⟩
 case eq ng ty x y=>
  cases hv:veq ty (x.ev sl) (y.ev sl) with
  |none=>simp[hv] at ho
  |some r=>simpa [hv] using hR
 case load t x=>
  generalize x.ev sl=v at ho hR⊢
  cases v<;>try (exact ho.elim)
  ·rename_i n k i o
   simp only at ho hR⊢
   cases hn:h n with
   |none=>rw[hn] at ho;exact ho.elim
   |some b=>cases b with
    |tip=>rw[hn] at ho;exact ho.elim
    |obj o _=>rw[hn] at ho;exact ho.elim
    |mp _ _=>rw[hn] at ho;exact ho.elim
    |mit _ _ _ _=>rw[hn] at ho;exact ho.elim
    |arr k' es=>rw[hn] at ho hR;exact⟨ho.1,ho.2.1,ho.2.2,hR⟩
  exact⟨ho.1,ho.2,hR⟩
 case mget kS ks z ok x i=>
  refine⟨ho.1,?_⟩
  have ho:=ho.2
  generalize x.ev sl=v at ho hR⊢
  cases v<;>try (exact ho.elim)
  ·exact hR
  rename_i n
  simp only at ho hR⊢
  cases hn:h n with
  |none=>rw[hn] at ho;exact ho.elim
  |some b=>cases b with
   |mp es c=>
    rw[hn] at ho hR
    cases hf:eJ (.plain kS ks) (i.ev sl) es with
    |none=>simp[hf] at ho
    |some r=>simp only[hf,Option.getD_some] at hR⊢;exact hR
   |_=>rw[hn] at ho;exact ho.elim
 case mlen x=>
  generalize x.ev sl=v at ho hR⊢
  cases v<;>try (exact ho.elim)
  ·exact hR
  rename_i n
  simp only at ho hR⊢
  cases hn:h n with
  |none=>rw[hn] at ho;exact ho.elim
  |some b=>cases b with
   |mp es c=>rw[hn] at hR;exact hR
   |_=>rw[hn] at ho;exact ho.elim
 case idxA k x i=>
  generalize x.ev sl=v at ho hR⊢
  generalize i.ev sl=u at ho hR⊢
  cases v<;>try (exact ho.elim)
  ·cases u<;>first|exact ho.elim|exact⟨ho.1,ho.2.1,ho.2.2,hR⟩
  cases u<;>first|exact ho.elim|exact⟨ho.1,ho.2.1,ho.2.2,hR⟩
 case idxP n k x i=>
  generalize x.ev sl=v at ho hR⊢
  generalize i.ev sl=u at ho hR⊢
  cases v<;>try (exact ho.elim)
  cases u<;>first|exact ho.elim|exact⟨ho.1,ho.2,hR⟩
 case pick c a b=>
  generalize c.ev sl=v at ho hR⊢
  cases v<;>first|exact ho.elim|exact hR
 case build z ps=>exact⟨ho,hR⟩
 case slc k x lo hi mx=>
  generalize x.ev sl=v at ho hR⊢
  cases v<;>try (exact ho.elim)
  ·rename_i k' own es
   simp only at ho hR⊢
   generalize eP sl hi=og1 at hR⊢
   generalize eP sl mx=og2 at hR⊢
   generalize dT sl 0 lo=b1 at ho hR⊢
   generalize dT sl es.length hi=b2 at ho hR⊢
   generalize dT sl es.length mx=b3 at ho hR⊢
   cases b1<;>try (exact ho.elim)
   cases b2<;>try (exact ho.elim)
   cases b3<;>try (exact ho.elim)
   exact⟨ho.1,ho.2.1,ho.2.2.1,ho.2.2.2.1,ho.2.2.2.2.1,ho.2.2.2.2.2,hR⟩
  rename_i n k' off ln
  simp only at ho hR⊢
  generalize dT sl 0 lo=b1 at ho hR⊢
  generalize dT sl ln hi=b2 at ho hR⊢
  cases b1<;>try (exact ho.elim)
  cases b2<;>try (exact ho.elim)
  cases mx with
  |none=>exact⟨ho.1,ho.2.1,ho.2.2.1,ho.2.2.2,by simpa using hR⟩
  |some m=>exact⟨ho.1,ho.2.1,ho.2.2.1,ho.2.2.2.1,ho.2.2.2.2,by simpa using hR⟩
 case slcs x lo hi=>
  generalize x.ev sl=v at ho hR⊢
  cases v<;>try (exact ho.elim)
  rename_i s
  simp only at ho hR⊢
  generalize dT sl 0 lo=b1 at ho hR⊢
  generalize dT sl s.size hi=b2 at ho hR⊢
  cases b1<;>try (exact ho.elim)
  cases b2<;>try (exact ho.elim)
  exact⟨ho.1,ho.2.1,ho.2.2,hR⟩
 case capv x=>
  generalize x.ev sl=v at ho hR⊢
  cases v<;>try (exact ho.elim)
  rename_i k own es
  cases own<;>first|exact ho.elim|exact hR
 case mnx b x y=>
  generalize x.ev sl=v at ho hR⊢
  generalize y.ev sl=u at ho hR⊢
  cases v<;>try (exact ho.elim)
  cases u<;>first|exact ho.elim|exact⟨ho,hR⟩
 case sidx x y=>
  generalize x.ev sl=v at ho hR⊢
  generalize y.ev sl=u at ho hR⊢
  cases v<;>try (exact ho.elim)
  cases u<;>first|exact ho.elim|exact⟨ho.1,ho.2,hR⟩
 case asrt t z x=>
  generalize x.ev sl=v at ho hR⊢
  cases v<;>first|exact ho.elim|exact hR
 case asrq t x=>
  generalize x.ev sl=v at ho hR⊢
  cases v<;>first|exact ho.elim|exact⟨ho,hR⟩
 case move=>exact hR
 case mkif=>exact hR
 case mkfn=>exact hR
 case nilCheck x=>
  generalize x.ev sl=v at ho hR⊢
  cases v<;>first|exact ho.elim|exact hR|exact⟨ho,hR⟩|exact⟨ho.1,ho.2,hR⟩
 case not x=>
  generalize x.ev sl=v at ho hR⊢
  cases v<;>first|exact ho.elim|exact hR|exact⟨ho,hR⟩|exact⟨ho.1,ho.2,hR⟩
 case neg x=>
  generalize x.ev sl=v at ho hR⊢
  cases v<;>first|exact ho.elim|exact hR|exact⟨ho,hR⟩|exact⟨ho.1,ho.2,hR⟩
 case conv k x=>
  generalize x.ev sl=v at ho hR⊢
  cases v<;>first|exact ho.elim|exact hR|exact⟨ho,hR⟩|exact⟨ho.1,ho.2,hR⟩
 case fldA o x=>
  generalize x.ev sl=v at ho hR⊢
  cases v<;>first|exact ho.elim|exact hR|exact⟨ho,hR⟩|exact⟨ho.1,ho.2,hR⟩
 case fld t o x=>
  generalize x.ev sl=v at ho hR⊢
  cases v<;>first|exact ho.elim|exact hR|exact⟨ho,hR⟩|exact⟨ho.1,ho.2,hR⟩
 case len x=>
  generalize x.ev sl=v at ho hR⊢
  cases v<;>first|exact ho.elim|exact hR|exact⟨ho,hR⟩|exact⟨ho.1,ho.2,hR⟩
 case slen x=>
  generalize x.ev sl=v at ho hR⊢
  cases v<;>first|exact ho.elim|exact hR|exact⟨ho,hR⟩|exact⟨ho.1,ho.2,hR⟩
 case ext x i=>
  generalize x.ev sl=v at ho hR⊢
  cases v<;>first|exact ho.elim|exact hR|exact⟨ho,hR⟩|exact⟨ho.1,ho.2,hR⟩
def LOp.isCall:LOp→Bool
 | .call _ _=>true
 | .callv _ _=>true
 | .callw _ _ _=>true
 | .mp _=>true
 |_=>false
def LOp.next(dst:Option Nat)(s:St):LOp→St
 | .val x=>⟨bF s.sl dst (x.out s.sl s.h),s.h,s.nx⟩
 | .box k x=>⟨bF s.sl dst (.ptr s.nx k 0 0),s.h.set s.nx (.arr k [x.ev s.sl]),s.nx+1⟩
 | .bslice k es=>⟨bF s.sl dst (.sl k (.tok s.nx) (es.map (aL.ev s.sl))),s.h.set s.nx .tip,s.nx+1⟩
 | .append k _ x y=>match dX s.h (y.ev s.sl) with
  |some (_,ys)=>match x.ev s.sl with
   | .sl _ own xs=>⟨bF s.sl dst (.sl k (fF s.nx own ys) (xs++ys)),eQ s.h s.nx own ys,s.nx+1⟩
   | .rs n _ _ _=>match s.h n with
    |some (.arr _ es)=>⟨bF s.sl dst (.rs s.nx k 0 (es.length+ys.length)),(s.h.del n).set s.nx (.arr k (es++ys)),s.nx+1⟩
    |_=>s
   |_=>s
  |none=>s
 | .store t x v=>match x.ev s.sl with
  | .ptr n k i o=>match s.h n with
   |some (.arr _ es)=>⟨bF s.sl dst V.undef,s.h.set n (.arr k (es.set i (bR t o (es.getD i V.undef) (v.ev s.sl)))),s.nx+1⟩
   |_=>s
  |_=>s
 | .mkz k _ x z=>match x.ev s.sl with
  | .int _ m=>⟨bF s.sl dst (.rs s.nx k 0 m.toNat),s.h.set s.nx (.arr k (List.replicate m.toNat z)),s.nx+1⟩
  |_=>s
 | .appz k _ _ y z=>match y.ev s.sl with
  | .int _ m=>⟨bF s.sl dst (.rs s.nx k 0 m.toNat),s.h.set s.nx (.arr k (List.replicate m.toNat z)),s.nx+1⟩
  |_=>s
 | .clear k x z=>match x.ev s.sl with
  | .rs n _ off ln=>match s.h n with
   |some (.arr _ es)=>⟨bF s.sl dst V.undef,s.h.set n (.arr k (es.take off++List.replicate ln z++es.drop (off+ln))),s.nx+1⟩
   |_=>s
  |_=>⟨bF s.sl dst V.undef,s.h,s.nx+1⟩
 |_=>s
def LOp.ok(s:St):LOp→Prop
 | .val x=>x.ok s.sl s.h
 | .box k x=>(x.ev s.sl).fits k=true
 | .bslice k es=>∀e∈es,(e.ev s.sl).fits k=true
 | .append k bytes x y=>match dX s.h (y.ev s.sl) with
  |some (ky,ys)=>ky=k∧match x.ev s.sl with
   | .sl kx own xs=>kx=k∧(xs.length+ys.length)*bytes≤140737488355328∧tK s.h own
   | .rs n kx off len=>match s.h n with
    |some (.arr kb es)=>kx=k∧kb=k∧off=0∧len=es.length∧ys≠ []∧(es.length+ys.length)*bytes≤140737488355328
    |_=>False
   |_=>False
  |none=>False
 | .store t x v=>match x.ev s.sl with
  | .ptr n k i o=>match s.h n with
   |some (.arr k' es)=>k'=k∧i<es.length∧cJ k t o∧(v.ev s.sl).fits t=true
   |_=>False
  |_=>False
 | .mkz _ bytes x _=>match x.ev s.sl with
  | .int _ m=>0≤m∧m.toNat*bytes≤140737488355328
  |_=>False
 | .appz k bytes x y _=>match x.ev s.sl,y.ev s.sl with
  | .sl k' .nil [], .int _ m=>k'=k∧0<m∧m.toNat*bytes≤140737488355328
  |_,_=>False
 | .clear k x _=>match x.ev s.sl with
  | .rs n k' off ln=>match s.h n with
   |some (.arr kb es)=>k'=k∧kb=k∧off+ln≤es.length
   |_=>False
  | .sl _ _ []=>True
  |_=>False
 |_=>False
def aA.next(o:aA)(s:St):St:=
 match o.g with
 |none=>o.op.next o.dst s
 |some (t,want)=>match s.sl.getD t V.undef with
  | .bool b=>if b=want then o.op.next o.dst s else ⟨bF s.sl o.dst V.undef,s.h,s.nx⟩
  |_=>⟨bF s.sl o.dst V.undef,s.h,s.nx⟩
def aA.ok(o:aA)(s:St):Prop:=
 match o.g with
 |none=>o.op.ok s
 |some (t,want)=>match s.sl.getD t V.undef with
  | .bool b=>b=want→o.op.ok s
  | .tup _=>True
  |_=>False
def iL:List aA→St→St
 | [],s=>s
 |o::r,s=>iL r (o.next s)
def oS:List aA→St→Prop
 | [],_=>True
 |o::r,s=>o.ok s∧oS r (o.next s)
theorem pU{P:Program}{o:aA}{r:List aA}{Q:St→Prop}{s:St}(hc:o.op.isCall=false)(ho:o.ok s)(h:aV P r Q (o.next s)):aV P (o::r) Q s:=by
 have go:o.op.ok s→aV P r Q (o.op.next o.dst s)→o.op.run P s.sl s.h s.nx fun v h' nx'=>aV P r Q ⟨bF s.sl o.dst v,h',nx'⟩:=by
  intro ho h
  generalize o.op=op at hc ho h⊢
  cases op with
  |val x=>exact bD.sem_of_ok (R:=fun v=>aV P r Q ⟨bF s.sl o.dst v,s.h,s.nx⟩) ho h
  |box k x=>exact⟨ho,h⟩
  |bslice k es=>exact⟨ho, .inl h⟩
  |mkz k b x z=>
   simp only[LOp.ok,LOp.next,LOp.run,LOp.sem] at ho h⊢
   generalize x.ev s.sl=v at ho h⊢
   cases v<;>first|exact ho.elim|exact⟨ho.1,ho.2, .inl h⟩
  |appz k b x y z=>
   simp only[LOp.ok,LOp.next,LOp.run,LOp.sem] at ho h⊢
   generalize x.ev s.sl=v at ho h⊢
   generalize y.ev s.sl=u at ho h⊢
   split at ho
   ·exact⟨ho.1,ho.2.1,ho.2.2,h⟩
   exact ho.elim
  |clear k x z=>
   simp only[LOp.ok,LOp.next,LOp.run,LOp.sem] at ho h⊢
   generalize x.ev s.sl=v at ho h⊢
   split at ho
   ·rename_i n k' off ln
    simp only at h⊢
    cases hn:s.h n with
    |none=>rw[hn] at ho;exact ho.elim
    |some b=>cases b with
     |tip=>rw[hn] at ho;exact ho.elim
     |obj o _=>rw[hn] at ho;exact ho.elim
     |mp _ _=>rw[hn] at ho;exact ho.elim
     |mit _ _ _ _=>rw[hn] at ho;exact ho.elim
     |arr k' es=>rw[hn] at ho h;exact⟨ho.1,ho.2.1,ho.2.2,h⟩
   ·exact h
   exact ho.elim
  |callw f a b=>simp[LOp.isCall] at hc
  |mp m=>simp[LOp.isCall] at hc
  |append k b x y=>
   simp only[LOp.ok,LOp.next,LOp.run,LOp.sem] at ho h⊢
   generalize x.ev s.sl=v at ho h⊢
   generalize dX s.h (y.ev s.sl)=u at ho h⊢
   cases u with
   |none=>exact ho.elim
   |some u=>
    obtain⟨ky,ys⟩:=u
    refine⟨ho.1,?_⟩
    replace ho:=ho.2
    cases v<;>try (exact ho.elim)
    ·exact⟨ho.1,ho.2.1, .inl ⟨ho.2.2,h⟩⟩
    rename_i n kx off len
    simp only at ho h⊢
    cases hn:s.h n with
    |none=>rw[hn] at ho;exact ho.elim
    |some b=>cases b with
     |tip=>rw[hn] at ho;exact ho.elim
     |obj o _=>rw[hn] at ho;exact ho.elim
     |mp _ _=>rw[hn] at ho;exact ho.elim
     |mit _ _ _ _=>rw[hn] at ho;exact ho.elim
     |arr k' es=>
      rw[hn] at ho h
      obtain⟨o1,o2,o3,o4,o5,o6⟩:=ho
      subst o4
      refine⟨o1, .inr ⟨o2,o3,Nat.le_refl _,o5,o6,?_⟩⟩
      simp only[List.take_length]
      exact h
  |store t x v=>
   simp only[LOp.ok,LOp.next,LOp.run,LOp.sem] at ho h⊢
   generalize x.ev s.sl=u at ho h⊢
   cases u<;>try (exact ho.elim)
   rename_i n k i o'
   simp only at ho h⊢
   cases hn:s.h n with
   |none=>rw[hn] at ho;exact ho.elim
   |some b=>cases b with
    |tip=>rw[hn] at ho;exact ho.elim
    |obj o _=>rw[hn] at ho;exact ho.elim
    |mp _ _=>rw[hn] at ho;exact ho.elim
    |mit _ _ _ _=>rw[hn] at ho;exact ho.elim
    |arr k' es=>rw[hn] at ho h;exact⟨ho.1,ho.2.1,ho.2.2.1,ho.2.2.2,h⟩
  |call f a=>simp[LOp.isCall] at hc
  |callv x a=>simp[LOp.isCall] at hc
 unfold aV
 unfold aA.ok at ho
 unfold aA.next at h
 cases hg:o.g with
 |none=>rw[hg] at ho h;exact go ho h
 |some p=>
  obtain⟨t,want⟩:=p
  rw[hg] at ho h
  simp only at ho h⊢
  cases hv:s.sl.getD t V.undef<;>rw[hv] at ho h<;>simp only at ho h⊢<;>first
   |exact ho.elim
   |exact h
   |(split at h
     ·rename_i e;rw[if_pos e];exact go (ho e) h
     rename_i e;rw[if_neg e];exact h)
def rA:List aA→List aA
 | []=>[]
 |o::r=>if o.op.isCall=true then [] else o::rA r
def pP:List aA→List aA
 | []=>[]
 |o::r=>if o.op.isCall=true then o::r else pP r
theorem aDg{P:Program}{Q:St→Prop}:∀(l:List aA) (s:St),oS (rA l) s→aV P (pP l) Q (iL (rA l) s)→aV P l Q s
 | [],s,_,h=>h
 |o::r,s,ho,h=>by
  by_cases hc:o.op.isCall=true
  ·simp only[rA,pP,hc,if_true] at ho h;exact h
  simp only[rA,pP,hc] at ho h
  exact pU (by simpa using hc) ho.1 (aDg r _ ho.2 h)
theorem aIi{P:Program}{Q:St→Prop}(l:List aA)(hl:l.all (fun o=> !o.op.isCall)=true)(s:St)(ho:oS l s)(h:Q (iL l s)):aV P l Q s:=by
 have e1:∀l:List aA,l.all (fun o=> !o.op.isCall)=true→rA l=l∧pP l=[]:=by
  intro l
  induction l with
  |nil=>intro _;exact⟨rfl,rfl⟩
  |cons o r ih=>
   intro h
   simp only[List.all_cons,Bool.and_eq_true,Bool.not_eq_true'] at h
   obtain⟨q1,q2⟩:=ih h.2
   constructor
   ·simp only[rA,h.1,q1];rfl
   simp only[pP,h.1,q2];rfl
 obtain⟨q1,q2⟩:=e1 l hl
 refine aDg l s (by rw[q1];exact ho) ?_
 rw[q1,q2]
 exact h
abbrev Hp.none:Hp:=fun _=>Option.none
theorem uZ{a b c:Hp}(h:Hp.has a b)(h':Hp.has b c):Hp.has a c:=fun n b e hb=>h' n b (h n b e hb) hb
theorem bX(h:Hp):Hp.has Hp.none h:=fun n b e _=>by cases e
theorem aR(h:Hp):Hp.has h h:=fun _ _ e _=>e
theorem aZ.mono{P:Program}{f:FuncId}{args:List V}{h h':Hp}{v:V}(p:aZ P f args h v)(hh:h.has h'):aZ P f args h' v:=fun h'' nx q=>p h'' nx (uZ hh q)
theorem pI.mono{P:Program}{f:FuncId}{args:List V}{h h':Hp}{k:Sh}{es:List V}(p:pI P f args h k es)(hh:h.has h'):pI P f args h' k es:=⟨p.1,fun h'' nx q=>p.2 h'' nx (uZ hh q)⟩
theorem aU{P:Program}{f:FuncId}{args:List V}{h:Hp}{v:V}(hv:∀L,v.names L)(hc:∀h' nx,h.has h'→aW P f args h' nx fun v' h'' _=>v'=v∧h''=h'):aZ P f args h v:=by
 intro h' nx hh
 have c:=hc h' nx hh
 refine⟨c.1,fun K cargs hlv hrel hargs=>(c.2 K cargs hlv hrel hargs).mono ?_⟩
 rintro e w' ⟨K',v',cv,h'',nx',rfl,he,hle,hvr,hrel',hlv',hnx,rfl,rfl⟩
 have hleO:K.le (K'.only fun n=>K'.live n∧n<nx):=⟨fun n hn=>⟨hle.live n hn,hlv n hn⟩,hle.mu,hle.tp,hle.fro,hle.imm,hle.cell,hle.shape,hle.below⟩
 exact⟨K'.only fun n=>K'.live n∧n<nx,v',cv,h'',nx,rfl,he,hleO,hvr.only _ (hv _),hrel.back hrel' hleO.toV (fun n hn=>⟨hle.live n hn,hlv n hn⟩),fun n hn=>⟨hn.2,(hlv' n hn.1).2⟩,Nat.le_refl _,rfl,rfl,rfl⟩
theorem aDv{P:Program}{f:FuncId}{args:List V}{h:Hp}{k:Sh}{es:List V}(hv:∀L,bP L es)(hc:∀h' nx,h.has h'→aW P f args h' nx fun v' h'' _=>∃id,nx≤id∧v'= .sl k (.tok id) es∧h''=h'.set id .tip):pI P f args h k es:=by
 refine⟨hv,?_⟩
 intro h' nx hh
 have c:=hc h' nx hh
 refine⟨c.1,fun K cargs hlv hrel hargs=>(c.2 K cargs hlv hrel hargs).mono ?_⟩
 rintro e w' ⟨K',v',cv,h'',nx',rfl,he,hle,hvr,hrel',hlv',hnx,id,hid,rfl,rfl⟩
 have hdom:∀n b,h' n=some b→n<nx:=fun n b e=>hlv n (hrel.lt n b e)
 have hset:(h'.set id .tip) id=some .tip:=by simp[Hp.set]
 --first all names of its own but the token are forgotten,then the token is called nx
 have hle1:K.le (K'.only fun n=>(K'.live n∧n<nx)∨n=id):=⟨fun n hn=> .inl ⟨hle.live n hn,hlv n hn⟩,hle.mu,hle.tp,hle.fro,hle.imm,hle.cell,hle.shape,hle.below⟩
 have hlid:K'.live id:=hrel'.lt id _ hset
 have hrelA:Rel (K'.only fun n=>(K'.live n∧n<nx)∨n=id) (h'.set id .tip):=by
  refine⟨fun n b e=>?_,hrel'.base,fun n b e=>?_,hrel'.inj,hrel'.size⟩
  ·unfold Hp.set at e
   split at e
   ·rename_i hn;exact .inr hn
   exact .inl ⟨hle.live n (hrel.lt n b e),hdom n b e⟩
  have hb':=hrel'.blk n b e
  cases hb' with
  |tip c T hh hi ht=>exact .tip c T hh hi ht
  |obj o U hh ho _ hU=>
   have hne:n≠id:=by rintro rfl;rw[hset] at e;cases e
   have e':h' n=some (.obj o U):=by unfold Hp.set at e;rw[if_neg hne] at e;exact e
   have hb:=hrel.blk n _ e'
   cases hb with
   |obj _ _ _ _ hu _=>exact .obj o U hh ho (hU _ _ hle1.toV hu) hU
  |arr k es c T hh hsz hi hfit hvs=>
   have hne:n≠id:=by rintro rfl;rw[hset] at e;cases e
   have e':h' n=some (.arr k es):=by unfold Hp.set at e;rw[if_neg hne] at e;exact e
   refine .arr k es c T hh hsz hi hfit fun i hi j hj=>(hvs i hi j hj).only _ ?_
   have hb:=hrel.blk n _ e'
   cases hb with
   |arr _ _ c0 T0 hh0 hsz0 hi0 hfit0 hvs0=>exact cA (fun m hm=> .inl ⟨hle.live m hm,hlv m hm⟩) (hvs0 i hi j hj).names
  |mp es c ces hh hl hvv=>
   have hne:n≠id:=by rintro rfl;rw[hset] at e;cases e
   have e':h' n=some (.mp es c):=by unfold Hp.set at e;rw[if_neg hne] at e;exact e
   have hb:=hrel.blk n _ e'
   cases hb with
   |mp _ _ ces0 hh0 hl0 hv0=>exact .mp es c ces hh hl fun i hi=>⟨(hvv i hi).1.only _ (cA (fun m hm=> .inl ⟨hle.live m hm,hlv m hm⟩) (hv0 i hi).1.names),(hvv i hi).2.1.only _ (cA (fun m hm=> .inl ⟨hle.live m hm,hlv m hm⟩) (hv0 i hi).2.1.names),(hvv i hi).2.2⟩
  |mit m since seen last hh hm=>
   have hne:n≠id:=by rintro rfl;rw[hset] at e;cases e
   have e':h' n=some (.mit m since seen last):=by unfold Hp.set at e;rw[if_neg hne] at e;exact e
   have hb:=hrel.blk n _ e'
   cases hb with
   |mit _ _ _ _ hh0 hm0=>exact .mit m since seen last hh (.inl ⟨hle.live m hm0,hlv m hm0⟩)
 have hvrA:VR (K'.only fun n=>(K'.live n∧n<nx)∨n=id) (.sl k (.tok id) es) cv:=hvr.only _ ⟨fun n e=>by injection e with e;exact .inr e.symm,hv _⟩
 by_cases hidn:id=nx
 ·subst hidn
  refine⟨K'.only fun n=>(K'.live n∧n<id)∨n=id,_,cv,_,id+1,rfl,he,hle1,hvrA,hrelA,fun n hn=>?_,by omega,rfl,rfl,rfl⟩
  rcases hn with hn|hn
  ·exact⟨by omega,(hlv' n hn.1).2⟩
  exact⟨by omega, .inr (by omega)⟩
 have hfr:¬((K'.live nx∧nx<nx)∨nx=id):=fun h=>h.elim (fun h=>Nat.lt_irrefl _ h.2) (fun h=>hidn h.symm)
 generalize hKA:(K'.only fun n=>(K'.live n∧n<nx)∨n=id)=KA at hle1 hrelA hvrA
 have hfr':¬KA.live nx:=by rw[←hKA];exact hfr
 have hbr:=hrelA.blk id _ hset
 have hle2:=KA.le_claim (b:=KA.mu id) (m:=KA.imm (KA.mu id)) hfr' (Nat.le_refl _)
 have hrelB:=hrelA.claim hset (a:=nx) (m:=KA.imm (KA.mu id)) hfr' (Nat.le_refl _) (b1:= .tip) (by
  cases hbr with
  |tip c T hh hi ht=>exact .tip c T (by simpa [Ker.claim] using hh) (by simp[Ker.claim]) (by simpa [Ker.claim,hi] using ht))
 have hn0:h' id=none:=by
  cases e:h' id with
  |none=>rfl
  |some b=>have:=hdom id b e;omega
 have hdel:((h'.set id .tip).del id).set nx .tip=h'.set nx .tip:=by
  funext x
  unfold Hp.set Hp.del
  by_cases e1:x=nx
  ·simp[e1]
  by_cases e2:x=id
  ·simp[e1,e2,hn0]
  simp[e1,e2]
 rw[hdel] at hrelB
 have hvrB:VR (KA.claim nx (KA.mu id) (KA.imm (KA.mu id))) (.sl k (.tok nx) es) cv:=by
  cases hvrA with
  |sl _ _ _ b off cap f' hb' hfit' hcell hst hv hcap hnil hfull htok=>
   refine .sl k (.tok nx) es b off cap f' hb' hfit' hcell (fun j hj=>hle2.still hb' (hst j hj)) (fun i hi j hj=>(hv i hi j hj).mono hle2) hcap (by simp) (by simp) ?_
   intro m hm
   injection hm with hm
   subst hm
   obtain⟨hln,htk⟩:=htok id rfl
   refine⟨.inl rfl,?_⟩
   rcases htk with q|⟨q1,q2,q3⟩
   ·exact .inl q
   refine .inr ⟨by simp[Ker.claim,q1],?_,q3⟩
   cases hbr with
   |tip c T hh hi ht=>simp[Ker.claim,hi,q2]
 --and its old name is forgotten
 have hleC:K.le ((KA.claim nx (KA.mu id) (KA.imm (KA.mu id))).only fun n=>(K'.live n∧n<nx)∨n=nx):=by
  have:=hle1.trans hle2
  exact⟨fun n hn=> .inl ⟨hle.live n hn,hlv n hn⟩,this.mu,this.tp,this.fro,this.imm,this.cell,this.shape,this.below⟩
 refine⟨(KA.claim nx (KA.mu id) (KA.imm (KA.mu id))).only fun n=>(K'.live n∧n<nx)∨n=nx,_,cv,_,nx+1,?_,he,hleC,hvrB.only _ ⟨fun n e=>by injection e with e;exact .inr e.symm,hv _⟩,?_,fun n hn=>?_,by omega,rfl,rfl,rfl⟩
 ·rw[←hKA];rfl
 ·refine⟨fun n b e=>?_,hrelB.base,fun n b e=>?_,hrelB.inj,hrelB.size⟩
  ·unfold Hp.set at e
   split at e
   ·rename_i hn;exact .inr hn
   exact .inl ⟨hle.live n (hrel.lt n b e),hdom n b e⟩
  have hb':=hrelB.blk n b e
  cases hb' with
  |tip c T hh hi ht=>exact .tip c T hh hi ht
  |obj o U hh ho _ hU=>
   have hne:n≠nx:=by rintro rfl;simp[Hp.set] at e
   have e':h' n=some (.obj o U):=by unfold Hp.set at e;rw[if_neg hne] at e;exact e
   have hb:=hrel.blk n _ e'
   cases hb with
   |obj _ _ _ _ hu _=>exact .obj o U hh ho (hU _ _ hleC.toV hu) hU
  |arr k es c T hh hsz hi hfit hvs=>
   have hne:n≠nx:=by rintro rfl;simp[Hp.set] at e
   have e':h' n=some (.arr k es):=by unfold Hp.set at e;rw[if_neg hne] at e;exact e
   refine .arr k es c T hh hsz hi hfit fun i hi j hj=>(hvs i hi j hj).only _ ?_
   have hb:=hrel.blk n _ e'
   cases hb with
   |arr _ _ c0 T0 hh0 hsz0 hi0 hfit0 hvs0=>exact cA (fun m hm=> .inl ⟨hle.live m hm,hlv m hm⟩) (hvs0 i hi j hj).names
  |mp es c ces hh hl hvv=>
   have hne:n≠nx:=by rintro rfl;simp[Hp.set] at e
   have e':h' n=some (.mp es c):=by unfold Hp.set at e;rw[if_neg hne] at e;exact e
   have hb:=hrel.blk n _ e'
   cases hb with
   |mp _ _ ces0 hh0 hl0 hv0=>exact .mp es c ces hh hl fun i hi=>⟨(hvv i hi).1.only _ (cA (fun m hm=> .inl ⟨hle.live m hm,hlv m hm⟩) (hv0 i hi).1.names),(hvv i hi).2.1.only _ (cA (fun m hm=> .inl ⟨hle.live m hm,hlv m hm⟩) (hv0 i hi).2.1.names),(hvv i hi).2.2⟩
  |mit m since seen last hh hm=>
   have hne:n≠nx:=by rintro rfl;simp[Hp.set] at e
   have e':h' n=some (.mit m since seen last):=by unfold Hp.set at e;rw[if_neg hne] at e;exact e
   have hb:=hrel.blk n _ e'
   cases hb with
   |mit _ _ _ _ hh0 hm0=>exact .mit m since seen last hh (.inl ⟨hle.live m hm0,hlv m hm0⟩)
 rcases hn with hn|hn
 ·exact⟨by omega,(hlv' n hn.1).2⟩
 exact⟨by omega, .inr (by omega)⟩
section
variable{P:Program}{Q:cD→St→Prop}{s:St}
theorem dZ(h:Q .normal s):lwp P .skip Q s:=h
theorem bI{a b:bE}(h:lwp P a (qB (lwp P b) Q) s):lwp P (.seq a b) Q s:=h
theorem cT{id:Nat}{c:bE}(h:lwp P c (gB id Q) s):lwp P (.block id c) Q s:=h
theorem lE{id:Nat}(h:Q (.exit id) s):lwp P (.exit id) Q s:=h
theorem bU(h:Q .ret s):lwp P .ret Q s:=h
theorem cP{c:aL}{a b:bE}(t:Bool)(hc:c.ev s.sl= .bool t)(ht:t=true→lwp P a Q s)(hf:t=false→lwp P b Q s):lwp P (.cond c a b) Q s:=by
 simp only[lwp,hc]
 cases t
 ·simpa using hf rfl
 simpa using ht rfl
theorem bN{l:List aA}(h:aV P l (Q .normal) s):lwp P (.ops l) Q s:=h
theorem aO{b:(cD→St→Prop)→St→Prop}(h:b Q s):qB b Q .normal s:=⟨s,(Wk.refl s).tell,h⟩
theorem kI{b:(cD→St→Prop)→St→Prop}(s':St)(hw:Wk s s')(h:b Q s'):qB b Q .normal s:=⟨s',hw.tell,h⟩
theorem iV{b:(cD→St→Prop)→St→Prop}{id:Nat}(h:Q (.exit id) s):qB b Q (.exit id) s:=h
theorem gK{b:(cD→St→Prop)→St→Prop}(h:Q .ret s):qB b Q .ret s:=h
theorem bT{id:Nat}(h:Q .normal s):gB id Q .normal s:=h
theorem eL{id:Nat}(h:Q .ret s):gB id Q .ret s:=h
theorem gA{id:Nat}(h:Q .normal s):gB id Q (.exit id) s:=by simp only[gB,if_true];exact h
theorem bQ{id id':Nat}(hne:id'≠id)(h:Q (.exit id') s):gB id Q (.exit id') s:=by simp only[gB,if_neg hne];exact h
def aBP{ι:Type}(C:ι→Prop)(st:ι→St)(m:ι→Nat)(n:Nat)(Q:cD→St→Prop):cD→St→Prop
 | .normal,s=>∃i,C i∧m i<n∧aAI s (st i)
 |e,s=>Q e s
theorem gL{ι:Type}{C:ι→Prop}{st:ι→St}{m:ι→Nat}{n:Nat}(i:ι)(hC:C i)(hm:m i<n)(hw:Wk s (st i)):aBP C st m n Q .normal s:=⟨i,hC,hm,hw.tell⟩
theorem iD{ι:Type}{C:ι→Prop}{st:ι→St}{m:ι→Nat}{n:Nat}{id:Nat}(h:Q (.exit id) s):aBP C st m n Q (.exit id) s:=h
theorem fA{ι:Type}{C:ι→Prop}{st:ι→St}{m:ι→Nat}{n:Nat}(h:Q .ret s):aBP C st m n Q .ret s:=h
theorem LOp.run_mono{sl:List V}{hp:Hp}{nx:Nat}{R R':V→Hp→Nat→Prop}{o:LOp}(hR:∀v h' nx',R v h' nx'→R' v h' nx')(hx:o.run P sl hp nx R):o.run P sl hp nx R':=by
 have semM:∀{sl:List V} {hp:Hp} {R R':V→Prop} {x:bD},(∀v,R v→R' v)→x.sem sl hp R→x.sem sl hp R':=fun hR hx=>bD.sem_mono (fun _ _ e _=>e) hR hx
 cases o with
 |val x=>exact semM (fun v=>hR v hp nx) hx
 |mp m=>exact MOp.sem_mono (fun v h'=>hR v h' (nx+1)) hx
 |box k x=>exact⟨hx.1,hR _ _ _ hx.2⟩
 |bslice k es=>exact⟨hx.1,hx.2.imp (hR _ _ _) (hR _ _ _)⟩
 |callw f a b=>exact hx.elim
 |mkz k b x z=>
  simp only[LOp.run,LOp.sem] at hx⊢
  revert hx
  split
  ·rintro⟨a,b,c⟩;exact⟨a,b,c.imp (hR _ _ _) (hR _ _ _)⟩
  exact id
 |appz k b x y z=>
  simp only[LOp.run,LOp.sem] at hx⊢
  revert hx
  split
  ·rintro⟨a,b,c,d⟩;exact⟨a,b,c,hR _ _ _ d⟩
  exact id
 |clear k x z=>
  simp only[LOp.run,LOp.sem] at hx⊢
  revert hx
  split
  ·split
   ·rintro⟨a,b,c,d⟩;exact⟨a,b,c,hR _ _ _ d⟩
   exact id
  ·exact hR _ _ _
  exact id
 |append k b x y=>
  simp only[LOp.run,LOp.sem] at hx⊢
  revert hx
  split
  ·rintro⟨a,hx⟩
   refine⟨a,?_⟩
   revert hx
   split
   ·rintro⟨b,c,⟨d,e⟩|⟨d,e,f,g⟩⟩
    ·exact⟨b,c, .inl ⟨d,hR _ _ _ e⟩⟩
    exact⟨b,c, .inr ⟨d,e,f,hR _ _ _ g⟩⟩
   ·split
    ·rintro⟨b,⟨c,d⟩|⟨c,d,e,f,g,i⟩⟩
     ·exact⟨b, .inl ⟨c,hR _ _ _ d⟩⟩
     exact⟨b, .inr ⟨c,d,e,f,g,hR _ _ _ i⟩⟩
    exact id
   exact id
  exact id
 |store t x v=>
  simp only[LOp.run,LOp.sem] at hx⊢
  revert hx
  split
  ·split
   ·rintro⟨a,b,c,d,e⟩;exact⟨a,b,c,d,hR _ _ _ e⟩
   exact id
  exact id
 |call f args=>exact aW.mono hx fun v h' nx' _=>hR v h' nx'
 |callv x args=>
  simp only[LOp.run] at hx⊢
  revert hx
  split
  ·exact fun hx=>aW.mono hx fun v h' nx' _=>hR v h' nx'
  ·exact fun hx=>fH.mono hx fun v h' nx' _=>hR v h' nx'
  exact id
theorem fQ{Q Q':St→Prop}(h:∀s,Q s→Q' s):∀(l:List aA) (s:St),aV P l Q s→aV P l Q' s:=by
 intro l
 induction l with
 |nil=>exact fun s hs=>h s hs
 |cons o r ih=>
  intro s hs
  unfold aV at hs⊢
  revert hs
  split
  ·exact LOp.run_mono fun v h' nx'=>ih _
  split
  ·split
   ·exact LOp.run_mono fun v h' nx'=>ih _
   exact ih _
  ·exact ih _
  exact id
theorem aBr{h0:Hp}{nx0:Nat}{Q Q':List V→List (Option Blk)→List (Option Con)→Prop}(h:∀a b c,Q a b c→Q' a b c):∀(l:List (aA×List Nat)) (sl:List V) (adds:List (Option Blk)) (cons:List (Option Con)),dA P h0 nx0 l sl adds cons Q→dA P h0 nx0 l sl adds cons Q'
 | [],sl,adds,cons,hd=>h _ _ _ hd
 |(o,deps)::r,sl,adds,cons,hd=>by
  unfold dA at hd⊢
  obtain⟨d,h1,h2,h3⟩:=aBs hd
  exact aCj h1 ⟨h2,aBr h r _ _ _ h3⟩
theorem oU{c:bE}:∀{Q Q':cD→St→Prop} {s:St},(∀e s,Q e s→Q' e s)→lwp P c Q s→lwp P c Q' s:=by
 induction c with
 |skip=>exact fun h hs=>h _ _ hs
 |ops l=>exact fun h hs=>fQ (fun s=>h _ s) l _ hs
 |draw n hd tl=>exact fun h hs=>hs.imp (fun hs=>⟨hs.1,aBr (fun a b c hq=>fQ (fun s=>h _ s) tl _ hq) hd _ _ _ hs.2⟩) (fun⟨I,h0,h1,h2⟩=>⟨I,h0,h1,fun D s' hD hI=>fQ (fun s=>h _ s) tl _ (h2 D s' hD hI)⟩)
 |seq a b iha ihb=>
  intro Q Q' s h hs
  refine iha ?_ hs
  intro e s' hq
  cases e with
  |normal=>obtain⟨s'',hw,hb⟩:=hq;exact⟨s'',hw,ihb h hb⟩
  |exit id=>exact h _ _ hq
  |ret=>exact h _ _ hq
 |cond c a b iha ihb=>
  intro Q Q' s h hs
  simp only[lwp] at hs⊢
  revert hs
  split
  ·split
   ·exact iha h
   exact ihb h
  exact id
 |block id c ih=>
  intro Q Q' s h hs
  refine ih ?_ hs
  intro e s' hq
  cases e with
  |normal=>exact h _ _ hq
  |exit id'=>
   simp only[gB] at hq⊢
   revert hq
   split<;>exact h _ _
  |ret=>exact h _ _ hq
 |loop c ih=>
  rintro Q Q' s h ⟨I,m,h0,hr⟩
  refine⟨I,m,h0,fun s' hI=>ih ?_ (hr s' hI)⟩
  intro e s'' hq
  cases e with
  |normal=>exact hq
  |exit id=>exact h _ _ hq
  |ret=>exact h _ _ hq
 |exit id=>exact fun h hs=>h _ _ hs
 |ret=>exact fun h hs=>h _ _ hs
 |range g ps as b iha ihb=>
  intro Q Q' s h hs
  simp only[lwp] at hs⊢
  revert hs
  split
  ·intro hs rcd U hp hY
   refine(hs rcd U hp hY).mono ?_
   rintro v h' nx' _ (⟨ho,hq⟩|⟨ho,hq⟩|⟨id,ho,hq⟩)
   ·exact .inl ⟨ho,h _ _ hq⟩
   ·exact .inr (.inl ⟨ho,h _ _ hq⟩)
   exact .inr (.inr ⟨id,ho,h _ _ hq⟩)
  exact id
theorem mO{c:bE}{ι:Type}(C:ι→Prop)(st:ι→St)(m:ι→Nat)(i0:ι)(h0:C i0)(hw0:Wk s (st i0))(hr:∀i,C i→lwp P c (aBP C st m (m i) Q) (st i)):lwp P (.loop c) Q s:=by
 --the measure of a state is the least that an index of it has
 have least:∀(p:Nat→Prop),(∃n,p n)→∃n,p n∧∀k,p k→n≤k:=by
  intro p ⟨n,hn⟩
  induction n using Nat.strongRecOn with
  |_ n ih=>
   by_cases hex:∃k,k<n∧p k
   ·obtain⟨k,hk,hp⟩:=hex;exact ih k hk hp
   exact⟨n,hn,fun k hk=>by
    rcases Nat.lt_or_ge k n with h|h
    ·exact absurd ⟨k,h,hk⟩ hex
    exact h⟩
 refine⟨fun s'=>∃i,C i∧s'=st i,fun s'=>leastOf fun n=>∃i,C i∧s'=st i∧m i=n,⟨st i0,hw0.tell,i0,h0,rfl⟩,?_⟩
 rintro s' ⟨i,hi,rfl⟩
 have hl:=leastOf_spec (p:=fun n=>∃j,C j∧st i=st j∧m j=n) ⟨m i,i,hi,rfl,rfl⟩
 obtain⟨⟨j,hj,hij,hmj⟩,hmin⟩:=hl
 rw[hij]
 refine oU ?_ (hr j hj)
 intro e s'' hq
 cases e with
 |normal=>
  obtain⟨i',hC',hm',hw'⟩:=hq
  refine⟨st i',hw',⟨i',hC',rfl⟩,?_⟩
  have h2:=(leastOf_spec (p:=fun n=>∃j,C j∧st i'=st j∧m j=n) ⟨m i',i',hC',rfl,rfl⟩).2 (m i') ⟨i',hC',rfl,rfl⟩
  have h3:leastOf (fun n=>∃k,C k∧st j=st k∧m k=n)=m j:=by
   rw[←hij,hmj]
  show leastOf (fun n=>∃k,C k∧st i'=st k∧m k=n)<leastOf (fun n=>∃k,C k∧st j=st k∧m k=n)
  rw[h3]
  exact Nat.lt_of_le_of_lt h2 hm'
 |exit id=>exact hq
 |ret=>exact hq
variable{Qs:St→Prop}{r:List aA}{dst:Option Nat}{f:FuncId}{args:List aL}
def cR(P:Program)(r:List aA)(Qs:St→Prop)(sl:List V)(dst:Option Nat)(v:V)(h:Hp)(nx:Nat):Prop:=aV P r Qs ⟨bF sl dst v,h,nx⟩
theorem aX(h:aW P f (args.map (aL.ev s.sl)) s.h s.nx (cR P r Qs s.sl dst)):aV P (⟨dst,none, .call f args⟩::r) Qs s:=h
theorem aER{x:aL}{f':Nat}{first cap:List V}(hx:x.ev s.sl= .fn (.func f') first cap)(h:aW P f' (first++args.map (aL.ev s.sl)++cap) s.h s.nx (cR P r Qs s.sl dst)):aV P (⟨dst,none, .callv x args⟩::r) Qs s:=by
 unfold aV
 simp only[LOp.run,hx]
 exact h
theorem fH.weaken{n:Nat}{args:List V}{h h2:Hp}{nx:Nat}{R:V→Hp→Nat→Prop}(c:fH P n args h nx R)(hle:h.le h2):fH P n args h2 nx R:=
 fun m K cargs hl hn hrel hv=>c m K cargs hl hn (hrel.weaken hle) hv
theorem aEQ{x:aL}{n:Nat}(hx:x.ev s.sl= .yld n)(h:fH P n (args.map (aL.ev s.sl)) s.h s.nx (cR P r Qs s.sl dst)):aV P (⟨dst,none, .callv x args⟩::r) Qs s:=by
 unfold aV
 simp only[LOp.run,hx]
 exact h
theorem aQ{h:Hp}{args':List V}{v:V}(hp:aZ P f args' h v)(ha:args.map (aL.ev s.sl)=args')(hh:h.has s.h)(hq:aV P r Qs ⟨bF s.sl dst v,s.h,s.nx⟩):aV P (⟨dst,none, .call f args⟩::r) Qs s:=by
 refine aX ?_
 rw[ha]
 refine(hp s.h s.nx hh).mono ?_
 rintro v' h' nx' _ ⟨rfl,rfl,rfl⟩
 exact hq
theorem nK{x:aL}{f':Nat}{first cap:List V}(hx:x.ev s.sl= .fn (.func f') first cap){h:Hp}{args':List V}{v:V}(hp:aZ P f' args' h v)(ha:first++args.map (aL.ev s.sl)++cap=args')(hh:h.has s.h)(hq:aV P r Qs ⟨bF s.sl dst v,s.h,s.nx⟩):aV P (⟨dst,none, .callv x args⟩::r) Qs s:=by
 refine aER hx ?_
 rw[ha]
 refine(hp s.h s.nx hh).mono ?_
 rintro v' h' nx' _ ⟨rfl,rfl,rfl⟩
 exact hq
theorem rF{t:Nat}{want b:Bool}{op:LOp}(hb:s.sl.getD t V.undef= .bool b)(h1:b=want→aV P (⟨dst,none,op⟩::r) Qs s)(h2:b≠want→aV P r Qs ⟨bF s.sl dst V.undef,s.h,s.nx⟩):aV P (⟨dst,some (t,want),op⟩::r) Qs s:=by
 unfold aV
 simp only[hb]
 split
 ·rename_i e;exact h1 e
 rename_i e;exact h2 e
theorem cK{t:Nat}{want:Bool}{op:LOp}(hb:s.sl.getD t V.undef= .tup [])(h2:aV P r Qs ⟨bF s.sl dst V.undef,s.h,s.nx⟩):aV P (⟨dst,some (t,want),op⟩::r) Qs s:=by
 unfold aV
 simp only[hb]
 exact h2
end
def LOp.dout(sl:List V)(h0:Hp)(a:Nat):LOp→eY
 | .mp .mk=>⟨.map a,some (.mp [] 0),none⟩
 | .val x=>⟨x.out sl h0,none,none⟩
 | .box k x=>⟨.ptr a k 0 0,some (.arr k [x.ev sl]),none⟩
 | .bslice k es=>⟨.sl k (.tok a) (es.map (aL.ev sl)),some .tip,none⟩
 | .append k _ x y=>match x.ev sl,y.ev sl with
  | .sl _ .nil xs, .sl _ _ ys=>⟨.sl k (fF a .nil ys) (xs++ys),if ys.isEmpty then none else some .tip,none⟩
  | .sl _ .full xs, .sl _ _ ys=>⟨.sl k (fF a .full ys) (xs++ys),if ys.isEmpty then none else some .tip,none⟩
  | .sl _ (.tok n) xs, .sl _ _ ys=>⟨.sl k (.tok a) (xs++ys),some .tip,some ⟨n, .tip,none⟩⟩
  |_,_=>⟨.undef,none,none⟩
 | .mkz k _ x z=>match x.ev sl with
  | .int _ m=>⟨.rs a k 0 m.toNat,some (.arr k (List.replicate m.toNat z)),none⟩
  |_=>⟨.undef,none,none⟩
 | .appz k _ _ y z=>match y.ev sl with
  | .int _ m=>⟨.rs a k 0 m.toNat,some (.arr k (List.replicate m.toNat z)),none⟩
  |_=>⟨.undef,none,none⟩
 |_=>⟨.undef,none,none⟩
def LOp.dok(sl:List V)(h0:Hp):LOp→Prop
 | .mp .mk=>True
 | .val x=>x.ok sl h0
 | .box k x=>(x.ev sl).fits k=true
 | .bslice k es=>∀e∈es,(e.ev sl).fits k=true
 | .append k bytes x y=>match x.ev sl,y.ev sl with
  | .sl kx own xs, .sl ky _ ys=>kx=k∧ky=k∧(xs.length+ys.length)*bytes≤140737488355328∧(match own with| .free=>False|_=>True)
  |_,_=>False
 | .mkz _ bytes x _=>match x.ev sl with
  | .int _ m=>0≤m∧m.toNat*bytes≤140737488355328
  |_=>False
 | .appz k bytes x y _=>match x.ev sl,y.ev sl with
  | .sl k' .nil [], .int _ m=>k'=k∧0<m∧m.toNat*bytes≤140737488355328
  |_,_=>False
 |_=>False
def aBu(h0:Hp)(nx0:Nat)(deps:List Nat)(adds:List (Option Blk))(cons:List (Option Con)):Option Con→Prop
 |none=>True
 |some c=>mU h0 nx0 deps adds cons c.n c.old
structure DSt where
 sl:List V
 adds:List (Option Blk)
 cons:List (Option Con)
def aA.dres(h0:Hp)(nx0:Nat)(o:aA)(s:DSt):eY:=
 match o.g with
 |none=>o.op.dout s.sl (iQ h0 s.cons) (nx0+s.adds.length)
 |some (t,want)=>match s.sl.getD t V.undef with
  | .bool b=>if b=want then o.op.dout s.sl (iQ h0 s.cons) (nx0+s.adds.length) else ⟨V.undef,none,none⟩
  |_=>⟨V.undef,none,none⟩
def aA.dok(h0:Hp)(o:aA)(s:DSt):Prop:=
 match o.g with
 |none=>o.op.dok s.sl (iQ h0 s.cons)
 |some (t,want)=>match s.sl.getD t V.undef with
  | .bool b=>b=want→o.op.dok s.sl (iQ h0 s.cons)
  | .tup _=>True
  |_=>False
def aDF(dst:Option Nat)(d:eY)(s:DSt):DSt:=⟨bF s.sl dst d.v,s.adds++[d.add],s.cons++[d.con]⟩
def gU(h0:Hp)(nx0:Nat):List (aA×List Nat)→DSt→DSt
 | [],s=>s
 |(o,_)::r,s=>gU h0 nx0 r (aDF o.dst (o.dres h0 nx0 s) s)
def vH(h0:Hp)(nx0:Nat):List (aA×List Nat)→DSt→Prop
 | [],_=>True
 |(o,deps)::r,s=>o.dok h0 s∧aBu h0 nx0 deps s.adds s.cons (o.dres h0 nx0 s).con∧vH h0 nx0 r (aDF o.dst (o.dres h0 nx0 s) s)
theorem LOp.dsem_of_ok{P:Program}{sl:List V}{h0:Hp}{a:Nat}{R:eY→Prop}{l:LOp}(ho:l.dok sl h0)(hR:R (l.dout sl h0 a)):l.dsem P sl h0 a R:=by
 cases l with
 |val x=>exact bD.sem_of_ok (R:=fun v=>R ⟨v,none,none⟩) ho hR
 |box k x=>exact⟨ho,hR⟩
 |bslice k es=>exact⟨ho, .inl hR⟩
 |append k b x y=>
  simp only[LOp.dok,LOp.dout,LOp.dsem] at ho hR⊢
  generalize x.ev sl=v at ho hR⊢
  generalize y.ev sl=u at ho hR⊢
  cases v<;>try (exact ho.elim)
  cases u<;>try (exact ho.elim)
  rename_i kx own xs ky own' ys
  obtain⟨a,b,c,d⟩:=ho
  refine⟨a,b,c,?_⟩
  cases own<;>simp only at d hR⊢<;>exact hR
 |store t x v=>exact ho.elim
 |mkz k b x z=>
  simp only[LOp.dok,LOp.dout,LOp.dsem] at ho hR⊢
  generalize x.ev sl=v at ho hR⊢
  cases v<;>first|exact ho.elim|exact⟨ho.1,ho.2, .inl hR⟩
 |appz k b x y z=>
  simp only[LOp.dok,LOp.dout,LOp.dsem] at ho hR⊢
  generalize x.ev sl=v at ho hR⊢
  generalize y.ev sl=u at ho hR⊢
  split at ho
  ·exact⟨ho.1,ho.2.1,ho.2.2,hR⟩
  exact ho.elim
 |clear k x z=>exact ho.elim
 |callw f a b=>exact ho.elim
 |mp m=>cases m<;>first|exact hR|exact ho.elim
 |call f args=>exact ho.elim
 |callv x args=>exact ho.elim
theorem aHa{P:Program}{h0:Hp}{nx0:Nat}{o:aA}{deps:List Nat}{r:List (aA×List Nat)}{s:DSt}{Q:List V→List (Option Blk)→List (Option Con)→Prop}(ho:o.dok h0 s)(hc:aBu h0 nx0 deps s.adds s.cons (o.dres h0 nx0 s).con)
 (h:dA P h0 nx0 r (aDF o.dst (o.dres h0 nx0 s) s).sl (aDF o.dst (o.dres h0 nx0 s) s).adds (aDF o.dst (o.dres h0 nx0 s) s).cons Q):dA P h0 nx0 ((o,deps)::r) s.sl s.adds s.cons Q:=by
 have fin:∀{d:eY},d=o.dres h0 nx0 s→(∀c,d.con=some c→mU h0 nx0 deps s.adds s.cons c.n c.old)∧dA P h0 nx0 r (bF s.sl o.dst d.v) (s.adds++[d.add]) (s.cons++[d.con]) Q:=by
  rintro d rfl
  refine⟨fun n hn=>?_,h⟩
  rw[hn] at hc
  exact hc
 unfold dA eZ
 unfold aA.dok at ho
 unfold aA.dres at fin
 cases hg:o.g with
 |none=>rw[hg] at ho fin;exact LOp.dsem_of_ok ho (fin rfl)
 |some p=>
  obtain⟨t,want⟩:=p
  rw[hg] at ho fin
  simp only at ho fin⊢
  cases hv:s.sl.getD t V.undef<;>rw[hv] at ho fin<;>simp only at ho fin⊢<;>first
   |exact ho.elim
   |exact fin rfl
   |(split
     ·rename_i e;exact LOp.dsem_of_ok (ho e) (fin (by rw[if_pos e]))
     rename_i e;exact fin (by rw[if_neg e]))
theorem aDG{P:Program}{h0:Hp}{nx0:Nat}{Q:List V→List (Option Blk)→List (Option Con)→Prop}{r:List (aA×List Nat)}:∀(l:List (aA×List Nat)) (s:DSt),vH h0 nx0 l s→
 dA P h0 nx0 r (gU h0 nx0 l s).sl (gU h0 nx0 l s).adds (gU h0 nx0 l s).cons Q→dA P h0 nx0 (l++r) s.sl s.adds s.cons Q
 | [],_,_,h=>h
 |(o,deps)::l,s,ho,h=>aHa ho.1 ho.2.1 (aDG l _ ho.2.2 h)
section
variable{P:Program}{h0:Hp}{nx0:Nat}{Q:List V→List (Option Blk)→List (Option Con)→Prop}{l:List (aA×List Nat)}{r:List (aA×List Nat)}{sl:List V}{adds:List (Option Blk)}{cons:List (Option Con)}{dst:Option Nat}{deps:List Nat}
theorem dH(h:Q sl adds cons):dA P h0 nx0 [] sl adds cons Q:=h
theorem bL{f:FuncId}{args:List aL}{hp:Hp}{args':List V}{v:V}(p:aZ P f args' hp v)(ha:args.map (aL.ev sl)=args')(hh:Hp.has hp (iQ h0 cons))(h:dA P h0 nx0 r (bF sl dst v) (adds++[none]) (cons++[none]) Q):dA P h0 nx0 ((⟨dst,none, .call f args⟩,deps)::r) sl adds cons Q:=by
 unfold dA eZ
 exact .inl ⟨v,by rw[ha];exact p.mono hh,(fun n e=>by cases e),h⟩
theorem aFm{f:FuncId}{args:List aL}{hp:Hp}{args':List V}{k:Sh}{es:List V}(p:pI P f args' hp k es)(ha:args.map (aL.ev sl)=args')(hh:Hp.has hp (iQ h0 cons))(h:dA P h0 nx0 r (bF sl dst (.sl k (.tok (nx0+adds.length)) es)) (adds++[some .tip]) (cons++[none]) Q):dA P h0 nx0 ((⟨dst,none, .call f args⟩,deps)::r) sl adds cons Q:=by
 unfold dA eZ
 exact .inr (.inl ⟨k,es,by rw[ha];exact p.mono hh,(fun n e=>by cases e),h⟩)
theorem aFk{f:FuncId}{args fl:List aL}{hp:Hp}{args':List V}{v:V}(p:aZ P f args' hp v)(ha:args.map (aL.ev sl)=args')(hh:Hp.has hp (iQ h0 cons))(h:dA P h0 nx0 r (bF sl dst v) (adds++[none]) (cons++[none]) Q):dA P h0 nx0 ((⟨dst,none, .callw f args fl⟩,deps)::r) sl adds cons Q:=by
 unfold dA eZ
 exact .inl ⟨v,by rw[ha];exact p.mono hh,(fun n e=>by cases e),h⟩
theorem zJ{f:FuncId}{args fl:List aL}{args':List V}{c:Option Con}{v:Nat→V}{k:Sh}{es:List V}(p:aHp P f args' (iQ h0 cons) c v k es)(ha:args.map (aL.ev sl)=args')(hf:∀c',c=some c'→∀x∈fl,∀m k i o,x.ev sl= .ptr m k i o→m≠c'.n)(hc:aBu h0 nx0 deps adds cons c)
 (h:dA P h0 nx0 r (bF sl dst (v (nx0+adds.length))) (adds++[some (.arr k es)]) (cons++[c]) Q):dA P h0 nx0 ((⟨dst,none, .callw f args fl⟩,deps)::r) sl adds cons Q:=by
 unfold dA eZ
 exact .inr (.inr ⟨c,v,k,es,by rw[ha];exact p,hf,(fun c' e=>by have e:c=some c':=e;subst e;exact hc),h⟩)
theorem nP{t:Sh}{x v:aL}{n i o:Nat}{k:Sh}{es:List V}(hx:x.ev sl= .ptr n k i o)(hc:mU h0 nx0 deps adds cons n (.arr k es))(hi:i<es.length)(hp:cJ k t o)(hf:(v.ev sl).fits t=true)
 (h:dA P h0 nx0 r (bF sl dst V.undef) (adds++[none]) (cons++[some ⟨n, .arr k es,some (.arr k (es.set i (bR t o (es.getD i V.undef) (v.ev sl))))⟩]) Q):dA P h0 nx0 ((⟨dst,none, .store t x v⟩,deps)::r) sl adds cons Q:=by
 unfold dA eZ
 simp only[LOp.dsem,hx]
 exact⟨es,hi,hp,hf,(fun c e=>by injection e with e;subst e;exact hc),h⟩
theorem aFl{t:Nat}{want b:Bool}{op:LOp}(hb:sl.getD t V.undef= .bool b)(h1:b=want→dA P h0 nx0 ((⟨dst,none,op⟩,deps)::r) sl adds cons Q)(h2:b≠want→dA P h0 nx0 r (bF sl dst V.undef) (adds++[none]) (cons++[none]) Q):dA P h0 nx0 ((⟨dst,some (t,want),op⟩,deps)::r) sl adds cons Q:=by
 unfold dA eZ
 simp only[hb]
 split
 ·rename_i e
  have:=h1 e
  unfold dA eZ at this
  exact this
 rename_i e;exact⟨(fun n hn=>by cases hn),h2 e⟩
theorem cL{t:Nat}{want:Bool}{op:LOp}(hb:sl.getD t V.undef= .tup [])(h2:dA P h0 nx0 r (bF sl dst V.undef) (adds++[none]) (cons++[none]) Q):dA P h0 nx0 ((⟨dst,some (t,want),op⟩,deps)::r) sl adds cons Q:=by
 unfold dA eZ
 simp only[hb]
 exact⟨(fun n hn=>by cases hn),h2⟩
theorem bB{l:List aA}{Qs:St→Prop}{s:St}(n:Nat)(hl:(l.take n).all (fun o=> !o.op.isCall)=true)(ho:oS (l.take n) s)(h:aV P (l.drop n) Qs (iL (l.take n) s)):aV P l Qs s:=by
 have:=aIi (P:=P) (Q:=fun s=>aV P (l.drop n) Qs s) (l.take n) hl s ho h
 have app:∀(a b:List aA) (s:St),aV P a (fun s=>aV P b Qs s) s→aV P (a++b) Qs s:=by
  intro a
  induction a with
  |nil=>exact fun b s h=>h
  |cons o a ih=>
   intro b s h
   have h':=fQ (P:=P) (Q:=fun s=>aV P b Qs s) (Q':=fun s=>aV P b Qs s) (fun _ x=>x) [] s
   unfold aV at h
   rw[List.cons_append]
   unfold aV
   have runM:=@fQ P
   revert h
   split
   ·rename_i hg
    intro h
    have:=fQ (P:=P) (Q:=fun s'=>aV P a (fun s=>aV P b Qs s) s') (Q':=fun s'=>aV P (a++b) Qs s') (fun s'=>ih b s') [o] s (by unfold aV;rw[hg];exact h)
    unfold aV at this
    rw[hg] at this
    exact this
   rename_i t want hg
   intro h
   have:=fQ (P:=P) (Q:=fun s'=>aV P a (fun s=>aV P b Qs s) s') (Q':=fun s'=>aV P (a++b) Qs s') (fun s'=>ih b s') [o] s (by unfold aV;rw[hg];exact h)
   unfold aV at this
   rw[hg] at this
   exact this
 have h2:=app _ _ s this
 rwa [List.take_append_drop] at h2
def aID(P:Program)(tl:List aA)(n:Nat)(Q:cD→St→Prop)(s:St)(sl:List V)(adds:List (Option Blk))(cons:List (Option Con)):Prop:=aV P tl (Q .normal) ⟨sl,xD (nZ s.h s.nx adds) cons,s.nx+n⟩
theorem eU{n:Nat}{hd:List (aA×List Nat)}{tl:List aA}{Q:cD→St→Prop}{s:St}(hs:((hd.all fun p=>match p.1.dst with|some d=>decide (d<s.sl.length)|none=>true)&&decide (n=hd.length))=true)(h:dA P s.h s.nx hd s.sl [] [] (aID P tl n Q s)):lwp P (.draw n hd tl) Q s:= .inl ⟨hs,h⟩
theorem pS{n:Nat}{hd:List (aA×List Nat)}{tl:List aA}{Q:cD→St→Prop}{s:St}(h:aIE P hd tl (Q .normal) s):lwp P (.draw n hd tl) Q s:= .inr h
theorem dN{n:Nat}{Q:cD→St→Prop}{s:St}(h:Q .normal ⟨sl,xD (nZ s.h s.nx adds) cons,s.nx+n⟩):aID P [] n Q s sl adds cons:=h
end
def mK(res:List aAg)(R:V→Hp→Nat→Prop):cD→St→Prop
 | .exit _,_=>False
 |_,s=>oN s res [] fun vs=>∃h',h'.le s.h∧R (mI vs) h' s.nx
theorem aD{P:Program}{f:FuncId}{b:bE}{nt:Nat}{res:List aAg}(hL:aH P f=some ⟨b,nt,res⟩){args:List V}{h:Hp}{nx:Nat}{R:V→Hp→Nat→Prop}
 (hw:(∀m b,h m=some b→m<nx)→lwp P b (mK res R) ⟨args++List.replicate (nt-args.length) V.undef,h,nx⟩):aW P f args h nx R:=
 aAH hL fun hd=>oU (fun e s hq=>by cases e<;>exact hq) (hw hd)
theorem aG{t:Nat}{R:V→Hp→Nat→Prop}{s:St}(h':Hp)(hle:h'.le s.h)(hR:R (s.sl.getD t V.undef) h' s.nx):mK [.slot t] R .ret s:=⟨h',hle,hR⟩
theorem iF{t u:Nat}{R:V→Hp→Nat→Prop}{s:St}(h':Hp)(hle:h'.le s.h)(hR:R (.tup [s.sl.getD t V.undef,s.sl.getD u V.undef]) h' s.nx):mK [.slot t, .slot u] R .ret s:=⟨h',hle,hR⟩
theorem aHP{t:Nat}{k:Sh}{R:V→Hp→Nat→Prop}{s:St}(ho:(bD.load k (.slot t)).ok s.sl s.h)(h':Hp)(hle:h'.le s.h)(hR:R ((bD.load k (.slot t)).out s.sl s.h) h' s.nx):mK [.cell t k] R .ret s:=by
 have:=bD.sem_of_ok (R:=fun v=>∃h',h'.le s.h∧R (mI [v]) h' s.nx) ho ⟨h',hle,by generalize (bD.load k (.slot t)).out s.sl s.h=x at hR;exact hR⟩
 exact this
theorem nV{a b:List V}{h h':Hp}{n n':Nat}(hs:WkL a b)(hh:h'.le h)(hn:n≤n'):Wk ⟨a,h,n⟩ ⟨b,h',n'⟩:=⟨hs,hh,hn⟩
def aB:Nat→Nat→List (Nat×V)→List V
 |0,_,_=>[]
 |n+1,i,[]=> .top::aB n (i+1) []
 |n+1,i,(j,v)::r=>if j=i then v::aB n (i+1) r else .top::aB n (i+1) ((j,v)::r)
theorem vK{h0:Hp}(nx0 j:Nat)(deps:List Nat)(adds:List (Option Blk))(cons:List (Option Con))(b:Blk):mU h0 nx0 deps adds cons (nx0+j) b=(cZ (nx0+j) cons∧j∈deps∧adds.getD j none=some b):=by
 unfold mU
 apply propext
 constructor
 ·rintro⟨h1,⟨h2,_⟩|⟨d,h2,h3,h4⟩⟩
  ·omega
  have:d=j:=by omega
  subst this
  exact⟨h1,h2,h4⟩
 rintro⟨h1,h2,h3⟩
 exact⟨h1, .inr ⟨j,h2,rfl,h3⟩⟩
theorem aFq{h0:Hp}(nx0:Nat)(deps:List Nat)(adds:List (Option Blk))(cons:List (Option Con))(b:Blk):mU h0 nx0 deps adds cons nx0 b=(cZ nx0 cons∧0∈deps∧adds.getD 0 none=some b):=by
 have:=vK (h0:=h0) nx0 0 deps adds cons b
 simpa using this
theorem mS{h0:Hp}{nx0 n:Nat}{deps:List Nat}{adds:List (Option Blk)}{cons:List (Option Con)}{b:Blk}(h:n<nx0)(h1:h0 n=some b)(h2:cZ n cons):mU h0 nx0 deps adds cons n b:=⟨h2, .inl ⟨h,h1⟩⟩
theorem aBd{a b:Nat}(h:a≠b):(a=b)=False:=eq_false h
theorem aKi{a k:Nat}:(a=a+(k+1))=False:=aBd (by omega)
theorem aIb{a k:Nat}:(a+(k+1)=a)=False:=aBd (by omega)
theorem mL(a b:V):V.pick true a b=a:=by unfold V.pick;split<;>simp
theorem lA(a b:V):V.pick false a b=b:=by unfold V.pick;split<;>simp
theorem tV(t x y:Bool):V.pick t (.bool x) (.bool y)= .bool (if t then x else y):=rfl
theorem aJ{h:Hp}{nx:Nat}(hd:∀m b,h m=some b→m<nx){h':Hp}(hle:h.le h'){n:Nat}(hn:nx≤n)(b:Blk):h.le (h'.set n b):=fun m c e=>by
 have:=hd m c e
 unfold Hp.set
 rw[if_neg (by omega)]
 exact hle m c e
theorem aK{h:Hp}{nx:Nat}(hd:∀m b,h m=some b→m<nx){h':Hp}(hle:h.le h'){n:Nat}(hn:nx≤n):h.le (h'.del n):=fun m c e=>by
 have:=hd m c e
 unfold Hp.del
 rw[if_neg (by omega)]
 exact hle m c e
theorem bM{n:Int}(h1:-9223372036854775808≤n)(h2:n≤9223372036854775807):IntKind.i64.wrap n=n:=IntWalk.i64_in n ⟨h1,h2⟩
end Go.Proofs.YtecepaehmojpgaaGreat
