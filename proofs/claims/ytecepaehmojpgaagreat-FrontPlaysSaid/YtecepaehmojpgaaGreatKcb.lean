/-
Texts of this proof,one behind the other. No conditions.
-/
import Derived.Test.YtecepaehmojpgaaGreatKc
import Derived.RangeFuncNested
import Derived.RangeFuncCalls
import Derived.RangeFuncLeaves
open Go.Proofs.YtecepaehmojpgaaGreat.V renaming undef→Ka,pick→Kj
open Go.Proofs.YtecepaehmojpgaaGreat.Hp renaming set→Kb,has→Kf,del→Kk
open Go.Proofs.YtecepaehmojpgaaGreat.LOp renaming run→Kc,sem→Kd,aAx→Kq
open List renaming getD_eq_getElem?_getD→Ke,getElem?_eq_getElem→Km,mem_range→Ko,range→Kp,all_eq_true→Kt,replicate→Kv,getElem?_append_right→Kz,getElem?_append_left→KB,getElem?_drop→KD,eq_nil_of_length_eq_zero→KI,exists_mem_of_ne_nil→KL,filter_eq_nil_iff→KO,mem_filter→KP,nodup_cons→KQ,take_append_drop→KR,filter_eq_self→KS,mem_map→KV,length_cons→KW,nodup_range→KX,getElem_mem→KY,ext_getElem→KZ,nil_append→Qb,mem_cons→Qf
open Bool renaming and_eq_true→Kg,or_eq_true→KH,not_true→Qd,false_or→Qe
open Array renaming getD_eq_getD_getElem?→Kh,getElem?_eq_getElem→Ki,getElem?_eq_some_iff→Ku,replicate→Ky,getD→KF,mem_toList_iff→KG,ext→Qi
open Option renaming map_eq_some_iff→Ks,bind_eq_some_iff→KE,getD_some→Qa
open Nat renaming le_refl→Kw,lt_of_lt_of_le→KK,lt_or_ge→KN,lt_irrefl→KT,zero_add→KU,add_assoc→Qc,add_comm→Qg,le_trans→Qh
open Go.World renaming putObj_heap_other→Kx
open Go renaming undef→KC
open Go.Sem renaming run_bind→KJ
open Go.Instr renaming sureAddr→KM
set_option linter.unusedSimpArgs false
set_option linter.unusedVariables false
set_option linter.unusedSectionVars false
namespace Go.Proofs.YtecepaehmojpgaaGreat
open Go.RowKit
section
variable{P:Program}{ops:Array Oper}{n:Nat}{w0:Bool}{l:List (aA×List Nat)}{s:St}{res:List gE}{K0:Ker}
theorem rR{rd:Option Nat}{mm:Nat}{md:Region.Mode}{Q':Exit→Act→World→Prop}:∀(l:List Oper) (k:Nat) (aAA:Array Bool) (a:Act) (w:World),(∀j,l[j]?=ops[k+j]?)→
 Region.seqB md ops l.length k aAA=true→wpListIn (FR rd) mm P ops Q' l a w→wpAnyIn (FR rd) mm P md ops Q' l.length aAA a w
 | [],_,_,_,_,_,hB,h=>⟨by simpa [Region.seqB] using hB,h⟩
 |o::l,k,aAA,a,w,hl,hB,h=>by
  have h0:ops[k]?=some o:=by simpa using(hl 0).symm
  simp only[KW,Region.seqB,Kg,decide_eq_true_eq] at hB;refine⟨fun h1=>(by rw[hB.1] at h1;cases h1),fun i hi=>?_⟩;rw[hB.1] at hi;have hik:i=k:=by simpa using hi
  subst hik;have hw:wpOpIn (FR rd) mm P ops Q' i (wpListIn (FR rd) mm P ops Q' l) a w:=by unfold wpOpIn;simp only[h0];exact h
  exact wpOpIn_mono (fun a' w' h'=>rR l (i+1) _ a' w' (fun j=>by have:=hl (j+1);simpa [Qc,Qg 1 j] using this) hB.2 h') hw
theorem Dz(hB:rM ops n l=true)(hl:eI P ops n w0 0 (ops.toList.take n)=some l)(aBa:∀j t,j<n→iX ops j=some t→t<s.sl.length)(ht:yy P s.h s.nx l s.sl res)(aNz:∀m,K0.live m→m<s.nx)(aBO:∀m b,s.h m=some b→m<s.nx)
 {ds:List Deferred} {rd:Option Nat} {mm:Nat} {Q:Exit→Act→World→Prop} (aCo:∀aAA a w,CK ops n res s K0 ds aAA a w→(∀j,j<n→aAA.getD j false=true)→wpListIn (FR rd) mm P ops Q (ops.toList.drop n) a w):
 ∀(f:Nat) (aAA:Array Bool) (a:Act) (w:World),f=((Kp n).filter fun i=> !aAA.getD i true).length→CK ops n res s K0 ds aAA a w→wpAnyIn (FR rd) mm P .any ops Q (f+(ops.size-n)) aAA a w:=by
 have hB':=hB;simp only[rM,Kg,Kt,Ko,KH,decide_eq_true_eq] at hB';obtain⟨⟨⟨⟨aNu,aBC⟩,aJG⟩,aHE⟩,aD3⟩:=hB';have aEm:n≤ops.size:=by rcases aBC with h|⟨⟨h,_⟩,_⟩<;>omega
 intro f;induction f with
 |zero=>
  intro aAA a w hf inv;have aAt:∀i,i<n→aAA.getD i true=true:=by
   intro i hi;have hz:=KI hf.symm;rw[KO] at hz;have:=hz i (Ko.2 hi);simpa using this
  have aIU:∀j,j<n→aAA.getD j false=true:=by
   intro j hj;have:=aAt j hj;have hjs:j<aAA.size:=by rw[inv.head.size];omega
   simp only[KF,hjs,dif_pos] at this⊢;exact this
  have aIJ:aAA=((Kp ops.size).map (fun i=>decide (i<n))).toArray:=by
   apply Qi
   ·simp[inv.head.size]
   intro i h1 h2;have hi:i<ops.size:=by simpa [inv.head.size] using h1
   by_cases hin:i<n
   ·have:=aAt i hin;rw[Kh,Ki h1] at this;simpa [hin] using this
   have:=inv.head.tail i or hi;rw[Kh,Ki h1] at this;simpa [hin] using this
  have h:=aCo aAA a w inv aIU;have hl:(ops.toList.drop n).length=ops.size-n:=Zm;rw[KU];have:=rR (rd:=rd) (mm:=mm) (P:=P) (md:= .any) (Q':=Q) (ops.toList.drop n) n aAA a w (fun j=>by simp[KD]) (by rw[hl,aIJ];exact aJG) h;rwa [hl] at this
 |succ f ih=>
  intro aAA a w hf inv;have hex:∃i,i<n∧aAA.getD i true=false:=by
   have hne:((Kp n).filter fun i=> !aAA.getD i true)≠ []:=by intro h;rw[h] at hf;simp at hf
   obtain⟨i,hi⟩:=KL _ hne;rw[KP,Ko] at hi;exact⟨i,hi.1,by simpa using hi.2⟩
  obtain⟨i0,hi0,aJa⟩:=hex;have aIO:∀j∈Region.ready .any ops aAA,j<n:=by
   intro j hj;rcases aBC with h|⟨⟨h,hs⟩,hc⟩
   ·obtain⟨_,o,ho,_⟩:=mem_ready.1 hj;have:=(Ku.1 ho).1;omega
   rcases KN j n with h'|h'
   ·exact h'
   exact absurd hj (tail_waits hs hc h inv.head _ i0 rfl hi0 aJa j h')
  have aBd:∀k,k<n→aAA.getD k true=false→(∀j,j<k→aAA.getD j true=true)→k∈Region.ready .any ops aAA:=by
   intro k hk hun hlt;have ho:=aHE k hk;have hok:ops[k]?=some (ops[k]'or):=Ki or;rw[hok] at ho;refine mem_ready.2 ⟨hun,_,hok,fun e he hb=>?_⟩;cases hlk:l[k]? with
   |none=>simp[hlk] at ho
   |some q=>
    obtain⟨lo,aAR⟩:=q;simp only[hlk,Kg,Kt] at ho;have h:=ho.1.1.1 e (KG.2 he);simp only[hb,Qd,Qe,decide_eq_true_eq] at h;have h2:=hlt e.on h;have hs:e.on<aAA.size:=by rw[inv.head.size];omega
    rw[Kh,Ki hs] at h2⊢;exact h2
  have aCl:Region.ready .any ops aAA≠ []:=by
   have least:∀k,k≤i0→(∀j,j<k→aAA.getD j true=true)→∃i,i<n∧i∈Region.ready .any ops aAA:=by
    intro k hk;induction hd:i0-k generalizing k with
    |zero=>
     intro hl;have hki:k=i0:=or;subst hki;exact⟨k,hi0,aBd k hi0 aJa hl⟩
    |succ d ihd=>
     intro hl;by_cases hu:aAA.getD k true=true
     ·exact ihd (k+1) or or (fun j hj=>by
       by_cases hjk:j=k
       ·subst hjk;exact hu
       exact hl j or)
     exact⟨k,or,aBd k or (by simpa using hu) hl⟩
   obtain⟨i,_,hi⟩:=least 0 or (fun j hj=>or);intro h;rw[h] at hi;cases hi
  rw[show f+1+(ops.size-n)=(f+(ops.size-n))+1 by omega];refine⟨fun h=>absurd h aCl,fun i hi=>?_⟩;have hin:=aIO i hi;obtain⟨hun,o,ho,_⟩:=mem_ready.1 hi;refine Cr hB hl aBa ht inv aNz aBO hin hi fun a' w' aJC=>ih _ a' w' ?_ aJC;have aJt:i<aAA.size:=by rw[inv.head.size];exact(Ku.1 ho).1
  have:=sO (fun x=> !aAA.getD x true) (fun x=> !(aAA.setIfInBounds i true).getD x true) i (by simpa using hun) (by simp[KF,aJt]) (fun x hx=>by rw[getD_set_ne true (fun e=>hx e.symm)]) (Kp n) KX (Ko.2 hin);omega
end
theorem yT{P:Program}{ops:Array Oper}{K0:Ker}{nx0:Nat}{Q:Exit→Act→World→Prop}{Qs:St→Prop}(hQ:∀K s a,mN K0 K nx0 s a→Qs s→Q .normal a K.w){rd:Option Nat}{mm:Nat}:
 ∀(l:List Oper) (ls:List aA) (k:Nat),dV P ops l=some ls→(∀j,l[j]?=ops[k+j]?)→∀(K:Ker) (s:St) (a:Act),mN K0 K nx0 s a→bF P ls Qs s→wpListIn (FR rd) mm P ops Q l a K.w
 | [],ls,k,hl,hi,K,s,a,hr,h=>by
  simp[dV] at hl;subst hl;exact hQ K s a hr h
 |o::l,ls,k,hl,hi,K,s,a,hr,h=>by
  unfold dV at hl;obtain⟨lo,h1,hl⟩:=KE.1 hl;obtain⟨lr,h2,rfl⟩:=Ks.1 hl;have h0:ops[k]?=some o:=by simpa using(hi 0).symm
  have hw:wpOpIn (FR rd) mm P ops Q k (wpListIn (FR rd) mm P ops Q l) a K.w:=by
   refine vS h0 h1 hr (bF P lr Qs) (fun K' s' a' hr' hq=>yT hQ l lr (k+1) h2 (fun j=>by have:=hi (j+1);simpa [Qc,Qg 1 j] using this) K' s' a' hr' hq) ?_;unfold bF at h;exact h
  unfold wpOpIn at hw;simp only[h0] at hw;exact hw
theorem yS:∀(cons:List (Option Con)) (h:Hp) (m:Nat) (b:Blk),cj h cons m=some b→(∃c,some c∈cons∧c.n=m∧c.new=some b)∨((∀c,some c∈cons→c.n≠m)∧h m=some b)
 | [],h,m,b,e=> .inr ⟨Zm,e⟩
 |none::r,h,m,b,e=>by
  rcases yS r h m b e with⟨c,h1,h2⟩|⟨h1,h2⟩
  ·exact .inl ⟨c,by simp[h1],h2⟩
  exact .inr ⟨fun c hc=>h1 c (by simpa using hc),h2⟩
 |some c0::r,h,m,b,e=>by
  rcases yS r (h.aBX (some c0)) m b e with⟨c,h1,h2⟩|⟨h1,h2⟩
  ·exact .inl ⟨c,by simp[h1],h2⟩
  by_cases hm:m=c0.n
  ·subst hm;refine .inl ⟨c0,Zm,rfl,?_⟩;unfold Hp.aBX at h2;cases hn:c0.new with
   |none=>simp[hn,Kk] at h2
   |some b'=>simpa [hn,Kb] using h2
  refine .inr ⟨fun c hc=>?_,?_⟩
  ·rcases Qf.1 hc with e1|e1
   ·injection e1 with e1;subst e1;exact fun e=>hm e.symm
   exact h1 c e1
  unfold Hp.aBX at h2;cases hn:c0.new with
  |none=>simpa [hn,Kk,hm] using h2
  |some b'=>simpa [hn,Kb,hm] using h2
theorem wF:∀(aAL:List (Option Blk)) (h:Hp) (a m:Nat) (b:Blk),pW h a aAL m=some b→(∃i,m=a+i∧aAL.getD i none=some b)∨h m=some b
 | [],h,a,m,b,e=> .inr e
 |none::r,h,a,m,b,e=>by
  rcases wF r h (a+1) m b e with⟨i,e1,e2⟩|h1
  ·exact .inl ⟨i+1,or,by simpa using e2⟩
  exact .inr h1
 |some c::r,h,a,m,b,e=>by
  rcases wF r (h.set a c) (a+1) m b e with⟨i,e1,e2⟩|h1
  ·exact .inl ⟨i+1,or,by simpa using e2⟩
  unfold Kb at h1;split at h1
  ·rename_i hm;exact .inl ⟨0,or,by simpa using h1⟩
  exact .inr h1
theorem AD{P:Program}{id:Nat}{ops:Array Oper}{n:Nat}{w0:Bool}{l:List (aA×List Nat)}{tl:List aA}(hm:P.follows .mixedOrders=true)(hB:rM ops n l=true)(hl:eI P ops n w0 0 (ops.toList.take n)=some l)(htl:dV P ops (ops.toList.drop n)=some tl)
 {K0 K:Ker} {nx0:Nat} {s:St} {a:Act} (hr:mN K0 K nx0 s a) {Q:Exit→Act→World→Prop} {Qs:St→Prop} (hQ:∀K s a,mN K0 K nx0 s a→Qs s→Q .normal a K.w)
 (aBa:(l.all fun p=>match p.1.dst with|some d=>decide (d<s.sl.length)|none=>true)=true)
 (h:dI P s.h s.nx l s.sl [] [] fun sl aAL cons=>bF P tl Qs ⟨sl,cj (pW s.h s.nx aAL) cons,s.nx+n⟩) {rd:Option Nat} {mm:Nat}:(Code.region id ops true).wpIn (FR rd) mm P Q a K.w:=by
 obtain⟨res,ht,aA9⟩:=i8 [] l s.sl [] ⟨rfl,fun i o aAR d hi=>by simp at hi,fun i o aAR d n hi=>by simp at hi⟩ (by simpa using h);simp only[Qb] at ht aA9;have hB':=hB;simp only[rM,Kg,Kt,Ko,KH,decide_eq_true_eq] at hB';obtain⟨⟨⟨⟨aNu,aBC⟩,aJG⟩,aHE⟩,aD3⟩:=hB';have aEm:n≤ops.size:=by rcases aBC with h|⟨⟨h,_⟩,_⟩<;>omega
 obtain⟨hll,hlg⟩:=jV _ _ _ hl;have hln:l.length=n:=by rw[hll];simp;omega
 have hrn:res.length=n:=by rw[ht.len,hln]
 have aIS:∀i j t,i<n→j<n→iX ops i=some t→iX ops j=some t→i=j:=fun i j t hi hj e e'=>by
  rcases aD3 i hi j hj with h|h
  ·rcases h with h|h
   ·simpa using h
   rw[e] at h;cases h
  rw[e,e'] at h;simp at h
 have aJr:∀j lo aAR,l[j]?=some (lo,aAR)→lo.dst=iX ops j:=fun j lo aAR hj=>(il aEm hl j lo aAR hj).1;have hsl:∀j t,j<n→iX ops j=some t→t<s.sl.length:=by
  intro j t hj hjt;have hlj:l[j]?=some (l[j]'or):=Km or;have h1:=aJr j (l[j]'or).1 (l[j]'or).2 hlj;have h2:=Kt.1 aBa (l[j]'or) (KY _);rw[h1,hjt] at h2;simpa using h2
 refine wpIn_region_any hm ?_;have hdr:=K.aAm;have inv:CK ops n res s K.drew a.defers (Ky ops.size false) a K.drew.w:=by
  refine⟨⟨Zm,fun j oj _ hl=>(by rw[getD_replicate_false] at hl;cases hl),fun t _ ht=>getD_in (by simpa using ht) (getD_replicate_false _ _)⟩,hr.aAF.1.symm,⟨K.drew,s.sl,s.h,rfl, .refl _,hr.aAF.mono hdr,hr.rel.drew,fun m hm=> .inl hm,?_,?_⟩,rfl⟩
  ·exact⟨rfl,(fun j t _ hl=>by rw[getD_replicate_false] at hl;cases hl),fun t _=>rfl⟩
  exact⟨fun m _ _=>rfl,(fun i _ hl=>by rw[getD_replicate_false] at hl;cases hl),(fun j c _ hl=>by rw[getD_replicate_false] at hl;cases hl)⟩
 have h:=Dz (rd:=rd) (mm:=mm) (Q:=Q) hB hl hsl ht (K0:=K.drew) (fun m hm=>(hr.live m hm).1) (fun m b hm=>(hr.live m (hr.rel.lt m b hm)).1) ?_ n (Ky ops.size false) a K.drew.w ?_ inv
 ·rw[show n+(ops.size-n)=ops.size by omega] at h;exact h
 ·--behind the head
  intro aAA a' w' aJC aAt;obtain⟨K',sl,hh,rfl,hle,aWF,aAV,aCn,hsa,hha⟩:=aJC.ex;have aCD:=vI (ops:=ops) (sl0:=s.sl) hln hrn aJr hsl aIS n (Kw _);have hzl:(l.zip res).length=n:=by simp[hln,hrn]
  rw[List.take_of_length_le or] at aCD;have aOK:sl=(l.zip res).foldl (fun sl p=>bQ sl p.1.1.dst p.2.v) s.sl:=by
   have hlen:sl.length=((l.zip res).foldl (fun sl p=>bQ sl p.1.1.dst p.2.v) s.sl).length:=by rw[hsa.len,aCD.len]
   apply KZ hlen;intro t h1 h2;have:sl.getD t Ka=((l.zip res).foldl (fun sl p=>bQ sl p.1.1.dst p.2.v) s.sl).getD t Ka:=by
    by_cases hex:∃j,j<n∧iX ops j=some t
    ·obtain⟨j,hj,hjt⟩:=hex;rw[hsa.val j t hj (aAt j hj) hjt,aCD.val j t hj hj hjt]
    rw[hsa.frame t (fun j hj _ e=>hex ⟨j,hj,e⟩),aCD.frame t (fun j hj _ e=>hex ⟨j,hj,e⟩)]
   rw[Ke,Ke,Km h1,Km h2] at this;exact this
  have aOm:∀m b,s.h m=some b→m<s.nx:=fun m b hm=>(hr.live m (hr.rel.lt m b hm)).1;have aJm:∀c,some c∈res.map (·.con)↔∃j,j<n∧(res.getD j .none).con=some c:=by
   intro c;constructor
   ·intro hc;obtain⟨d,hd,hdc⟩:=KV.1 hc;obtain⟨j,hj,rfl⟩:=List.getElem_of_mem hd;refine⟨j,or,?_⟩;rw[Ke,Km hj];exact hdc
   rintro⟨j,hj,hc⟩;refine KV.2 ⟨res.getD j .none,?_,hc⟩;rw[Ke,Km or];exact KY _
  have hhp:(cj (pW s.h s.nx (res.map (·.add))) (res.map (·.con))).le hh:=by
   intro m b hm;rcases yS _ _ _ _ hm with⟨c,hc,rfl,aCG⟩|⟨hnc,hm⟩
   ·obtain⟨j,hj,hjc⟩:=(aJm c).1 hc;rw[hha.wrt j c hj (aAt j hj) hjc];exact aCG
   have hno:∀j c,j<n→aAA.getD j false=true→(res.getD j .none).con=some c→c.n≠m:=fun j c hj _ hc=>hnc c ((aJm c).2 ⟨j,hj,hc⟩);rcases wF _ _ _ _ _ hm with⟨i,rfl,h3⟩|h3
   ·have aHF:i<n:=by
     rcases KN i n with h|h
     ·exact h
     rw[Ke,List.getElem?_eq_none (by simp[hrn];exact h)] at h3;cases h3
    rw[hha.new i aHF (aAt _ aHF) hno];simp only[Ke,List.getElem?_map] at h3⊢;rw[Km or] at h3⊢;exact h3
   rw[hha.old m (aOm m b h3) hno];exact h3
  refine yT hQ (ops.toList.drop n) tl n htl (fun j=>by simp[KD]) K' ⟨_,_,s.nx+n⟩ a' ⟨hr.le.trans (hdr.trans hle),?_,aAV.weaken hhp,?_,?_,(by show sX _ _ a'.defers;rw[aJC.defers];exact hr.defers.kept (hdr.trans hle).below)⟩ aA9
  ·show gG K' _ a';rw[←aOK];exact aWF
  ·intro m hm;show m<s.nx+n∧_;rcases aCn m hm with e2|⟨i,hi,e3,_⟩
   ·have:=hr.live m e2;exact⟨or,this.2⟩
   exact⟨or, .inr (by have:=hr.nx;omega)⟩
  show nx0≤s.nx+n;have:=hr.nx;omega
 have e:(Kp n).filter (fun i=> !(Ky ops.size false).getD i true)=Kp n:=by
  rw[KS];intro x hx;have:x<ops.size:=by have:=Ko.1 hx;omega
  simp[KF,this]
 rw[e];simp
section
variable{F:Fence}{n:Nat}{P:Program}
def mD(fn:FuncId)(tmps:Array Value)(ps:Array Tmp)(assign body:Code)(D:Nat)(st:LoopState)(pe:Option Code):Loop:=
 {state:=st,pending:=pe,fn,tmps,params:=ps,assign,body,defers:=D}
theorem j1{g:Operand}{ps:Array Tmp}{assign body:Code}{Q:Exit→Act→World→Prop}{a:Act}{w:World}
 (hro:F.round=none) (h1:F.depth.isSome=true→1≤n) {gf:Nat} {lb:Array Value} (hg:a.eval g= .func (.func gf) #[] lb) (hFg:F.fn gf) (eg:∀args w,(callFunc gf args).run P w= .ok (.enter gf args) w)
 (h:∀fn,F.fn fn→CallsIn F (n-1) P gf (#[.func (.yield (w.heap.size+1)) #[] #[]]++lb)
   ((w.alloc (.deferred (some []))).alloc (.loop (mD fn a.tmps ps assign body w.heap.size .ready none))) fun e W2=>(∃v,e= .returned v)∧
   ((W2.heap[w.heap.size+1]?=some (.loop (mD fn a.tmps ps assign body w.heap.size .ready none))∧
      Q .normal {a with defers:={target:= .collected w.heap.size,args:=#[]}::a.defers} (W2.putObj (w.heap.size+1) (.loop (mD fn a.tmps ps assign body w.heap.size .exhausted none))))∨
    (∃c,W2.heap[w.heap.size+1]?=some (.loop (mD fn a.tmps ps assign body w.heap.size .done (some c)))∧
      c.wpIn F n P Q {a with defers:={target:= .collected w.heap.size,args:=#[]}::a.defers} (W2.putObj (w.heap.size+1) (.loop (mD fn a.tmps ps assign body w.heap.size .exhausted (some c))))))):
 (Code.rangeFunc g ps assign body).wpIn F n P Q a w:=by
 refine wpIn_rangeFunc ?_;intro fn hfn;rw[hro];let W1:=(w.alloc (.deferred (some []))).alloc (.loop (mD fn a.tmps ps assign body w.heap.size .ready none))
 refine⟨w.heap.size+1,[{target:= .collected w.heap.size,args:=#[]}],W1,{target:= .fn (.func gf) lb,args:=#[.func (.yield (w.heap.size+1)) #[] #[]]},W1,gf,
  #[.func (.yield (w.heap.size+1)) #[] #[]]++lb,W1,run_enterLoop_outer _ _ _ _ _,?_,?_,?_,h1,?_⟩
 ·simp only[resolve,hg];simp[go_sem]
 ·intro f' hf';simp[Target.leads] at hf';subst hf';exact hFg
 ·simp[invoke,go_sem,eg]
 refine(h fn hfn).mono ?_;rintro e W2 ⟨⟨v,rfl⟩,(⟨hl,hq⟩|⟨c,hl,hq⟩)⟩
 ·exact⟨none,_,by have:=run_endLoop (P:=P) hl (by simp[mD]);exact this,hq⟩
 exact⟨some c,_,by have:=run_endLoop (P:=P) hl (by simp[mD]);exact this,hq⟩
def zw(l:Nat)(rcd:LoopState→Option Code→Obj)(R:Ending→World→Prop):Exit→Act→World→Prop
 | .normal,_,W=>W.heap[l]?=some (rcd .busy none)∧R (.returned (.bool true)) (W.putObj l (rcd .ready none))
 | .ret,_,W=>W.heap[l]?=some (rcd .busy none)∧R (.returned (.bool false)) (W.putObj l (rcd .done (some .ret)))
 | .exit id,_,W=>W.heap[l]?=some (rcd .busy none)∧R (.returned (.bool false)) (W.putObj l (rcd .done (some (.exit id))))
 |_,_,_=>False
theorem sv{l:Nat}{fn:FuncId}{tmps:Array Value}{ps:Array Tmp}{assign body:Code}{D:Nat}{args:Array Value}{W:World}{R:Ending→World→Prop}{m:Nat}
 (hF:F.fn fn) (hl:W.heap[l]?=some (.loop (mD fn tmps ps assign body D .ready none))) (hsz:args.size=ps.size)
 (h:assign.wpIn (F.inRound l) m P (Exit.then (fun a₁ W₁=>W₁.heap[l]?=some (.loop (mD fn tmps ps assign body D .ready none))∧
   body.wpIn (F.inRound l) m P (zw l (fun st pe=> .loop (mD fn tmps ps assign body D st pe)) R) a₁ (W₁.putObj l (.loop (mD fn tmps ps assign body D .busy none)))) (fun _ _ _=>False))
   {tmps:=(ps.zip args).foldl (fun t (p,v)=>t.setIfInBounds p v) tmps,defers:=[]} W):
 YieldAt F m P l args W R:=by
 refine⟨fn,_,assign,body,run_yield (P:=P) (args:=args) hl hsz,roundIn_of_wpIn hF ?_⟩;refine wpIn_mono h ?_;rintro e a₁ W₁ he;cases e with
 |normal=>
  obtain⟨hl1,hb⟩:=he;refine⟨_,run_beginRound hl1 rfl,?_⟩;refine wpIn_mono hb ?_;rintro e a₂ W₂ he;cases e with
  |normal=>exact⟨_,_,run_endRound none he.1,he.2⟩
  |ret=>exact⟨_,_,run_endRound (some .ret) he.1,he.2⟩
  |exit id=>exact⟨_,_,run_endRound (some (.exit id)) he.1,he.2⟩
  |goto t=>exact he.elim
  |panic ch=>exact he.elim
  |outgrown=>exact he.elim
 |exit id=>exact he.elim
 |goto t=>exact he.elim
 |ret=>exact he.elim
 |panic ch=>exact he.elim
 |outgrown=>exact he.elim
end
def Ker.more(K:Ker)(o:Obj):Ker:={K with w:=K.w.alloc o}
theorem Ker.aEe(K:Ker)(o:Obj):K.le (K.more o) where
 live _ h:=h
 mu _ _:=rfl
 tp _ _:=rfl
 fro:=rfl
 imm _ _:=Kw _
 cell b o' hlt _:=kZ (fQ _ _ _ hlt)
 shape b hlt:=oL (fQ _ _ _ hlt)
 below:=pY.alloc _ o
theorem Rel.more{K:Ker}{h:Hp}(r:Rel K h)(o:Obj):Rel (K.more o) h:=r.aBB (K.aEe o) fun _ b e=>⟨fQ _ _ _ (r.blk _ b e).lt_size,rfl⟩
theorem BR.aEa{K:Ker}{n:Nat}{o:Obj}{U:Ker→Prop}(r:BR K n (.obj o U)):K.w.heap[K.mu n]?=some o∧kG o=true∧U K∧∀A B:Ker,A.leV B→U A→U B:=by
 cases r with
 |obj _ _ hh ho hu hU=>exact⟨hh,ho,hu,hU⟩
theorem Rel.setObj{K:Ker}{h:Hp}(r:Rel K h){n:Nat}{o o0:Obj}{U:Ker→Prop}(hn:h n=some (.obj o0 U))(ho:kG o=true):K.le (K.obj (K.mu n) o)∧Rel (K.obj (K.mu n) o) (h.set n (.obj o U)):=by
 obtain⟨h1,h2,h3,h4⟩:=(r.blk n _ hn).aEa;have hle:=K.aG9 h1 (kR h2) (kR ho) (r.base n _ hn) (oC h1 h2);exact r.aEY hn h1 h2 ho (.obj o U (World.putObj_heap_same (Ku.1 h1).1) ho (h4 _ _ hle.toV h3) h4)
theorem AG(h:Hp)(n:Nat)(b:Blk):(h.del n).le (h.set n b):=fun m c e=>by
 unfold Kk at e;split at e
 ·cases e
 rename_i hm;unfold Kb;rw[if_neg hm];exact e
def aAr(sl:List V):List Nat→List V→List V
 |p::ps,v::vs=>aAr (sl.set p v) ps vs
 |_,_=>sl
theorem gG.aA4{K K':Ker}(h:K.leV K'){sl:List V}{a:Act}(r:gG K sl a):gG K' sl a:=⟨r.1,fun t=>(r.2 t).aA4 h⟩
theorem gG.aAr{K:Ker}{ds:List Deferred}:∀(ps:List Nat) (args:List V) (aAK:List Value) (sl:List V) (tm:Array Value),gG K sl ⟨tm,ds⟩→args.length=aAK.length→(∀i,i<args.length→VR K (args.getD i Ka) (aAK.getD i KC))→
 gG K (aAr sl ps args) ⟨(ps.zip aAK).foldl (fun t p=>t.setIfInBounds p.1 p.2) tm,ds⟩
 | [],args,aAK,sl,tm,hs,_,_=>by cases args<;>simpa [Go.Proofs.YtecepaehmojpgaaGreat.aAr] using hs
 |p::ps,[],aAK,sl,tm,hs,hl,_=>by
  have:aAK=[]:=by cases aAK with
   |nil=>rfl
   |cons=>simp at hl
  subst this;simpa [Go.Proofs.YtecepaehmojpgaaGreat.aAr] using hs
 |p::ps,v::vs,[],sl,tm,hs,hl,_=>by simp at hl
 |p::ps,v::vs,cv::cvs,sl,tm,hs,hl,hv=>by
  have h1:gG K (sl.set p v) ⟨tm.setIfInBounds p cv,ds⟩:=hs.put (dst:=some p) (by simpa using hv 0 Zm);have:=gG.aAr ps vs cvs (sl.set p v) (tm.setIfInBounds p cv) h1 (by simpa using hl) (fun i hi=>by simpa using hv (i+1) (by simpa using hi));simpa [Go.Proofs.YtecepaehmojpgaaGreat.aAr] using this
def wQ:List Nat→World→World
 | [],w=>w
 |D::Ds,w=>wQ Ds (w.putObj D (.deferred none))
theorem qP{P:Program}{fn:Func}{tmps:Array Value}{R:Ending→World→Prop}:∀(Ds:List Nat) (w:World),Ds.Nodup→(∀D∈Ds,iH w D)→(∃v,(results fn tmps).run P (wQ Ds w)= .ok v (wQ Ds w)∧R (.returned v) (wQ Ds w))→
 LeavesInM Fence.wide 4 P fn tmps R (Ds.map fun D=>{target:= .collected D,args:=#[]}) .returning w
 | [],w,_,_,h=>h
 |D::Ds,w,hnd,hm,h=>by
  have aJk:=KQ.1 hnd;refine⟨Zm, .inl ⟨D,_,rfl,run_takeDeferred (hm D Zm),?_⟩⟩;refine qP Ds _ aJk.2 (fun E hE=>?_) h;have hne:E≠D:=fun e=>aJk.1 (e▸hE);exact(Kx hne).trans (hm E (by simp[hE]))
theorem fi{K:Ker}:∀(Ds:List Nat) (w:World) (K1:Ker),K1.w=w→(∀D∈Ds,iH w D)→Ds.Nodup→K.le K1→(∀D∈Ds,K.w.heap.size≤D)→(∀b,K.fro b→b<K.w.heap.size)→∀{h:Hp},Rel K1 h→
 ∃K2,K2.w=wQ Ds w∧K1.leV K2∧K.le K2∧Rel K2 h∧K2.live=K1.live
 | [],w,K1,hw,_,_,hle,_,_,h,hr=>⟨K1,hw, .refl _,hle,hr,rfl⟩
 |D::Ds,w,K1,hw,hm,hnd,hle,hB,hF,h,hr=>by
  subst hw;have aJk:=KQ.1 hnd;have hmD:=hm D Zm;have hBD:=hB D Zm;have hV:=K1.aCC (o:= .deferred none) hmD rfl rfl;have aGU:K.le (K1.obj D (.deferred none)):=by
   refine⟨fun n hn=>hle.live n hn,hle.mu,hle.tp,hle.fro,hle.imm,fun b o hb hst=>(hV.cell b o (KK hb hle.below.size) (hle.still hb hst)).trans (hle.cell b o hb hst),fun b hb=>(hV.shape b (KK hb hle.below.size)).trans (hle.shape b hb),?_⟩;exact⟨hle.below.os,hle.below.tape,hle.below.output,hle.below.drawn,Qh hle.below.size hV.size,fun b hb hk=>(Kx or).trans (hle.below.block b hb hk)⟩
  have hr':Rel (K1.obj D (.deferred none)) h:=hr.aJY hV fun n b e=>by
   refine⟨Kx ?_,rfl⟩;intro e2;have hb:=hr.blk n b e;unfold iH at hmD;rw[←e2] at hmD;cases hb with
   |arr k es c T hh=>rw[hh] at hmD;cases hmD
   |tip c T hh=>rw[hh] at hmD;cases hmD
   |obj o U hh ho=>rw[hh] at hmD;injection hmD with hmD;subst hmD;cases ho
   |mp es c ces hh=>rw[hh] at hmD;cases hmD
   |mit m since seen last hh=>rw[hh] at hmD;cases hmD
  obtain⟨K2,q1,q2,q3,q4,q5⟩:=fi (K:=K) Ds _ (K1.obj D (.deferred none)) rfl (fun E hE=>by
   have hne:E≠D:=fun e=>aJk.1 (e▸hE);exact(Kx hne).trans (hm E (by simp[hE]))) aJk.2 aGU (fun E hE=>hB E (by simp[hE])) hF hr'
  exact⟨K2,q1,hV.trans q2,q3,q4,q5⟩
def xT(ops:Array Oper)(n:Nat)(l:List (aA×List Nat)):Bool:=
 Region.noSelect ops&&(decide (n=ops.size)||(decide (n<ops.size)&&Region.sinkB .any ops n&&Region.chainB .any ops n))&&
 Region.seqB .any ops (ops.size-n) n ((Kp ops.size).map (fun i=>decide (i<n))).toArray&&
 (Kp n).all (fun i=>match ops[i]?,l[i]? with
   |some o,some (lo,aAR)=>(o.after.toList.all fun e=> !Region.binds .any e||decide (e.on<i))&&(lo.aCh.aAF.all fun t=>(Kp n).all fun j=>iX ops j != some t||aAR.contains j)&&aAR.all (fun d=>decide (d<i))
   |_,_=>false)&&
 (Kp n).all (fun i=>(Kp n).all fun j=>i==j||(iX ops i).isNone||iX ops i != iX ops j)
theorem DA{ops:Array Oper}{n:Nat}{l:List (aA×List Nat)}(h:rM ops n l=true):xT ops n l=true:=by
 unfold rM at h;unfold xT;simp only[Kg,Kt] at h⊢;obtain⟨⟨⟨⟨a,b⟩,c⟩,d⟩,e⟩:=h;refine⟨⟨⟨⟨a,b⟩,c⟩,fun i hi=>?_⟩,e⟩;have:=d i hi;cases h1:ops[i]? with
 |none=>simp[h1] at this
 |some o=>
  cases h2:l[i]? with
  |none=>simp[h1,h2] at this
  |some p=>
   simp only[h1,h2,Kg] at this⊢;exact this.1
theorem Dy{P:Program}{ops:Array Oper}{n:Nat}{l:List (aA×List Nat)}(hB:xT ops n l=true){rd:Option Nat}{mm:Nat}{Q:Exit→Act→World→Prop}(Iv:Array Bool→Act→World→Prop)(hhd:∀aAA a w,Iv aAA a w→HeadInv .any ops n aAA)
 (aH4:∀aAA a w i (Kn:Act→World→Prop),Iv aAA a w→i<n→i∈Region.ready .any ops aAA→(∀a' w',Iv (aAA.setIfInBounds i true) a' w'→Kn a' w')→wpOpIn (FR rd) mm P ops Q i Kn a w)
 (aCo:∀aAA a w,Iv aAA a w→(∀j,j<n→aAA.getD j false=true)→wpListIn (FR rd) mm P ops Q (ops.toList.drop n) a w):
 ∀(f:Nat) (aAA:Array Bool) (a:Act) (w:World),f=((Kp n).filter fun i=> !aAA.getD i true).length→Iv aAA a w→wpAnyIn (FR rd) mm P .any ops Q (f+(ops.size-n)) aAA a w:=by
 have hB':=hB;simp only[xT,Kg,Kt,Ko,KH,decide_eq_true_eq] at hB';obtain⟨⟨⟨⟨aNu,aBC⟩,aJG⟩,aHE⟩,aD3⟩:=hB';have aEm:n≤ops.size:=by rcases aBC with h|⟨⟨h,_⟩,_⟩<;>omega
 intro f;induction f with
 |zero=>
  intro aAA a w hf inv;have aAt:∀i,i<n→aAA.getD i true=true:=by
   intro i hi;have hz:=KI hf.symm;rw[KO] at hz;have:=hz i (Ko.2 hi);simpa using this
  have aIU:∀j,j<n→aAA.getD j false=true:=by
   intro j hj;have:=aAt j hj;have hjs:j<aAA.size:=by rw[(hhd _ _ _ inv).size];omega
   simp only[KF,hjs,dif_pos] at this⊢;exact this
  have aIJ:aAA=((Kp ops.size).map (fun i=>decide (i<n))).toArray:=by
   apply Qi
   ·simp[(hhd _ _ _ inv).size]
   intro i h1 h2;have hi:i<ops.size:=by simpa [(hhd _ _ _ inv).size] using h1
   by_cases hin:i<n
   ·have:=aAt i hin;rw[Kh,Ki h1] at this;simpa [hin] using this
   have:=(hhd _ _ _ inv).tail i or hi;rw[Kh,Ki h1] at this;simpa [hin] using this
  have h:=aCo aAA a w inv aIU;have hl:(ops.toList.drop n).length=ops.size-n:=Zm;rw[KU];have:=rR (rd:=rd) (mm:=mm) (P:=P) (md:= .any) (Q':=Q) (ops.toList.drop n) n aAA a w (fun j=>by simp[KD]) (by rw[hl,aIJ];exact aJG) h;rwa [hl] at this
 |succ f ih=>
  intro aAA a w hf inv;have hex:∃i,i<n∧aAA.getD i true=false:=by
   have hne:((Kp n).filter fun i=> !aAA.getD i true)≠ []:=by intro h;rw[h] at hf;simp at hf
   obtain⟨i,hi⟩:=KL _ hne;rw[KP,Ko] at hi;exact⟨i,hi.1,by simpa using hi.2⟩
  obtain⟨i0,hi0,aJa⟩:=hex;have aIO:∀j∈Region.ready .any ops aAA,j<n:=by
   intro j hj;rcases aBC with h|⟨⟨h,hs⟩,hc⟩
   ·obtain⟨_,o,ho,_⟩:=mem_ready.1 hj;have:=(Ku.1 ho).1;omega
   rcases KN j n with h'|h'
   ·exact h'
   exact absurd hj (tail_waits hs hc h (hhd _ _ _ inv) _ i0 rfl hi0 aJa j h')
  have aBd:∀k,k<n→aAA.getD k true=false→(∀j,j<k→aAA.getD j true=true)→k∈Region.ready .any ops aAA:=by
   intro k hk hun hlt;have ho:=aHE k hk;have hok:ops[k]?=some (ops[k]'or):=Ki or;rw[hok] at ho;refine mem_ready.2 ⟨hun,_,hok,fun e he hb=>?_⟩;cases hlk:l[k]? with
   |none=>simp[hlk] at ho
   |some q=>
    obtain⟨lo,aAR⟩:=q;simp only[hlk,Kg,Kt] at ho;have h:=ho.1.1 e (KG.2 he);simp only[hb,Qd,Qe,decide_eq_true_eq] at h;have h2:=hlt e.on h;have hs:e.on<aAA.size:=by rw[(hhd _ _ _ inv).size];omega
    rw[Kh,Ki hs] at h2⊢;exact h2
  have aCl:Region.ready .any ops aAA≠ []:=by
   have least:∀k,k≤i0→(∀j,j<k→aAA.getD j true=true)→∃i,i<n∧i∈Region.ready .any ops aAA:=by
    intro k hk;induction hd:i0-k generalizing k with
    |zero=>
     intro hl;have hki:k=i0:=or;subst hki;exact⟨k,hi0,aBd k hi0 aJa hl⟩
    |succ d ihd=>
     intro hl;by_cases hu:aAA.getD k true=true
     ·exact ihd (k+1) or or (fun j hj=>by
       by_cases hjk:j=k
       ·subst hjk;exact hu
       exact hl j or)
     exact⟨k,or,aBd k or (by simpa using hu) hl⟩
   obtain⟨i,_,hi⟩:=least 0 or (fun j hj=>or);intro h;rw[h] at hi;cases hi
  rw[show f+1+(ops.size-n)=(f+(ops.size-n))+1 by omega];refine⟨fun h=>absurd h aCl,fun i hi=>?_⟩;have hin:=aIO i hi;obtain⟨hun,o,ho,_⟩:=mem_ready.1 hi;refine aH4 _ _ _ _ _ inv hin hi fun a' w' aJC=>ih _ a' w' ?_ aJC;have aJt:i<aAA.size:=by rw[(hhd _ _ _ inv).size];exact(Ku.1 ho).1
  have:=sO (fun x=> !aAA.getD x true) (fun x=> !(aAA.setIfInBounds i true).getD x true) i (by simpa using hun) (by simp[KF,aJt]) (fun x hx=>by rw[getD_set_ne true (fun e=>hx e.symm)]) (Kp n) KX (Ko.2 hin);omega
def DQ(P:Program)(hd:List (aA×List Nat))(tl:List aA)(Q:St→Prop)(s:St):Prop:=
 ∃I:(Nat→Bool)→St→Prop,I (fun _=>false) s∧
  (∀D i o aAR s',hd[i]?=some (o,aAR)→D i=false→(∀d∈aAR,D d=true)→(∀j o aAR,hd[j]?=some (o,aAR)→D j=true→∀d∈aAR,D d=true)→I D s'→bF P [o] (I fun j=>if j=i then true else D j) s')∧
  ∀D s',(∀i,i<hd.length→D i=true)→I D s'→bF P tl Q s'
theorem qa{ops:Array Oper}{n:Nat}{aAA:Array Bool}(aEm:n≤ops.size)(inv:HeadInv .any ops n aAA):∀j,j<n→aAA.getD j false=true→∀d,d∈pB ops n j→d<n∧aAA.getD d false=true:=by
 have hd1:∀j,j<n→aAA.getD j false=true→∀d,d∈zd1 ops n j→d<n∧aAA.getD d false=true:=by
  intro j hj aBb d hd;have hoj:ops[j]?=some (ops[j]'or):=Ki or;simp only[zd1,hoj,Option.map_some,Qa,KV,KP,Kg,decide_eq_true_eq] at hd;obtain⟨e,⟨he,hb,hn⟩,rfl⟩:=hd;exact⟨hn,inv.closed j _ hoj aBb e (KG.1 he) hb⟩
 intro j hj aBb d hd;exact mh ops n (S:=fun d=>d<n∧aAA.getD d false=true) j (fun k hk hS d hd=>hd1 k hS.1 hS.2 d hd) ⟨hj,aBb⟩ n hj d hd
theorem uX{P:Program}{w:Bool}{fl:List aP}{sl:List V}{h:Hp}{nx:Nat}{R:V→Hp→Nat→Prop}{l:LOp}(hr:(l.aBL w fl).run P sl h nx R):l.run P sl h nx R:=by
 cases l with
 |call f args=>
  unfold LOp.aBL at hr;cases w with
  |true=>exact hr.elim
  |false=>exact hr
 |_=>exact hr
theorem xr{P:Program}{id:Nat}{ops:Array Oper}{n:Nat}{w0:Bool}{l:List (aA×List Nat)}{tl:List aA}(hm:P.follows .mixedOrders=true)(hB:xT ops n l=true)(hl:eI P ops n w0 0 (ops.toList.take n)=some l)(htl:dV P ops (ops.toList.drop n)=some tl)
 {K0 K:Ker} {nx0:Nat} {s:St} {a:Act} (hr:mN K0 K nx0 s a) {Q:Exit→Act→World→Prop} {Qs:St→Prop} (hQ:∀K s a,mN K0 K nx0 s a→Qs s→Q .normal a K.w)
 (h:DQ P l tl Qs s) {rd:Option Nat} {mm:Nat}:(Code.region id ops true).wpIn (FR rd) mm P Q a K.w:=by
 obtain⟨I,h0,aH4,aCo⟩:=h;have hB':=hB;simp only[xT,Kg,Kt,Ko,KH,decide_eq_true_eq] at hB';obtain⟨⟨⟨⟨aNu,aBC⟩,aJG⟩,aHE⟩,aD3⟩:=hB';have aEm:n≤ops.size:=by rcases aBC with h|⟨⟨h,_⟩,_⟩<;>omega
 obtain⟨hll,hlg⟩:=jV _ _ _ hl;have hln:l.length=n:=by rw[hll];simp;omega
 have hdd:=il aEm hl;have hlj:∀j,j<n→∃lo aAR,l[j]?=some (lo,aAR):=fun j hj=>⟨(l[j]'or).1,(l[j]'or).2,Km or⟩;have hjn:∀{j lo aAR},l[j]?=some (lo,aAR)→j<n:=fun hj=>by have:=(List.getElem?_eq_some_iff.1 hj).1;omega
 refine wpIn_region_any hm ?_;have hdr:=K.aAm;have aA9:=Dy (P:=P) (rd:=rd) (mm:=mm) (Q:=Q) hB (fun aAA a w=>HeadInv .any ops n aAA∧∃K' s',K'.w=w∧mN K0 K' nx0 s' a∧I (fun j=>aAA.getD j false) s') (fun _ _ _ h=>h.1) ?_ ?_ n (Ky ops.size false) a K.drew.w ?_ ?_
 ·rw[show n+(ops.size-n)=ops.size by omega] at aA9;exact aA9
 ·rintro aAA a' w' i Kn ⟨hhd,K',s',rfl,hr',hI⟩ hin hi hK;obtain⟨hun,o,ho,aAt⟩:=mem_ready.1 hi;have hot:(ops.toList.take n)[i]?=some o:=by rw[List.getElem?_take,if_pos hin];simpa using ho
  obtain⟨lo,hlo,aGS⟩:=hlg i o hot;rw[KU] at hlo;have hdn:∀d,d∈pB ops n i→aAA.getD d false=true:=by
   have aAT:=qa aEm (hhd.set hi hin) i hin (by
    have hs:i<aAA.size:=by rw[hhd.size];omega
    simp[KF,hs])
   intro d hd;have h1:=aAT d hd;have hne:d≠i:=by
    have h2:=aHE i hin;have hoj:ops[i]?=some (ops[i]'or):=Ki or;simp only[hoj,hlo,Kg,Kt,decide_eq_true_eq] at h2;have:=h2.2 d hd;omega
   rw[getD_set_ne false (fun e=>hne e.symm)] at h1;exact h1.2
  have hq:=aH4 (fun j=>aAA.getD j false) i _ _ s' hlo (getD_both hun) hdn (fun j o' aFq hj hD d hd=>by
   rw[(hdd j o' aFq hj).2] at hd;exact(qa aEm hhd j (hjn hj) hD d hd).2) hI
  refine vS ho aGS hr' (fun s''=>I (fun j=>(aAA.setIfInBounds i true).getD j false) s'') (fun K2 s2 a2 hr2 hI2=>hK a2 K2.w ⟨hhd.set hi hin,K2,s2,rfl,hr2,hI2⟩) ?_;have heq:(fun j=>if j=i then true else aAA.getD j false)=fun j=>(aAA.setIfInBounds i true).getD j false:=by
   funext j;by_cases e:j=i
   ·subst e;have hs:j<aAA.size:=by rw[hhd.size];omega
    simp[KF,hs]
   rw[if_neg e,getD_set_ne false (fun h=>e h.symm)]
  rw[heq] at hq;unfold bF at hq;unfold aA.aBL at hq;cases hg:lo.g with
  |none=>
   simp only[hg] at hq⊢;exact uX hq
  |some p=>
   obtain⟨t,want⟩:=p;simp only[hg] at hq⊢;cases hv:s'.sl.getD t Ka with
   |bool b=>
    simp only[hv] at hq⊢;by_cases hb:b=want
    ·rw[if_pos hb] at hq⊢;exact uX hq
    rw[if_neg hb] at hq⊢;exact hq
   |tup _=>simp only[hv] at hq⊢;exact hq
   |_=>simp only[hv] at hq
 ·rintro aAA a' w' ⟨hhd,K',s',rfl,hr',hI⟩ aAt;exact yT hQ (ops.toList.drop n) tl n htl (fun j=>by simp[KD]) K' s' a' hr' (aCo _ s' (fun i hi=>aAt i or) hI)
 ·have:∀i∈Kp n,(!(Ky ops.size false).getD i true)=true:=by
   intro i hi;rw[getD_in (by simpa using(show i<ops.size by have:=Ko.1 hi;omega)) (getD_replicate_false _ _)];rfl
  rw[KS.2 this];simp
 refine⟨⟨Zm,fun j oj _ hl=>(by rw[getD_replicate_false] at hl;cases hl),fun t _ ht=>getD_in (by simpa using ht) (getD_replicate_false _ _)⟩,K.drew,s,rfl,⟨hr.le.trans hdr,hr.aAF.mono hdr,hr.rel.drew,hr.live,hr.nx,hr.defers.kept hdr.below⟩,?_⟩;have:(fun j=>(Ky ops.size false).getD j false)=fun _=>false:=funext fun j=>getD_replicate_false _ _;rw[this];exact h0
def WkL:List V→List V→Prop
 | [],[]=>True
 |a::as,b::bs=>(b=a∨b= .top)∧WkL as bs
 |_,_=>False
structure Wk(s s':St):Prop where
 sl:WkL s.sl s'.sl
 h:s'.h.le s.h
 nx:s.nx≤s'.nx
theorem WkL.refl:∀l,WkL l l
 | []=>trivial
 |_::l=>⟨.inl rfl,WkL.refl l⟩
theorem Wk.refl(s:St):Wk s s:=⟨WkL.refl _,Hp.le_refl _,Kw _⟩
theorem WkL.len:∀{a b:List V},WkL a b→a.length=b.length
 | [],[],_=>rfl
 |_::as,_::bs,h=>by simp[WkL.len h.2]
theorem WkL.get:∀{a b:List V},WkL a b→∀i,b.getD i Ka=a.getD i Ka∨b.getD i Ka= .top
 | [],[],_,i=> .inl rfl
 |a::as,b::bs,h,0=>by simpa using h.1
 |a::as,b::bs,h,i+1=>by simpa using WkL.get h.2 i
theorem mN.wk{K0 K:Ker}{nx0:Nat}{s s':St}{a:Act}(r:mN K0 K nx0 s a)(w:Wk s s'):mN K0 K nx0 s' a:=by
 refine⟨r.le,⟨w.sl.len.symm.trans r.aAF.1,fun t=>?_⟩,r.rel.weaken w.h,fun n hn=>⟨KK (r.live n hn).1 w.nx,(r.live n hn).2⟩,Qh r.nx w.nx,r.defers⟩;rcases w.sl.get t with h|h
 ·rw[h];exact r.aAF.2 t
 rw[h];exact .top _
def af(s s':St):Prop:=∀(K0 K:Ker) (nx0:Nat) (a:Act),mN K0 K nx0 s a→∃K',K'.w=K.w∧mN K0 K' nx0 s' a
theorem Wk.tell{s s':St}(w:Wk s s'):af s s':=fun _ K _ _ r=>⟨K,rfl,r.wk w⟩
theorem af.trans{s1 s2 s3:St}(h:af s1 s2)(k:af s2 s3):af s1 s3:=fun K0 K nx0 a r=>
 have⟨_,e1,r1⟩:=h K0 K nx0 a r;have⟨K2,e2,r2⟩:=k K0 _ nx0 a r1
 ⟨K2,e2.trans e1,r2⟩
def nW(b:(cM→St→Prop)→St→Prop)(Q:cM→St→Prop):cM→St→Prop
 | .normal,s=>∃s',af s s'∧b Q s'
 |e,s=>Q e s
def fP(id:Nat)(Q:cM→St→Prop):cM→St→Prop
 | .exit id',s=>if id'=id then Q .normal s else Q (.exit id') s
 |e,s=>Q e s
def FV(J:St→Prop)(Q:cM→St→Prop):cM→St→Prop
 | .normal,s=>∃s',af s s'∧J s'
 |e,s=>Q e s
def Gg(r:Nat)(o:Obj)(U:Ker→Prop)(J:St→Prop):cM→St→Prop
 | .normal,s=>s.h r=some (.obj o U)∧J s
 |_,_=>False
def Fe(r:Nat)(rcd:LoopState→Option Code→Obj)(U:Ker→Prop)(R:V→Hp→Nat→Prop):cM→St→Prop
 | .normal,s=>s.h r=some (.obj (rcd .busy none) U)∧R (.bool true) (s.h.set r (.obj (rcd .ready none) U)) s.nx
 | .ret,s=>s.h r=some (.obj (rcd .busy none) U)∧R (.bool false) (s.h.set r (.obj (rcd .done (some .ret)) U)) s.nx
 | .exit id,s=>s.h r=some (.obj (rcd .busy none) U)∧R (.bool false) (s.h.set r (.obj (rcd .done (some (.exit id))) U)) s.nx
def Ec(r:Nat)(rcd:LoopState→Option Code→Obj)(U:Ker→Prop)(Q:cM→St→Prop)(sl:List V)(h':Hp)(nx':Nat):Prop:=
 (h' r=some (.obj (rcd .ready none) U)∧Q .normal ⟨sl,h'.del r,nx'⟩)∨(h' r=some (.obj (rcd .done (some .ret)) U)∧Q .ret ⟨sl,h'.del r,nx'⟩)∨
   ∃id,h' r=some (.obj (rcd .done (some (.exit id))) U)∧Q (.exit id) ⟨sl,h'.del r,nx'⟩
def lwp(P:Program):aZ→(cM→St→Prop)→St→Prop
 | .skip,Q,s=>Q .normal s
 | .ops l,Q,s=>bF P l (Q .normal) s
 | .draw n hd tl,Q,s=>(((hd.all fun p=>match p.1.dst with|some d=>decide (d<s.sl.length)|none=>true)&&decide (n=hd.length))=true∧
  dI P s.h s.nx hd s.sl [] [] fun sl aAL cons=>bF P tl (Q .normal) ⟨sl,cj (pW s.h s.nx aAL) cons,s.nx+n⟩)∨DQ P hd tl (Q .normal) s
 | .seq a b,Q,s=>lwp P a (nW (lwp P b) Q) s
 | .cond c a b,Q,s=>match c.ev s.sl with
  | .bool t=>if t=true then lwp P a Q s else lwp P b Q s
  |_=>False
 | .block id c,Q,s=>lwp P c (fP id Q) s
 | .loop c,Q,s=>∃(I:St→Prop) (m:St→Nat),(∃s',af s s'∧I s')∧∀s,I s→lwp P c (FV (fun s'=>I s'∧m s'<m s) Q) s
 | .exit id,Q,s=>Q (.exit id) s
 | .ret,Q,s=>Q .ret s
 | .range g ps as b,Q,s=>match g.ev s.sl with
  | .fn (.func gf) [] aAY=>∀(rcd:LoopState→Option Code→Obj) (U:Ker→Prop),(∀st pe,kG (rcd st pe)=true)→
   (∀(args:List V) (h:Hp) (nx:Nat) (R:V→Hp→Nat→Prop),args.length=ps.length→h s.nx=some (.obj (rcd .ready none) U)→
     lwp P as (Gg s.nx (rcd .ready none) U fun s1=>lwp P b (Fe s.nx rcd U R) ⟨s1.sl,s1.h.set s.nx (.obj (rcd .busy none) U),s1.nx⟩) ⟨aAr s.sl ps args,h,nx⟩→gA P s.nx args h nx R)→
   bD P gf (.yld s.nx::aAY) (s.h.set s.nx (.obj (rcd .ready none) U)) (s.nx+1) fun _ h' nx'=>Ec s.nx rcd U Q s.sl h' nx'
  |_=>False
def LOp.aHz:LOp→Bool
 | .store _ _ _=>true
 | .mp (.put _ _ _ _ _)=>true
 | .mp (.del _ _ _ _)=>true
 |_=>false
def zW(P:Program)(ops:Array Oper)(w:Bool)(n:Nat):Option aZ:=
 match eI P ops n w 0 (ops.toList.take n),dV P ops (ops.toList.drop n) with
 |some l,some tl=>if (rM ops n l&&(w||l.all fun p=> !p.1.op.aHz))=true then some (.draw n l tl) else none
 |_,_=>none
def sP(P:Program)(ops:Array Oper)(w:Bool):Nat→Option aZ
 |0=>zW P ops w 0
 |n+1=>match zW P ops w (n+1) with
  |some c=>some c
  |none=>sP P ops w n
def xq(P:Program)(ops:Array Oper):Option aZ:=
 match eI P ops ops.size false 0 (ops.toList.take ops.size) with
 |some l=>if xT ops ops.size l=true then some (.draw (l.length+1) l []) else none
 |none=>none
def ry(P:Program)(ops:Array Oper):Option aZ:=
 match sP P ops false ops.size with
 |some c=>some c
 |none=>match sP P ops true ops.size with
  |some c=>some c
  |none=>xq P ops
def gK:Code→Bool
 | .seq a b=>gK a&&gK b
 | .cond _ a b=>gK a&&gK b
 | .block _ c=>gK c
 | .loop c=>gK c
 | .scope _=>false
 | .rangeFunc _ _ _ _=>false
 |_=>true
def cI(P:Program):Code→Option aZ
 | .skip=>some .skip
 | .label _=>some .skip
 | .region _ ops false=>(dV P ops ops.toList).map .ops
 | .region _ ops true=>if P.follows .mixedOrders then ry P ops else none
 | .seq a b=>match cI P a,cI P b with
  |some a,some b=>some (.seq a b)
  |_,_=>none
 | .cond c a b=>match aU P 0 c,cI P a,cI P b with
  |some c,some a,some b=>some (.cond c a b)
  |_,_,_=>none
 | .block id c=>(cI P c).map (.block id)
 | .loop c=>(cI P c).map .loop
 | .scope c=>cI P c
 | .exit id=>some (.exit id)
 | .ret=>some .ret
 | .rangeFunc g ps as b=>if gK as=true∧gK b=true then match aU P 0 g,cI P as,cI P b with
  |some g,some as,some b=>some (.range g ps.toList as b)
  |_,_,_=>none
  else none
 |_=>none
theorem rx{P:Program}{ops:Array Oper}{w:Bool}{n:Nat}{L:aZ}(h:zW P ops w n=some L):∃l tl,L= .draw n l tl∧rM ops n l=true∧eI P ops n w 0 (ops.toList.take n)=some l∧dV P ops (ops.toList.drop n)=some tl:=by
 unfold zW at h;split at h
 ·rename_i l tl h1 h2;split at h
  ·rename_i hb;injection h with h;simp only[Kg] at hb;exact⟨l,tl,h.symm,hb.1,h1,h2⟩
  cases h
 cases h
theorem nL{P:Program}{ops:Array Oper}{w:Bool}{L:aZ}:∀n,sP P ops w n=some L→∃n,zW P ops w n=some L
 |0,h=>⟨0,h⟩
 |n+1,h=>by
  unfold sP at h;split at h
  ·rename_i c hc;injection h with h;subst h;exact⟨n+1,hc⟩
  exact nL n h
theorem lu{P:Program}{ops:Array Oper}{L:aZ}(h:ry P ops=some L):∃m l tl w n,L= .draw m l tl∧(m=l.length→rM ops n l=true∧m=n)∧xT ops n l=true∧eI P ops n w 0 (ops.toList.take n)=some l∧dV P ops (ops.toList.drop n)=some tl:=by
 have at_:∀w n,zW P ops w n=some L→∃m l tl w n,L= .draw m l tl∧(m=l.length→rM ops n l=true∧m=n)∧xT ops n l=true∧eI P ops n w 0 (ops.toList.take n)=some l∧dV P ops (ops.toList.drop n)=some tl:=fun w n hn=>by
  obtain⟨l,tl,rfl,hB,h1,h2⟩:=rx hn;exact⟨n,l,tl,w,n,rfl,fun _=>⟨hB,rfl⟩,DA hB,h1,h2⟩
 unfold ry at h;split at h
 ·rename_i c hc;injection h with h;subst h;obtain⟨n,hn⟩:=nL _ hc;exact at_ _ _ hn
 split at h
 ·rename_i c hc;injection h with h;subst h;obtain⟨n,hn⟩:=nL _ hc;exact at_ _ _ hn
 unfold xq at h;split at h
 ·rename_i l hl;split at h
  ·rename_i hB;injection h with h;subst h;exact⟨_,l,[],false,ops.size,rfl,fun e=>or,hB,hl,by rw[List.drop_of_length_le Zm];rfl⟩
  cases h
 cases h
theorem uu{P:Program}{g:Operand}{ps:Array Tmp}{as b:Code}{lg:aP}{la lb:aZ}(h0:aU P 0 g=some lg)
 (ha:∀(l m:Nat) (Q:cM→St→Prop) (s:St),lwp P la Q s→∀(K0 K:Ker) (nx0:Nat) (act:Act),mN K0 K nx0 s act→as.wpIn (FR (some l)) m P (AU K0 nx0 Q) act K.w)
 (hb:∀(l m:Nat) (Q:cM→St→Prop) (s:St),lwp P lb Q s→∀(K0 K:Ker) (nx0:Nat) (act:Act),mN K0 K nx0 s act→b.wpIn (FR (some l)) m P (AU K0 nx0 Q) act K.w)
 {K0 K:Ker} {nx0:Nat} {s:St} {a:Act} (hr:mN K0 K nx0 s a) {Q:cM→St→Prop} (h:lwp P (.range lg ps.toList la lb) Q s) {mm:Nat}:(Code.rangeFunc g ps as b).wpIn (FR none) mm P (AU K0 nx0 Q) a K.w:=by
 have vg:=aK h0 hr.aAF.2;simp only[lwp] at h;split at h;case h_2=>exact h.elim
 rename_i gf aAY hev;rw[hev] at vg;generalize hcg:a.eval g=cg at vg;cases vg with
 |fn _ _ _ cf cc hl1 hl2 hv1 hv2=>
 have hcf:cf=#[]:=by
  apply Array.eq_empty_of_size_eq_zero;simpa using hl1.symm
 subst hcf;have aAP:¬K.live s.nx:=fun hn=>KT _ (hr.live _ hn).1;have key:∀fn:FuncId,∃(rcd:LoopState→Option Code→Obj) (K1:Ker),(rcd=fun st pe=> .loop (mD fn a.tmps ps as b K.w.heap.size st pe))∧K1=(K.more (.deferred (some []))).push s.nx (rcd .ready none) 0∧K.le K1∧
  Rel K1 (s.h.set s.nx (.obj (rcd .ready none) fun K'=>K1.leV K'))∧bD P gf (.yld s.nx::aAY) (s.h.set s.nx (.obj (rcd .ready none) fun K'=>K1.leV K')) (s.nx+1) fun _ h' nx'=>Ec s.nx rcd (fun K'=>K1.leV K') Q s.sl h' nx':=by
  intro fn;obtain⟨rcd,aDk⟩:∃rcd:LoopState→Option Code→Obj,rcd=fun st pe=> .loop (mD fn a.tmps ps as b K.w.heap.size st pe):=⟨_,rfl⟩;have hpl:∀st pe,kG (rcd st pe)=true:=fun st pe=>by rw[aDk];rfl
  obtain⟨K1,hK1⟩:∃K1,K1=(K.more (.deferred (some []))).push s.nx (rcd .ready none) 0:=⟨_,rfl⟩;have aBD:K.le K1:=by rw[hK1];exact(K.aEe _).trans ((K.more _).aBA s.nx aAP _ _)
  have aDH:K1.mu s.nx=K.w.heap.size+1:=by rw[hK1];simp[Ker.push,Ker.more]
  have aDo:∀n,K1.live n↔n=s.nx∨K.live n:=fun n=>by rw[hK1];exact Iff.rfl
  have aIA:Rel K1 (s.h.set s.nx (.obj (rcd .ready none) fun K'=>K1.leV K')):=by
   have:=(hr.rel.more (.deferred (some []))).set_push (a:=s.nx) aAP (rcd .ready none) 0 (b:= .obj (rcd .ready none) fun K'=>K1.leV K') (by
    rw[←hK1];refine .obj _ _ ?_ (hpl _ _) (.refl K1) (fun A B hAB hA=>hA.trans hAB);rw[aDH,hK1];have:=dP (K.w.alloc (.deferred (some []))) (rcd .ready none);rw[wE] at this;exact this)
   rwa [←hK1] at this
  refine⟨rcd,K1,aDk,hK1,aBD,aIA,h rcd _ hpl ?_⟩
  --a call of yield
  intro args hh nx R hlen aCl hw m Kr aAK hlv hn aAV hv;obtain⟨q1,q2,q3,q4⟩:=(aAV.blk s.nx _ aCl).aEa;have aWc:K1.live s.nx:=(aDo _).2 (.inl rfl);have aOZ:Kr.mu s.nx=K.w.heap.size+1:=(q3.mu _ aWc).trans aDH;have hsz:aAK.size=ps.size:=by rw[←hv.1,hlen];simp
  rw[aOZ] at q1⊢;have aBa:gG Kr (aAr s.sl ps.toList args) {tmps:=(ps.zip aAK).foldl (fun t (p,v)=>t.setIfInBounds p v) a.tmps,defers:=[]}:=by
   have:=gG.aAr (K:=Kr) (ds:=[]) ps.toList args aAK.toList s.sl a.tmps (gG.aA4 q3 (gG.mono aBD hr.aAF)) (by rw[hv.1];simp) (fun i hi=>by
    have:=hv.2 i hi;simpa [Kh,Ke] using this)
   have e:(ps.zip aAK).foldl (fun t (p,v)=>t.setIfInBounds p v) a.tmps=(ps.toList.zip aAK.toList).foldl (fun t p=>t.setIfInBounds p.1 p.2) a.tmps:=by
    rw[←Array.foldl_toList,Array.toList_zip]
   rw[e];exact this
  refine sv (fn:=fn) (tmps:=a.tmps) (ps:=ps) (assign:=as) (body:=b) (D:=K.w.heap.size) trivial (by rw[q1,aDk]) hsz ?_;have hrs:mN Kr Kr nx ⟨aAr s.sl ps.toList args,hh,nx⟩ {tmps:=(ps.zip aAK).foldl (fun t (p,v)=>t.setIfInBounds p v) a.tmps,defers:=[]}:=
   ⟨.refl _,aBa,aAV,fun n hn=>⟨hlv n hn, .inl hn⟩,Kw _,sX.nil _ _⟩
  refine wpIn_mono (show as.wpIn (Fence.wide.inRound (K.w.heap.size+1)) m P (AU Kr nx _) _ Kr.w from ha (K.w.heap.size+1) m _ _ hw Kr Kr nx _ hrs) ?_;rintro e a1 W1 ⟨K',s1,le,rfl,hr1,rfl,hq⟩;cases le with
  |exit id=>exact hq.elim
  |ret=>exact hq.elim
  |normal=>
   obtain⟨ho,hq⟩:=hq;have aNw:K'.mu s.nx=K.w.heap.size+1:=(hr1.le.mu _ hn).trans aOZ;obtain⟨p1,p2,p3,p4⟩:=(hr1.rel.blk s.nx _ ho).aEa;rw[aNw] at p1;obtain⟨aA1,aJg⟩:=hr1.rel.setObj ho (hpl .busy none);rw[aNw] at aA1 aJg;refine⟨by rw[p1,aDk],?_⟩;have aOo:(.loop (mD fn a.tmps ps as b K.w.heap.size .busy none):Obj)=rcd .busy none:=by rw[aDk]
   rw[aOo];refine wpIn_mono (show b.wpIn (Fence.wide.inRound (K.w.heap.size+1)) m P (AU Kr nx _) a1 (K'.obj (K.w.heap.size+1) (rcd .busy none)).w from hb (K.w.heap.size+1) m _ _ hq Kr _ nx a1 ⟨hr1.le.trans aA1,hr1.aAF.mono aA1,aJg,hr1.live,hr1.nx,hr1.defers.kept aA1.below⟩) ?_;rintro e a2 W2 ⟨K3,s3,le3,rfl,hr3,rfl,hq3⟩;have aWT:K3.mu s.nx=K.w.heap.size+1:=(hr3.le.mu _ hn).trans aOZ;have fin:∀(o:Obj) (bb:Bool),kG o=true→s3.h s.nx=some (.obj (rcd .busy none) fun K'=>K1.leV K')→R (.bool bb) (s3.h.set s.nx (.obj o fun K'=>K1.leV K')) s3.nx→
    K3.w.heap[K.w.heap.size+1]?=some (rcd .busy none)∧∃K' v cv h' nx',K'.w=K3.w.putObj (K.w.heap.size+1) o∧Ending.returned (.bool bb)= .returned cv∧Kr.le K'∧VR K' v cv∧Rel K' h'∧(∀i,K'.live i→i<nx'∧(Kr.live i∨nx≤i))∧nx≤nx'∧R v h' nx':=by
    intro o bb hpo hbz hR;obtain⟨u1,u2,u3,u4⟩:=(hr3.rel.blk s.nx _ hbz).aEa;obtain⟨aGE,aEj⟩:=hr3.rel.setObj hbz hpo;rw[aWT] at u1 aGE aEj;exact⟨u1,K3.obj (K.w.heap.size+1) o, .bool bb, .bool bb,_,s3.nx,rfl,rfl,hr3.le.trans aGE, .bool bb,aEj,hr3.live,hr3.nx,hR⟩
   cases le3 with
   |normal=>
    have:=fin (rcd .ready none) true (hpl _ _) hq3.1 hq3.2;simp only[aDk] at this⊢;exact this
   |ret=>
    have:=fin (rcd .done (some .ret)) false (hpl _ _) hq3.1 hq3.2;simp only[aDk] at this⊢;exact this
   |exit id=>
    have:=fin (rcd .done (some (.exit id))) false (hpl _ _) hq3.1 hq3.2;simp only[aDk] at this⊢;exact this
 obtain⟨_,_,_,_,_,_,hen,_⟩:=key 0;refine j1 (F:=FR none) rfl (by intro h;cases h) hcg trivial (fun args w=>mJ hen args w) ?_;intro fn _;obtain⟨rcd,K1,aDk,hK1,aBD,aIA,aEy⟩:=key fn;have aDH:K1.mu s.nx=K.w.heap.size+1:=by rw[hK1];simp[Ker.push,Ker.more]
 have aDo:∀n,K1.live n→n=s.nx∨K.live n:=fun n=>by rw[hK1];exact fun h=>h
 have hpl:∀st pe,kG (rcd st pe)=true:=fun st pe=>by rw[aDk];rfl
 have hW1:(K.w.alloc (.deferred (some []))).alloc (.loop (mD fn a.tmps ps as b K.w.heap.size .ready none))=K1.w:=by rw[hK1,aDk];rfl
 rw[hW1];have hyl:VRs K1 (.yld s.nx::aAY) (#[.func (.yield (K.w.heap.size+1)) #[] #[]]++cc):=by
  refine VRs.append (a:=[.yld s.nx]) (b:=aAY) ⟨rfl,fun i hi=>?_⟩ ⟨hl2,fun i hi=>(hv2 i hi).mono aBD⟩;have:i=0:=by simpa using hi
  subst this;have:=VR.yld (K:=K1) s.nx (by rw[hK1];exact .inl rfl);rw[aDH] at this;simpa using this
 refine jr ((aEy.2 K1 _ (fun n hn=>?_) aIA hyl).mono ?_)
 ·rcases aDo n hn with rfl|h
  ·omega
  have:=(hr.live n h).1;omega
 rintro e W2 ⟨K',v,cv,h',nx',rfl,rfl,aGU,hvr,aA6,aEn,aZF,hq⟩;have hn1:K1.live s.nx:=by rw[hK1];exact .inl rfl
 have aNw:K'.mu s.nx=K.w.heap.size+1:=(aGU.mu _ hn1).trans aDH;have aJn:iH K1.w K.w.heap.size:=by
  rw[←hW1];show((K.w.alloc _).alloc _).heap[K.w.heap.size]?=_;rw[fQ _ _ _ (by rw[wE];omega)];exact dP _ _
 have fin:∀(o o':Obj) (le:cM),h' s.nx=some (.obj o fun K'=>K1.leV K')→kG o'=true→Q le ⟨s.sl,h'.del s.nx,nx'⟩→
  K'.w.heap[K.w.heap.size+1]?=some o∧AU K0 nx0 Q le.up {a with defers:={target:= .collected K.w.heap.size,args:=#[]}::a.defers} (K'.w.putObj (K.w.heap.size+1) o'):=by
  intro o o' le ho hpo hQ;obtain⟨u1,_⟩:=(aA6.blk s.nx _ ho).aEa;obtain⟨aGE,aEj⟩:=aA6.setObj ho hpo;rw[aNw] at u1 aGE aEj;refine⟨u1,K'.obj (K.w.heap.size+1) o',⟨s.sl,h'.del s.nx,nx'⟩,le,rfl,⟨hr.le.trans (aBD.trans (aGU.trans aGE)),hr.aAF.mono (aBD.trans (aGU.trans aGE)),aEj.weaken (AG _ _ _),?_,?_,?_⟩,rfl,hQ⟩
  ·intro n hn;obtain⟨w1,w2⟩:=aEn n hn;refine⟨w1,?_⟩;rcases w2 with w2|w2
   ·rcases aDo n w2 with rfl|w3
    ·exact .inr hr.nx
    exact(hr.live n w3).2
   exact .inr (by have:=hr.nx;omega)
  ·have:=hr.nx;show nx0≤nx';omega
  obtain⟨Ds,d1,d2,d3⟩:=hr.defers;refine⟨K.w.heap.size::Ds,KQ.2 ⟨fun hm=>KT _ (d3 _ hm).2.lt,d1⟩,by simp[d2],?_⟩;intro D hD;rcases Qf.1 hD with rfl|hD
  ·exact⟨hr.le.below.size,aJn.kept (aGU.trans aGE).below⟩
  exact⟨(d3 D hD).1,(d3 D hD).2.kept (aBD.trans (aGU.trans aGE)).below⟩
 refine⟨⟨cv,rfl⟩,?_⟩;rcases hq with⟨ho,hQ⟩|⟨ho,hQ⟩|⟨id,ho,hQ⟩
 ·have:=fin _ (rcd .exhausted none) .normal ho (hpl _ _) hQ;simp only[aDk] at this;exact .inl this
 ·have:=fin _ (rcd .exhausted (some .ret)) .ret ho (hpl _ _) hQ;simp only[aDk] at this;exact .inr ⟨.ret,this.1,wpIn_ret this.2⟩
 have:=fin _ (rcd .exhausted (some (.exit id))) (.exit id) ho (hpl _ _) hQ;simp only[aDk] at this;exact .inr ⟨.exit id,this.1,wpIn_exit this.2⟩
theorem BX{P:Program}:∀(c:Code) (L:aZ),cI P c=some L→∀(rd:Option Nat) (mm:Nat) (Q:cM→St→Prop) (s:St),lwp P L Q s→∀(K0 K:Ker) (nx0:Nat) (a:Act),mN K0 K nx0 s a→(rd=none∨gK c=true)→c.wpIn (FR rd) mm P (AU K0 nx0 Q) a K.w:=by
 intro c;induction c with
 |skip=>
  intro L hl rd mm Q s h K0 K nx0 a hr hsc;simp only[cI,Option.some.injEq] at hl;subst hl;exact wpIn_skip ⟨K,s, .normal,rfl,hr,rfl,h⟩
 |label l=>
  intro L hl rd mm Q s h K0 K nx0 a hr hsc;simp only[cI,Option.some.injEq] at hl;subst hl;exact wpIn_label ⟨K,s, .normal,rfl,hr,rfl,h⟩
 |region id ops draw=>
  intro L hl rd mm Q s h K0 K nx0 a hr hsc;cases draw with
  |false=>
   simp only[cI] at hl;obtain⟨ls,hls,rfl⟩:=Ks.1 hl;refine wpIn_region ?_;refine gz (Qs:=Q .normal) (fun K s a hr hq=>⟨K,s, .normal,rfl,hr,rfl,hq⟩) ops.toList ls (Kp ops.size) hls ?_ K s a hr h;apply KZ
   ·simp
   intro i h1 h2;simp at h1 h2⊢
  |true=>
   simp only[cI] at hl;split at hl
   ·rename_i hm;obtain⟨m,l,tl,w,n,rfl,hB,hI,h1,h2⟩:=lu hl;rcases h with⟨hs,hd⟩|h
    ·simp only[Kg,decide_eq_true_eq] at hs;obtain⟨hB,rfl⟩:=hB hs.2
     replace hs:=hs.1
     exact AD (Qs:=Q .normal) hm hB h1 h2 hr (fun K s a hr hq=>⟨K,s, .normal,rfl,hr,rfl,hq⟩) hs hd
    exact xr (Qs:=Q .normal) hm hI h1 h2 hr (fun K s a hr hq=>⟨K,s, .normal,rfl,hr,rfl,hq⟩) h
   cases hl
 |seq x y ihx ihy=>
  intro L hl rd mm Q s h K0 K nx0 a hr hsc;simp only[cI] at hl;split at hl
  ·rename_i lx ly h1 h2;injection hl with hl;subst hl;refine wpIn_seq (wpIn_mono (ihx lx h1 rd mm _ s h K0 K nx0 a hr (hsc.imp (fun h=>h) fun h=>by simp only[gK,Kg] at h;exact h.1)) ?_);rintro e a' w' ⟨K',s',le,rfl,hr',rfl,hq⟩;cases le with
   |normal=>
    obtain⟨s'',hw,hq⟩:=hq;obtain⟨K2,e2,hr2⟩:=hw _ _ _ _ hr';rw[←e2];exact ihy ly h2 rd mm Q s'' hq K0 K2 nx0 a' hr2 (hsc.imp (fun h=>h) fun h=>by simp only[gK,Kg] at h;exact h.2)
   |exit id=>exact⟨K',s', .exit id,rfl,hr',rfl,hq⟩
   |ret=>exact⟨K',s', .ret,rfl,hr',rfl,hq⟩
  cases hl
 |cond c x y ihx ihy=>
  intro L hl rd mm Q s h K0 K nx0 a hr hsc;simp only[cI] at hl;split at hl
  ·rename_i lc lx ly h0 h1 h2;injection hl with hl;subst hl;have vc:=aK h0 hr.aAF.2;simp only[lwp] at h;split at h
   ·rename_i t ht;rw[ht] at vc;generalize hcv:a.eval c=cv at vc;cases vc;refine wpIn_cond hcv ?_;cases t with
    |true=>exact ihx lx h1 rd mm Q s (by simpa using h) K0 K nx0 a hr (hsc.imp (fun h=>h) fun h=>by simp only[gK,Kg] at h;exact h.1)
    |false=>exact ihy ly h2 rd mm Q s (by simpa using h) K0 K nx0 a hr (hsc.imp (fun h=>h) fun h=>by simp only[gK,Kg] at h;exact h.2)
   exact h.elim
  cases hl
 |block id c ih=>
  intro L hl rd mm Q s h K0 K nx0 a hr hsc;simp only[cI] at hl;obtain⟨lc,h1,rfl⟩:=Ks.1 hl;refine wpIn_block (wpIn_mono (ih lc h1 rd mm _ s h K0 K nx0 a hr (hsc.imp (fun h=>h) fun h=>h)) ?_);rintro e a' w' ⟨K',s',le,rfl,hr',rfl,hq⟩;cases le with
  |normal=>exact⟨K',s', .normal,rfl,hr',rfl,hq⟩
  |exit id'=>
   show if id'=id then _ else _
   split
   ·rename_i e;simp only[fP,e,if_true] at hq;exact⟨K',s', .normal,rfl,hr',rfl,hq⟩
   rename_i e;simp only[fP,e,if_false] at hq;exact⟨K',s', .exit id',rfl,hr',rfl,hq⟩
  |ret=>exact⟨K',s', .ret,rfl,hr',rfl,hq⟩
 |loop c ih=>
  intro L hl rd mm Q s h K0 K nx0 a hr hsc;simp only[cI] at hl;obtain⟨lc,h1,rfl⟩:=Ks.1 hl;obtain⟨I,m,⟨s0,hw0,hI⟩,aCk⟩:=h;obtain⟨Kl,el,hrl⟩:=hw0 _ _ _ _ hr;refine wpIn_loop_ghost (fun n a w=>∃K s,K.w=w∧mN K0 K nx0 s a∧I s∧m s=n) (m s0) ⟨Kl,s0,el,hrl,hI,rfl⟩ ?_;rintro n a' w' ⟨K',s',rfl,hr',hI',rfl⟩;refine wpIn_mono (ih lc h1 rd mm _ s' (aCk s' hI') K0 K' nx0 a' hr' (hsc.imp (fun h=>h) fun h=>h)) ?_;rintro e a'' w'' ⟨K'',s'',le,rfl,aOR,rfl,hq⟩;cases le with
  |normal=>
   obtain⟨s3,hw,hq⟩:=hq;obtain⟨K3,e3,hr3⟩:=hw _ _ _ _ aOR;exact⟨m s3,hq.2,K3,s3,e3,hr3,hq.1,rfl⟩
  |exit id=>exact⟨K'',s'', .exit id,rfl,aOR,rfl,hq⟩
  |ret=>exact⟨K'',s'', .ret,rfl,aOR,rfl,hq⟩
 |scope c ih=>
  intro L hl rd mm Q s h K0 K nx0 a hr hsc;simp only[cI] at hl;have hsc:rd=none:=hsc.resolve_right (by simp[gK]);subst hsc;refine wpIn_wide.2 (wp_scope_straight (wp_mono ((wpIn_wide (n:=mm)).1 (ih L hl none mm Q s h K0 K nx0 a hr (.inl rfl))) ?_));rintro e a' w' ⟨K',s',le,rfl,hr',rfl,hq⟩;cases le with
  |normal=>exact⟨K',s', .normal,rfl,hr',rfl,hq⟩
  |exit id=>exact⟨K',s', .exit id,rfl,hr',rfl,hq⟩
  |ret=>exact⟨K',s', .ret,rfl,hr',rfl,hq⟩
 |exit id=>
  intro L hl rd mm Q s h K0 K nx0 a hr hsc;simp only[cI,Option.some.injEq] at hl;subst hl;exact wpIn_exit ⟨K,s, .exit id,rfl,hr,rfl,h⟩
 |ret=>
  intro L hl rd mm Q s h K0 K nx0 a hr hsc;simp only[cI,Option.some.injEq] at hl;subst hl;exact wpIn_ret ⟨K,s, .ret,rfl,hr,rfl,h⟩
 |rangeFunc g ps as b iha ihb=>
  intro L hl rd mm Q s h K0 K nx0 a hr hsc;have hsc:rd=none:=hsc.resolve_right (by simp[gK]);subst hsc;simp only[cI] at hl;split at hl
  ·rename_i hns;split at hl
   ·rename_i lg la lb h0 h1 h2;injection hl with hl;subst hl;exact uu h0 (fun l m Q s h K0 K nx0 act hr=>iha la h1 (some l) m Q s h K0 K nx0 act hr (.inr hns.1)) (fun l m Q s h K0 K nx0 act hr=>ihb lb h2 (some l) m Q s h K0 K nx0 act hr (.inr hns.2)) hr h
   cases hl
  cases hl
 |goto l=>intro L hl;simp[cI] at hl
 |refuse w=>intro L hl;simp[cI] at hl
inductive pX where
 |slot (t:Nat)
 |cell (t:Nat) (k:Sh)
 deriving Inhabited
def pX.sem(s:St)(R:V→Prop):pX→Prop
 | .slot t=>R (s.sl.getD t Ka)
 | .cell t k=>(bR.load k (.slot t)).sem s.sl s.h R
def qE(s:St):List pX→List V→(List V→Prop)→Prop
 | [],acc,R=>R acc
 |r::rs,acc,R=>r.sem s fun v=>qE s rs (acc++[v]) R
def mV(vs:List V):V:=
 match vs with
 | [v]=>v
 |vs=> .tup vs
structure LFn where
 body:aZ
 nt:Nat
 res:List pX
 deriving Inhabited
def lY(P:Program):List ResultVar→Option (List pX)
 | []=>some []
 | .tmp t::r=>(lY P r).map (.slot t:: ·)
 | .cell a t::r=>(dN P t).bind fun k=>(lY P r).map (.cell a k:: ·)
def aH(P:Program)(f:FuncId):Option LFn:=
 match P.funcs[f]? with
 |some fn=>if fn.name== "runtime.NumGoroutine" then none else match fn.body with
  |some c=>(cI P c).bind fun b=>(lY P fn.results.toList).map fun r=>⟨b,fn.ntmps,r⟩
  |none=>none
 |none=>none
def FN(L:LFn)(R:V→Hp→Nat→Prop):cM→St→Prop
 | .exit _,_=>False
 |_,s=>qE s L.res [] fun vs=>∃h',h'.le s.h∧R (mV vs) h' s.nx
theorem uV{P:Program}{K:Ker}{s:St}{a:Act}(hs:gG K s.sl a)(hr:Rel K s.h){R:List V→Prop}:∀(rs:List ResultVar) (ls:List pX),lY P rs=some ls→∀(acc:List V) (aI7:List Value),acc.length=aI7.length→(∀i,i<acc.length→VR K (acc.getD i Ka) (aI7.getD i KC))→
 qE s ls acc R→∃vs cvs,(rs.mapM (fun| .tmp t=>pure (a.tmps.getD t KC)| .cell b t=>do loadVar t (←asAddr (a.tmps.getD b KC)):ResultVar→Sem Value)).run P K.w= .ok cvs K.w∧(aI7++cvs).length=vs.length∧(∀i,i<vs.length→VR K (vs.getD i Ka) ((aI7++cvs).getD i KC))∧R vs
 | [],ls,hl,acc,aI7,h1,h2,h=>by
  simp[lY] at hl;subst hl;exact⟨acc,[],Zm,by simp[h1],by simpa using h2,h⟩
 |r::rs,ls,hl,acc,aI7,h1,h2,h=>by
  have one:∃lr lrs v cv,ls=lr::lrs∧lY P rs=some lrs∧qE s lrs (acc++[v]) R∧VR K v cv∧(match r with| .tmp t=>pure (a.tmps.getD t KC)| .cell b t=>do loadVar t (←asAddr (a.tmps.getD b KC)):Sem Value).run P K.w= .ok cv K.w:=by
   cases r with
   |tmp t=>
    simp only[lY] at hl;obtain⟨lrs,h3,rfl⟩:=Ks.1 hl;exact⟨_,lrs,_,_,rfl,h3,h,hs.2 t,rfl⟩
   |cell b t=>
    simp only[lY] at hl;obtain⟨k,hk,hl⟩:=KE.1 hl;obtain⟨lrs,h3,rfl⟩:=Ks.1 hl;simp only[qE,pX.sem] at h;obtain⟨cv,v,q1,q2,q3⟩:=E4 (P:=P) hk hr (hs.2 b) (.slot b) rfl h;refine⟨_,lrs,v,cv,rfl,h3,q3,q2,?_⟩;simp only[Instr.loadAt,KJ] at q1;show(do loadVar t (←asAddr (a.tmps.getD b KC)):Sem Value).run P K.w=_;generalize a.tmps.getD b KC=x at q1⊢;cases x<;>simp[KM] at q1;rename_i ad;cases ad with
    |none=>simp[KM] at q1
    |some ad=>simpa [asAddr,KM] using q1
  obtain⟨lr,lrs,v,cv,rfl,h3,h4,h5,h6⟩:=one;obtain⟨vs,cvs,g1,g2,g3,g4⟩:=uV hs hr rs lrs h3 (acc++[v]) (aI7++[cv]) (by simp[h1]) (fun i hi=>by
   simp only[List.length_append,KW,List.length_nil] at hi;by_cases e:i<acc.length
   ·have:=h2 i e;simp only[Ke] at this⊢;rw[KB e,KB or];exact this
   have e2:i=acc.length:=or;subst e2;simp only[Ke];rw[Kz (Kw _),Kz or];simp[h1];exact h5) h4
  refine⟨vs,cv::cvs,?_,by simpa using g2,by simpa using g3,g4⟩;rw[List.mapM_cons,KJ];cases r<;>(simp only at h6⊢;rw[h6];simp only[Result.andThen_ok,KJ,g1,Sem.run_pure])
theorem ma{P:Program}{f:FuncId}{L:LFn}(hL:aH P f=some L){args:List V}{h:Hp}{nx:Nat}{R:V→Hp→Nat→Prop}
 (hw:(∀m b,h m=some b→m<nx)→lwp P L.body (FN L R) ⟨args++Kv (L.nt-args.length) Ka,h,nx⟩):bD P f args h nx R:=by
 unfold aH at hL;split at hL
 ·rename_i fn hf;split at hL
  ·cases hL
  rename_i hnm;split at hL
  ·rename_i c hb;obtain⟨b,hlc,hL⟩:=KE.1 hL;obtain⟨r,hlr,rfl⟩:=Ks.1 hL;refine⟨by simp only[fG,hf,hb];simpa using hnm,?_⟩;intro K aAK hlv aAV hv;refine callsIn_wide.1 (callsIn_of_wp_marks (n:=4) hf hb trivial ?_);have hst:mN K K nx ⟨args++Kv (fn.ntmps-args.length) Ka,h,nx⟩ {tmps:=aAK++Ky (fn.ntmps-aAK.size) KC,defers:=[]}:=by
    refine⟨.refl K,?_,aAV,fun n hn=>⟨hlv n hn, .inl hn⟩,Kw _,sX.nil _ _⟩;refine⟨by simp[hv.1],fun t=>?_⟩;simp only[Ke,Kh];by_cases e:t<args.length
    ·have:=hv.2 t e;simp only[Ke,Kh] at this;rw[KB e,Array.getElem?_append_left (by have:=hv.1;omega)];exact this
    rw[Kz or,Array.getElem?_append_right (by have:=hv.1;omega)];rw[List.getElem?_replicate,Array.getElem?_replicate,hv.1];split
    ·exact .undef K
    exact .undef K
   refine wpIn_mono (BX c b hlc none 4 _ _ (hw fun m b hm=>hlv m (aAV.lt m b hm)) K K nx _ hst (.inl rfl)) ?_;rintro e a' w' ⟨K1',s',le,rfl,aJH,rfl,hq⟩;obtain⟨Ds,hd1,hd2,hd3⟩:=aJH.defers;obtain⟨K',hKw,hV,aWs,aOs,aJ1⟩:=fi (K:=K) Ds _ K1' rfl (fun D hD=>(hd3 D hD).2) hd1 aJH.le (fun D hD=>(hd3 D hD).1) (fun b hb=>aAV.size b hb) aJH.rel;have hr':∃dummy:True,K.le K'∧gG K' s'.sl a'∧Rel K' s'.h∧(∀n,K'.live n→n<s'.nx∧(K.live n∨nx≤n))∧nx≤s'.nx:=⟨trivial,aWs,aJH.aAF.aA4 hV,aOs,fun n hn=>aJH.live n (by rw[←aJ1];exact hn),aJH.nx⟩;obtain⟨_,aOQ,aGQ,aHC,aIB,aOP⟩:=hr';have key:(qE s' r [] fun vs=>∃h',h'.le s'.h∧R (mV vs) h' s'.nx)→∃v,(results fn a'.tmps).run P K'.w= .ok v K'.w∧∃K'' v' cv h' nx',K''.w=K'.w∧Ending.returned v= .returned cv∧K.le K''∧VR K'' v' cv∧Rel K'' h'∧(∀n,K''.live n→n<nx'∧(K.live n∨nx≤n))∧nx≤nx'∧R v' h' nx':=by
    intro hq;obtain⟨vs,cvs,g1,g2,g3,g4⟩:=uV (P:=P) aGQ aHC fn.results.toList r hlr [] [] rfl (fun i hi=>absurd hi Zm) hq;simp only[Qb] at g2 g3;have aA7:(results fn a'.tmps).run P K'.w= .ok (if h:cvs.toArray.size=1 then cvs.toArray[0] else .tuple cvs.toArray) K'.w:=by
     unfold results;simp only[KJ,Array.mapM_eq_mapM_toList,Sem.run_map];refine Eq.trans (congrArg (fun r:Result (List Value)=>(r.andThen fun a w'=>Result.ok a.toArray w').andThen fun a w'=>Sem.run P (pure (if h:a.size=1 then a[0] else Value.tuple a)) w') g1) ?_;rfl
    obtain⟨h',aGU,g4⟩:=g4;refine⟨_,aA7,K',mV vs,_,h',s'.nx,rfl,rfl,aOQ,?_,aHC.weaken aGU,aIB,aOP,g4⟩;have many:vs.length≠1→VR K' (mV vs) (if h:cvs.toArray.size=1 then cvs.toArray[0] else .tuple cvs.toArray):=by
     intro hne;rw[dif_neg (by simpa [g2] using hne)];have:mV vs= .tup vs:=by
      cases vs with
      |nil=>rfl
      |cons x t=>cases t with
       |nil=>simp at hne
       |cons _ _=>rfl
     rw[this];refine .tup vs cvs.toArray (by simp[g2]) fun i hi=>?_;have:=g3 i hi;simpa [Kh,Ke] using this
    by_cases h1:vs.length=1
    ·obtain⟨v,rfl⟩:∃v,vs=[v]:=by
      cases vs with
      |nil=>simp at h1
      |cons x t=>cases t with
       |nil=>exact⟨x,rfl⟩
       |cons _ _=>simp at h1
     obtain⟨cv,rfl⟩:∃v,cvs=[v]:=by
      cases cvs with
      |nil=>simp at g2
      |cons x t=>cases t with
       |nil=>exact⟨x,rfl⟩
       |cons _ _=>simp at g2
     have:=g3 0 Zm;simpa [mV] using this
    exact many h1
   cases le with
   |exit id=>exact hq.elim
   |normal=>
    show LeavesInM Fence.wide 4 P fn a'.tmps _ a'.defers .returning K1'.w;rw[hd2];exact qP Ds _ hd1 (fun D hD=>(hd3 D hD).2) (by rw[←hKw];exact key hq)
   |ret=>
    show LeavesInM Fence.wide 4 P fn a'.tmps _ a'.defers .returning K1'.w;rw[hd2];exact qP Ds _ hd1 (fun D hD=>(hd3 D hD).2) (by rw[←hKw];exact key hq)
  cases hL
 cases hL
def bR.out(sl:List V)(h:Hp):bR→V
 | .move x=>x.ev sl
 | .pick c a b=>match c.ev sl with
  | .bool t=>Kj t (a.ev sl) (b.ev sl)
  |_=> .undef
 | .load t x=>match x.ev sl with
  | .ptr n _ i o=>match h n with
   |some (.arr _ es)=>cK t o (es.getD i Ka)
   |_=> .undef
  | .ept _ es i o=>cK t o (es.getD i Ka)
  |_=> .undef
 | .nilCheck x=>x.ev sl
 | .bin op x y=>match x.ev sl,y.ev sl with
  | .int k a, .int _ b=>match op with
   | .add=> .int k (k.wrap (a+b))
   | .sub=> .int k (k.wrap (a-b))
   | .mul=> .int k (k.wrap (a*b))
   | .quo=> .int k (k.wrap (a.tdiv b))
   | .rem=> .int k (a.tmod b)
   | .eql=> .bool (a==b)
   | .neq=> .bool (a != b)
   | .lss=> .bool (decide (a<b))
   | .leq=> .bool (decide (a≤b))
   | .gtr=> .bool (decide (b<a))
   | .geq=> .bool (decide (b≤a))
   |_=> .undef
  | .str s, .str t=>match op with
   | .add=> .str (s++t)
   | .eql=> .bool (s.toList==t.toList)
   | .neq=> .bool (!(s.toList==t.toList))
   | .lss=> .bool (Op.bytesLess s.toList t.toList)
   | .leq=> .bool (Op.bytesLess s.toList t.toList||s.toList==t.toList)
   | .gtr=> .bool (!(Op.bytesLess s.toList t.toList||s.toList==t.toList))
   | .geq=> .bool (!Op.bytesLess s.toList t.toList)
   |_=> .undef
  |_,_=> .undef
 | .eq ng ty x y=> .bool (if ng then !((veq ty (x.ev sl) (y.ev sl)).getD false) else (veq ty (x.ev sl) (y.ev sl)).getD false)
 | .not x=>match x.ev sl with
  | .bool b=> .bool (!b)
  |_=> .undef
 | .neg x=>match x.ev sl with
  | .int k n=> .int k (k.wrap (0-n))
  |_=> .undef
 | .conv k x=>match x.ev sl with
  | .int _ n=> .int k (k.wrap n)
  |_=> .undef
 | .aBS t x=> .iface t (x.ev sl)
 | .aCc f first cap=> .fn f (first.map (aP.ev sl)) (cap.map (aP.ev sl))
 | .aHk off x=>match x.ev sl with
  | .ptr n k i o=> .ptr n k i (o+off)
  | .ept k es i o=> .ept k es i (o+off)
  |_=> .undef
 | .fld t off x=>match x.ev sl with
  | .agg cs=>cK t off (.agg cs)
  |_=> .undef
 | .aBq k x i=>match x.ev sl,i.ev sl with
  | .sl _ _ es, .int _ j=> .ept k es j.toNat 0
  | .rs n _ off _, .int _ j=> .ptr n k (off+j.toNat) 0
  |_,_=> .undef
 | .aH0 _ k x i=>match x.ev sl,i.ev sl with
  | .ptr n k' i' o, .int _ j=> .ptr n k' i' (o+j.toNat*k.size)
  |_,_=> .undef
 | .len x=>match x.ev sl with
  | .sl _ _ es=> .int .i64 es.length
  | .rs _ _ _ ln=> .int .i64 ln
  |_=> .undef
 | .aHq x=>match x.ev sl with
  | .str s=> .int .i64 s.size
  |_=> .undef
 | .ext x i=>match x.ev sl with
  | .tup vs=>vs.getD i Ka
  |_=> .undef
 | .build z parts=> .agg (iz z (parts.map fun p=>(p.1,(p.2.2.ev sl).cells)))
 | .slc k x lo hi mx=>match x.ev sl with
  | .sl _ own es=> .sl k (aGH own es (fI sl hi) (fI sl mx)) ((es.take ((eM sl es.length hi).getD 0).toNat).drop ((eM sl 0 lo).getD 0).toNat)
  | .rs n _ off ln=>if mx.isSome=true then .sl k .full [] else if ((eM sl 0 lo).getD 0).toNat=ln∧((eM sl 0 lo).getD 0).toNat≠0 then .sl k .free [] else .rs n k (off+((eM sl 0 lo).getD 0).toNat) (((eM sl ln hi).getD 0).toNat-((eM sl 0 lo).getD 0).toNat)
  |_=> .undef
 | .aGJ x lo hi=>match x.ev sl with
  | .str s=> .str (s.extract ((eM sl 0 lo).getD 0).toNat ((eM sl s.size hi).getD 0).toNat)
  |_=> .undef
 | .never=> .undef
 | .aI6 x=>match x.ev sl with
  | .sl _ .nil _=> .int .i64 0
  | .sl _ .full es=> .int .i64 es.length
  |_=> .undef
 | .mnx mx x y=>match x.ev sl,y.ev sl with
  | .int k a, .int _ b=> .int k (FQ mx a b)
  |_,_=> .undef
 | .aHr x i=>match x.ev sl,i.ev sl with
  | .str s, .int _ j=> .int .u8 (s.data.toList.getD j.toNat 0).toNat
  |_,_=> .undef
 | .aHl t z x=>match x.ev sl with
  | .iface t' v=> .tup [if t'=t then v else z, .bool (decide (t'=t))]
  | .nilIface=> .tup [z, .bool false]
  |_=> .undef
 | .aI8 _ x=>match x.ev sl with
  | .iface _ v=>v
  |_=> .undef
 | .aBp kS ks z ok x i=>match x.ev sl with
  | .map n=>match h n with
   |some (.mp es _)=>rK ok z es ((fA (.plain kS ks) (i.ev sl) es).getD none)
   |_=> .undef
  |_=>rK ok z [] none
 | .aEd x=>match x.ev sl with
  | .map n=>match h n with
   |some (.mp es _)=> .int .i64 es.length
   |_=> .undef
  |_=> .int .i64 0
def qh(op:BinOp)(x y:V):Prop:=
 match x,y with
 | .int k _, .int k' b=>k=k'∧(match op with
  | .add| .sub| .mul| .eql| .neq| .lss| .leq| .gtr| .geq=>True
  | .quo| .rem=>b≠0
  |_=>False)
 | .str s, .str t=>match op with
  | .add=>((s.size+t.size:Nat):Int)≤9223372036854775807
  | .eql| .neq| .lss| .leq| .gtr| .geq=>True
  |_=>False
 |_,_=>False
def bR.ok(sl:List V)(h:Hp):bR→Prop
 | .move _=>True
 | .pick c _ _=>match c.ev sl with
  | .bool _=>True
  |_=>False
 | .load t x=>match x.ev sl with
  | .ptr n k i o=>match h n with
   |some (.arr k' es)=>k'=k∧i<es.length∧dA k t o
   |_=>False
  | .ept k es i o=>i<es.length∧dA k t o
  |_=>False
 | .nilCheck x=>match x.ev sl with
  | .ptr _ _ _ _=>True
  | .ept _ _ _ _=>True
  |_=>False
 | .bin op x y=>qh op (x.ev sl) (y.ev sl)
 | .eq _ ty x y=>(veq ty (x.ev sl) (y.ev sl)).isSome=true
 | .not x=>match x.ev sl with
  | .bool _=>True
  |_=>False
 | .neg x=>match x.ev sl with
  | .int _ _=>True
  |_=>False
 | .conv _ x=>match x.ev sl with
  | .int _ _=>True
  |_=>False
 | .aBS _ _=>True
 | .aCc _ _ _=>True
 | .aHk _ x=>match x.ev sl with
  | .ptr _ _ _ _=>True
  | .ept _ _ _ _=>True
  |_=>False
 | .fld t off x=>match x.ev sl with
  | .agg cs=>dA (.agg cs.length) t off∧cs.all V.aAD=true
  |_=>False
 | .aBq k x i=>match x.ev sl,i.ev sl with
  | .sl k' _ es, .int _ j=>k'=k∧0≤j∧j<es.length
  | .rs _ k' _ ln, .int _ j=>k'=k∧0≤j∧j<ln
  |_,_=>False
 | .aH0 ln _ x i=>match x.ev sl,i.ev sl with
  | .ptr _ _ _ _, .int _ j=>0≤j∧j<ln
  |_,_=>False
 | .len x=>match x.ev sl with
  | .sl _ _ _=>True
  | .rs _ _ _ _=>True
  |_=>False
 | .aHq x=>match x.ev sl with
  | .str _=>True
  |_=>False
 | .ext x i=>match x.ev sl with
  | .tup vs=>i<vs.length
  |_=>False
 | .build z parts=>∀p∈parts,(p.2.2.ev sl).fits p.2.1=true∧p.1+p.2.1.size≤z.length
 | .slc k x lo hi mx=>match x.ev sl with
  | .sl k' _ es=>match eM sl 0 lo,eM sl es.length hi,eM sl es.length mx with
   |some l,some h',some m=>k'=k∧0≤l∧l≤h'∧h'≤m∧m≤es.length∧(hi.isNone=true→mx.isNone=true)
   |_,_,_=>False
  | .rs _ k' _ ln=>match eM sl 0 lo,eM sl ln hi,mx with
   |some l,some h',none=>k'=k∧0≤l∧l≤h'∧h'≤ln
   |some l,some h',some _=>eM sl ln mx=some 0∧k'=k∧l=0∧h'=0∧hi.isSome=true
   |_,_,_=>False
  |_=>False
 | .aGJ x lo hi=>match x.ev sl with
  | .str s=>match eM sl 0 lo,eM sl s.size hi with
   |some l,some h'=>0≤l∧l≤h'∧h'≤s.size
   |_,_=>False
  |_=>False
 | .never=>False
 | .aI6 x=>match x.ev sl with
  | .sl _ .nil _=>True
  | .sl _ .full _=>True
  |_=>False
 | .mnx _ x y=>match x.ev sl,y.ev sl with
  | .int k _, .int k' _=>k=k'
  |_,_=>False
 | .aHr x i=>match x.ev sl,i.ev sl with
  | .str s, .int _ j=>0≤j∧j<s.size
  |_,_=>False
 | .aHl _ _ x=>match x.ev sl with
  | .iface _ _=>True
  | .nilIface=>True
  |_=>False
 | .aI8 t x=>match x.ev sl with
  | .iface t' _=>t'=t
  |_=>False
 | .aBp kS ks _ _ x i=>(i.ev sl).fits kS=true∧match x.ev sl with
  | .aAW=>True
  | .map n=>match h n with
   |some (.mp es _)=>(fA (.plain kS ks) (i.ev sl) es).isSome=true
   |_=>False
  |_=>False
 | .aEd x=>match x.ev sl with
  | .aAW=>True
  | .map n=>match h n with
   |some (.mp _ _)=>True
   |_=>False
  |_=>False
theorem bR.aBR{sl:List V}{h:Hp}{R:V→Prop}{l:bR}(ho:l.ok sl h)(hR:R (l.out sl h)):l.sem sl h R:=by
 cases l<;>simp only[bR.ok,bR.out,bR.sem] at ho hR⊢;case bin op x y=>
  generalize x.ev sl=v at ho hR⊢;generalize y.ev sl=u at ho hR⊢;cases v<;>try (exact ho.elim)
  ·cases u<;>try (exact ho.elim)
   obtain⟨rfl,ho⟩:=ho;cases op<;>simp only at ho hR<;>first|exact ho.elim|exact⟨rfl,hR⟩|exact⟨rfl,ho,hR⟩
  cases u<;>try (exact ho.elim)
  simp only[qh] at ho;cases op<;>simp only at ho hR<;>first|exact ho.elim|exact hR|exact⟨ho,hR⟩
 case eq ng ty x y=>
  cases hv:veq ty (x.ev sl) (y.ev sl) with
  |none=>simp[hv] at ho
  |some r=>simpa [hv] using hR
 case load t x=>
  generalize x.ev sl=v at ho hR⊢;cases v<;>try (exact ho.elim)
  ·rename_i n k i o;simp only at ho hR⊢;cases hn:h n with
   |none=>rw[hn] at ho;exact ho.elim
   |some b=>cases b with
    |tip=>rw[hn] at ho;exact ho.elim
    |obj o _=>rw[hn] at ho;exact ho.elim
    |mp _ _=>rw[hn] at ho;exact ho.elim
    |mit _ _ _ _=>rw[hn] at ho;exact ho.elim
    |arr k' es=>rw[hn] at ho hR;exact⟨ho.1,ho.2.1,ho.2.2,hR⟩
  exact⟨ho.1,ho.2,hR⟩
 case aBp kS ks z ok x i=>
  refine⟨ho.1,?_⟩;have ho:=ho.2;generalize x.ev sl=v at ho hR⊢;cases v<;>try (exact ho.elim)
  ·exact hR
  rename_i n;simp only at ho hR⊢;cases hn:h n with
  |none=>rw[hn] at ho;exact ho.elim
  |some b=>cases b with
   |mp es c=>
    rw[hn] at ho hR;cases hf:fA (.plain kS ks) (i.ev sl) es with
    |none=>simp[hf] at ho
    |some r=>simp only[hf,Qa] at hR⊢;exact hR
   |_=>rw[hn] at ho;exact ho.elim
 case aEd x=>
  generalize x.ev sl=v at ho hR⊢;cases v<;>try (exact ho.elim)
  ·exact hR
  rename_i n;simp only at ho hR⊢;cases hn:h n with
  |none=>rw[hn] at ho;exact ho.elim
  |some b=>cases b with
   |mp es c=>rw[hn] at hR;exact hR
   |_=>rw[hn] at ho;exact ho.elim
 case aBq k x i=>
  generalize x.ev sl=v at ho hR⊢;generalize i.ev sl=u at ho hR⊢;cases v<;>try (exact ho.elim)
  ·cases u<;>first|exact ho.elim|exact⟨ho.1,ho.2.1,ho.2.2,hR⟩
  cases u<;>first|exact ho.elim|exact⟨ho.1,ho.2.1,ho.2.2,hR⟩
 case aH0 n k x i=>
  generalize x.ev sl=v at ho hR⊢;generalize i.ev sl=u at ho hR⊢;cases v<;>try (exact ho.elim)
  cases u<;>first|exact ho.elim|exact⟨ho.1,ho.2,hR⟩
 case pick c a b=>
  generalize c.ev sl=v at ho hR⊢;cases v<;>first|exact ho.elim|exact hR
 case build z ps=>exact⟨ho,hR⟩
 case slc k x lo hi mx=>
  generalize x.ev sl=v at ho hR⊢;cases v<;>try (exact ho.elim)
  ·rename_i k' own es;simp only at ho hR⊢;generalize fI sl hi=og1 at hR⊢;generalize fI sl mx=og2 at hR⊢;generalize eM sl 0 lo=b1 at ho hR⊢;generalize eM sl es.length hi=b2 at ho hR⊢;generalize eM sl es.length mx=b3 at ho hR⊢;cases b1<;>try (exact ho.elim)
   cases b2<;>try (exact ho.elim)
   cases b3<;>try (exact ho.elim)
   exact⟨ho.1,ho.2.1,ho.2.2.1,ho.2.2.2.1,ho.2.2.2.2.1,ho.2.2.2.2.2,hR⟩
  rename_i n k' off ln;simp only at ho hR⊢;generalize eM sl 0 lo=b1 at ho hR⊢;generalize eM sl ln hi=b2 at ho hR⊢;cases b1<;>try (exact ho.elim)
  cases b2<;>try (exact ho.elim)
  cases mx with
  |none=>exact⟨ho.1,ho.2.1,ho.2.2.1,ho.2.2.2,by simpa using hR⟩
  |some m=>exact⟨ho.1,ho.2.1,ho.2.2.1,ho.2.2.2.1,ho.2.2.2.2,by simpa using hR⟩
 case aGJ x lo hi=>
  generalize x.ev sl=v at ho hR⊢;cases v<;>try (exact ho.elim)
  rename_i s;simp only at ho hR⊢;generalize eM sl 0 lo=b1 at ho hR⊢;generalize eM sl s.size hi=b2 at ho hR⊢;cases b1<;>try (exact ho.elim)
  cases b2<;>try (exact ho.elim)
  exact⟨ho.1,ho.2.1,ho.2.2,hR⟩
 case aI6 x=>
  generalize x.ev sl=v at ho hR⊢;cases v<;>try (exact ho.elim)
  rename_i k own es;cases own<;>first|exact ho.elim|exact hR
 case mnx b x y=>
  generalize x.ev sl=v at ho hR⊢;generalize y.ev sl=u at ho hR⊢;cases v<;>try (exact ho.elim)
  cases u<;>first|exact ho.elim|exact⟨ho,hR⟩
 case aHr x y=>
  generalize x.ev sl=v at ho hR⊢;generalize y.ev sl=u at ho hR⊢;cases v<;>try (exact ho.elim)
  cases u<;>first|exact ho.elim|exact⟨ho.1,ho.2,hR⟩
 case aHl t z x=>
  generalize x.ev sl=v at ho hR⊢;cases v<;>first|exact ho.elim|exact hR
 case aI8 t x=>
  generalize x.ev sl=v at ho hR⊢;cases v<;>first|exact ho.elim|exact⟨ho,hR⟩
 case move=>exact hR
 case aBS=>exact hR
 case aCc=>exact hR
 case nilCheck x=>
  generalize x.ev sl=v at ho hR⊢;cases v<;>first|exact ho.elim|exact hR|exact⟨ho,hR⟩|exact⟨ho.1,ho.2,hR⟩
 case not x=>
  generalize x.ev sl=v at ho hR⊢;cases v<;>first|exact ho.elim|exact hR|exact⟨ho,hR⟩|exact⟨ho.1,ho.2,hR⟩
 case neg x=>
  generalize x.ev sl=v at ho hR⊢;cases v<;>first|exact ho.elim|exact hR|exact⟨ho,hR⟩|exact⟨ho.1,ho.2,hR⟩
 case conv k x=>
  generalize x.ev sl=v at ho hR⊢;cases v<;>first|exact ho.elim|exact hR|exact⟨ho,hR⟩|exact⟨ho.1,ho.2,hR⟩
 case aHk o x=>
  generalize x.ev sl=v at ho hR⊢;cases v<;>first|exact ho.elim|exact hR|exact⟨ho,hR⟩|exact⟨ho.1,ho.2,hR⟩
 case fld t o x=>
  generalize x.ev sl=v at ho hR⊢;cases v<;>first|exact ho.elim|exact hR|exact⟨ho,hR⟩|exact⟨ho.1,ho.2,hR⟩
 case len x=>
  generalize x.ev sl=v at ho hR⊢;cases v<;>first|exact ho.elim|exact hR|exact⟨ho,hR⟩|exact⟨ho.1,ho.2,hR⟩
 case aHq x=>
  generalize x.ev sl=v at ho hR⊢;cases v<;>first|exact ho.elim|exact hR|exact⟨ho,hR⟩|exact⟨ho.1,ho.2,hR⟩
 case ext x i=>
  generalize x.ev sl=v at ho hR⊢;cases v<;>first|exact ho.elim|exact hR|exact⟨ho,hR⟩|exact⟨ho.1,ho.2,hR⟩
def LOp.aAs:LOp→Bool
 | .call _ _=>true
 | .aAe _ _=>true
 | .aAc _ _ _=>true
 | .mp _=>true
 |_=>false
def LOp.next(dst:Option Nat)(s:St):LOp→St
 | .val x=>⟨bQ s.sl dst (x.out s.sl s.h),s.h,s.nx⟩
 | .box k x=>⟨bQ s.sl dst (.ptr s.nx k 0 0),s.h.set s.nx (.arr k [x.ev s.sl]),s.nx+1⟩
 | .aAi k es=>⟨bQ s.sl dst (.sl k (.tok s.nx) (es.map (aP.ev s.sl))),s.h.set s.nx .tip,s.nx+1⟩
 | .append k _ x y=>match eL s.h (y.ev s.sl) with
  |some (_,ys)=>match x.ev s.sl with
   | .sl _ own xs=>⟨bQ s.sl dst (.sl k (gD s.nx own ys) (xs++ys)),fK s.h s.nx own ys,s.nx+1⟩
   | .rs n _ _ _=>match s.h n with
    |some (.arr _ es)=>⟨bQ s.sl dst (.rs s.nx k 0 (es.length+ys.length)),(s.h.del n).set s.nx (.arr k (es++ys)),s.nx+1⟩
    |_=>s
   |_=>s
  |none=>s
 | .store t x v=>match x.ev s.sl with
  | .ptr n k i o=>match s.h n with
   |some (.arr _ es)=>⟨bQ s.sl dst Ka,s.h.set n (.arr k (es.set i (bW t o (es.getD i Ka) (v.ev s.sl)))),s.nx+1⟩
   |_=>s
  |_=>s
 | .mkz k _ x z=>match x.ev s.sl with
  | .int _ m=>⟨bQ s.sl dst (.rs s.nx k 0 m.toNat),s.h.set s.nx (.arr k (Kv m.toNat z)),s.nx+1⟩
  |_=>s
 | .aCu k _ _ y z=>match y.ev s.sl with
  | .int _ m=>⟨bQ s.sl dst (.rs s.nx k 0 m.toNat),s.h.set s.nx (.arr k (Kv m.toNat z)),s.nx+1⟩
  |_=>s
 | .clear k x z=>match x.ev s.sl with
  | .rs n _ off ln=>match s.h n with
   |some (.arr _ es)=>⟨bQ s.sl dst Ka,s.h.set n (.arr k (es.take off++Kv ln z++es.drop (off+ln))),s.nx+1⟩
   |_=>s
  |_=>⟨bQ s.sl dst Ka,s.h,s.nx+1⟩
 |_=>s
def LOp.ok(s:St):LOp→Prop
 | .val x=>x.ok s.sl s.h
 | .box k x=>(x.ev s.sl).fits k=true
 | .aAi k es=>∀e∈es,(e.ev s.sl).fits k=true
 | .append k bytes x y=>match eL s.h (y.ev s.sl) with
  |some (ky,ys)=>ky=k∧match x.ev s.sl with
   | .sl kx own xs=>kx=k∧(xs.length+ys.length)*bytes≤140737488355328∧yM s.h own
   | .rs n kx off len=>match s.h n with
    |some (.arr kb es)=>kx=k∧kb=k∧off=0∧len=es.length∧ys≠ []∧(es.length+ys.length)*bytes≤140737488355328
    |_=>False
   |_=>False
  |none=>False
 | .store t x v=>match x.ev s.sl with
  | .ptr n k i o=>match s.h n with
   |some (.arr k' es)=>k'=k∧i<es.length∧dA k t o∧(v.ev s.sl).fits t=true
   |_=>False
  |_=>False
 | .mkz _ bytes x _=>match x.ev s.sl with
  | .int _ m=>0≤m∧m.toNat*bytes≤140737488355328
  |_=>False
 | .aCu k bytes x y _=>match x.ev s.sl,y.ev s.sl with
  | .sl k' .nil [], .int _ m=>k'=k∧0<m∧m.toNat*bytes≤140737488355328
  |_,_=>False
 | .clear k x _=>match x.ev s.sl with
  | .rs n k' off ln=>match s.h n with
   |some (.arr kb es)=>k'=k∧kb=k∧off+ln≤es.length
   |_=>False
  | .sl _ _ []=>True
  |_=>False
 |_=>False
def aA.next(o:aA)(s:St):St:=
 match o.g with
 |none=>o.op.next o.dst s
 |some (t,want)=>match s.sl.getD t Ka with
  | .bool b=>if b=want then o.op.next o.dst s else ⟨bQ s.sl o.dst Ka,s.h,s.nx⟩
  |_=>⟨bQ s.sl o.dst Ka,s.h,s.nx⟩
def aA.ok(o:aA)(s:St):Prop:=
 match o.g with
 |none=>o.op.ok s
 |some (t,want)=>match s.sl.getD t Ka with
  | .bool b=>b=want→o.op.ok s
  | .tup _=>True
  |_=>False
def kD:List aA→St→St
 | [],s=>s
 |o::r,s=>kD r (o.next s)
def rJ:List aA→St→Prop
 | [],_=>True
 |o::r,s=>o.ok s∧rJ r (o.next s)
theorem tL{P:Program}{o:aA}{r:List aA}{Q:St→Prop}{s:St}(hc:o.op.aAs=false)(ho:o.ok s)(h:bF P r Q (o.next s)):bF P (o::r) Q s:=by
 have go:o.op.ok s→bF P r Q (o.op.next o.dst s)→o.op.run P s.sl s.h s.nx fun v h' nx'=>bF P r Q ⟨bQ s.sl o.dst v,h',nx'⟩:=by
  intro ho h;generalize o.op=op at hc ho h⊢;cases op with
  |val x=>exact bR.aBR (R:=fun v=>bF P r Q ⟨bQ s.sl o.dst v,s.h,s.nx⟩) ho h
  |box k x=>exact⟨ho,h⟩
  |aAi k es=>exact⟨ho, .inl h⟩
  |mkz k b x z=>
   simp only[LOp.ok,LOp.next,Kc,Kd] at ho h⊢;generalize x.ev s.sl=v at ho h⊢;cases v<;>first|exact ho.elim|exact⟨ho.1,ho.2, .inl h⟩
  |aCu k b x y z=>
   simp only[LOp.ok,LOp.next,Kc,Kd] at ho h⊢;generalize x.ev s.sl=v at ho h⊢;generalize y.ev s.sl=u at ho h⊢;split at ho
   ·exact⟨ho.1,ho.2.1,ho.2.2,h⟩
   exact ho.elim
  |clear k x z=>
   simp only[LOp.ok,LOp.next,Kc,Kd] at ho h⊢;generalize x.ev s.sl=v at ho h⊢;split at ho
   ·rename_i n k' off ln;simp only at h⊢;cases hn:s.h n with
    |none=>rw[hn] at ho;exact ho.elim
    |some b=>cases b with
     |tip=>rw[hn] at ho;exact ho.elim
     |obj o _=>rw[hn] at ho;exact ho.elim
     |mp _ _=>rw[hn] at ho;exact ho.elim
     |mit _ _ _ _=>rw[hn] at ho;exact ho.elim
     |arr k' es=>rw[hn] at ho h;exact⟨ho.1,ho.2.1,ho.2.2,h⟩
   ·exact h
   exact ho.elim
  |aAc f a b=>simp[LOp.aAs] at hc
  |mp m=>simp[LOp.aAs] at hc
  |append k b x y=>
   simp only[LOp.ok,LOp.next,Kc,Kd] at ho h⊢;generalize x.ev s.sl=v at ho h⊢;generalize eL s.h (y.ev s.sl)=u at ho h⊢;cases u with
   |none=>exact ho.elim
   |some u=>
    obtain⟨ky,ys⟩:=u;refine⟨ho.1,?_⟩
    replace ho:=ho.2
    cases v<;>try (exact ho.elim)
    ·exact⟨ho.1,ho.2.1, .inl ⟨ho.2.2,h⟩⟩
    rename_i n kx off len;simp only at ho h⊢;cases hn:s.h n with
    |none=>rw[hn] at ho;exact ho.elim
    |some b=>cases b with
     |tip=>rw[hn] at ho;exact ho.elim
     |obj o _=>rw[hn] at ho;exact ho.elim
     |mp _ _=>rw[hn] at ho;exact ho.elim
     |mit _ _ _ _=>rw[hn] at ho;exact ho.elim
     |arr k' es=>
      rw[hn] at ho h;obtain⟨o1,o2,o3,o4,o5,o6⟩:=ho;subst o4;refine⟨o1, .inr ⟨o2,o3,Kw _,o5,o6,?_⟩⟩;simp only[List.take_length];exact h
  |store t x v=>
   simp only[LOp.ok,LOp.next,Kc,Kd] at ho h⊢;generalize x.ev s.sl=u at ho h⊢;cases u<;>try (exact ho.elim)
   rename_i n k i o';simp only at ho h⊢;cases hn:s.h n with
   |none=>rw[hn] at ho;exact ho.elim
   |some b=>cases b with
    |tip=>rw[hn] at ho;exact ho.elim
    |obj o _=>rw[hn] at ho;exact ho.elim
    |mp _ _=>rw[hn] at ho;exact ho.elim
    |mit _ _ _ _=>rw[hn] at ho;exact ho.elim
    |arr k' es=>rw[hn] at ho h;exact⟨ho.1,ho.2.1,ho.2.2.1,ho.2.2.2,h⟩
  |call f a=>simp[LOp.aAs] at hc
  |aAe x a=>simp[LOp.aAs] at hc
 unfold bF;unfold aA.ok at ho;unfold aA.next at h;cases hg:o.g with
 |none=>rw[hg] at ho h;exact go ho h
 |some p=>
  obtain⟨t,want⟩:=p;rw[hg] at ho h;simp only at ho h⊢;cases hv:s.sl.getD t Ka<;>rw[hv] at ho h<;>simp only at ho h⊢<;>first
   |exact ho.elim
   |exact h
   |(split at h
     ·rename_i e;rw[if_pos e];exact go (ho e) h
     rename_i e;rw[if_neg e];exact h)
def vP:List aA→List aA
 | []=>[]
 |o::r=>if o.op.aAs=true then [] else o::vP r
def tF:List aA→List aA
 | []=>[]
 |o::r=>if o.op.aAs=true then o::r else tF r
theorem wa{P:Program}{Q:St→Prop}:∀(l:List aA) (s:St),rJ (vP l) s→bF P (tF l) Q (kD (vP l) s)→bF P l Q s
 | [],s,_,h=>h
 |o::r,s,ho,h=>by
  by_cases hc:o.op.aAs=true
  ·simp only[vP,tF,hc,if_true] at ho h;exact h
  simp only[vP,tF,hc] at ho h;exact tL (by simpa using hc) ho.1 (wa r _ ho.2 h)
theorem Dr{P:Program}{Q:St→Prop}(l:List aA)(hl:l.all (fun o=> !o.op.aAs)=true)(s:St)(ho:rJ l s)(h:Q (kD l s)):bF P l Q s:=by
 have e1:∀l:List aA,l.all (fun o=> !o.op.aAs)=true→vP l=l∧tF l=[]:=by
  intro l;induction l with
  |nil=>intro _;exact⟨rfl,rfl⟩
  |cons o r ih=>
   intro h;simp only[List.all_cons,Kg,Bool.not_eq_true'] at h;obtain⟨q1,q2⟩:=ih h.2;constructor
   ·simp only[vP,h.1,q1];rfl
   simp only[tF,h.1,q2];rfl
 obtain⟨q1,q2⟩:=e1 l hl;refine wa l s (by rw[q1];exact ho) ?_;rw[q1,q2];exact h
abbrev Hp.none:Hp:=fun _=>Option.none
theorem zT{a b c:Hp}(h:Kf a b)(h':Kf b c):Kf a c:=fun n b e hb=>h' n b (h n b e hb) hb
theorem bM(h:Hp):Kf Hp.none h:=fun n b e _=>by cases e
theorem aT(h:Hp):Kf h h:=fun _ _ e _=>e
theorem aY.mono{P:Program}{f:FuncId}{args:List V}{h h':Hp}{v:V}(p:aY P f args h v)(hh:h.has h'):aY P f args h' v:=fun h'' nx q=>p h'' nx (zT hh q)
theorem sY.mono{P:Program}{f:FuncId}{args:List V}{h h':Hp}{k:Sh}{es:List V}(p:sY P f args h k es)(hh:h.has h'):sY P f args h' k es:=⟨p.1,fun h'' nx q=>p.2 h'' nx (zT hh q)⟩
theorem aR{P:Program}{f:FuncId}{args:List V}{h:Hp}{v:V}(hv:∀L,v.names L)(hc:∀h' nx,h.has h'→bD P f args h' nx fun v' h'' _=>v'=v∧h''=h'):aY P f args h v:=by
 intro h' nx hh;have c:=hc h' nx hh;refine⟨c.1,fun K aAK hlv aAV aDL=>(c.2 K aAK hlv aAV aDL).mono ?_⟩;rintro e w' ⟨K',v',cv,h'',nx',rfl,he,hle,hvr,aA6,aEn,hnx,rfl,rfl⟩;have aEq:K.le (K'.only fun n=>K'.live n∧n<nx):=⟨fun n hn=>⟨hle.live n hn,hlv n hn⟩,hle.mu,hle.tp,hle.fro,hle.imm,hle.cell,hle.shape,hle.below⟩;exact⟨K'.only fun n=>K'.live n∧n<nx,v',cv,h'',nx,rfl,he,aEq,hvr.only _ (hv _),aAV.back aA6 aEq.toV (fun n hn=>⟨hle.live n hn,hlv n hn⟩),fun n hn=>⟨hn.2,(aEn n hn.1).2⟩,Kw _,rfl,rfl,rfl⟩
theorem xe{P:Program}{f:FuncId}{args:List V}{h:Hp}{k:Sh}{es:List V}(hv:∀L,bU L es)(hc:∀h' nx,h.has h'→bD P f args h' nx fun v' h'' _=>∃id,nx≤id∧v'= .sl k (.tok id) es∧h''=h'.set id .tip):sY P f args h k es:=by
 refine⟨hv,?_⟩;intro h' nx hh;have c:=hc h' nx hh;refine⟨c.1,fun K aAK hlv aAV aDL=>(c.2 K aAK hlv aAV aDL).mono ?_⟩;rintro e w' ⟨K',v',cv,h'',nx',rfl,he,hle,hvr,aA6,aEn,hnx,id,hid,rfl,rfl⟩;have aBO:∀n b,h' n=some b→n<nx:=fun n b e=>hlv n (aAV.lt n b e);have aAT:(h'.set id .tip) id=some .tip:=by simp[Kb]
 --first all names of its own but the token are forgotten,then the token is called nx
 have aBD:K.le (K'.only fun n=>(K'.live n∧n<nx)∨n=id):=⟨fun n hn=> .inl ⟨hle.live n hn,hlv n hn⟩,hle.mu,hle.tp,hle.fro,hle.imm,hle.cell,hle.shape,hle.below⟩;have aWZ:K'.live id:=aA6.lt id _ aAT;have aCF:Rel (K'.only fun n=>(K'.live n∧n<nx)∨n=id) (h'.set id .tip):=by
  refine⟨fun n b e=>?_,aA6.base,fun n b e=>?_,aA6.inj,aA6.size⟩
  ·unfold Kb at e;split at e
   ·rename_i hn;exact .inr hn
   exact .inl ⟨hle.live n (aAV.lt n b e),aBO n b e⟩
  have hb':=aA6.blk n b e;cases hb' with
  |tip c T hh hi ht=>exact .tip c T hh hi ht
  |obj o U hh ho _ hU=>
   have hne:n≠id:=by rintro rfl;rw[aAT] at e;cases e
   have e':h' n=some (.obj o U):=by unfold Kb at e;rw[if_neg hne] at e;exact e
   have hb:=aAV.blk n _ e';cases hb with
   |obj _ _ _ _ hu _=>exact .obj o U hh ho (hU _ _ aBD.toV hu) hU
  |arr k es c T hh hsz hi aAG hvs=>
   have hne:n≠id:=by rintro rfl;rw[aAT] at e;cases e
   have e':h' n=some (.arr k es):=by unfold Kb at e;rw[if_neg hne] at e;exact e
   refine .arr k es c T hh hsz hi aAG fun i hi j hj=>(hvs i hi j hj).only _ ?_;have hb:=aAV.blk n _ e';cases hb with
   |arr _ _ c0 T0 hh0 aJc hi0 aEs aEf=>exact cU (fun m hm=> .inl ⟨hle.live m hm,hlv m hm⟩) (aEf i hi j hj).names
  |mp es c ces hh hl hvv=>
   have hne:n≠id:=by rintro rfl;rw[aAT] at e;cases e
   have e':h' n=some (.mp es c):=by unfold Kb at e;rw[if_neg hne] at e;exact e
   have hb:=aAV.blk n _ e';cases hb with
   |mp _ _ aNl hh0 hl0 hv0=>exact .mp es c ces hh hl fun i hi=>⟨(hvv i hi).1.only _ (cU (fun m hm=> .inl ⟨hle.live m hm,hlv m hm⟩) (hv0 i hi).1.names),(hvv i hi).2.1.only _ (cU (fun m hm=> .inl ⟨hle.live m hm,hlv m hm⟩) (hv0 i hi).2.1.names),(hvv i hi).2.2⟩
  |mit m since seen last hh hm=>
   have hne:n≠id:=by rintro rfl;rw[aAT] at e;cases e
   have e':h' n=some (.mit m since seen last):=by unfold Kb at e;rw[if_neg hne] at e;exact e
   have hb:=aAV.blk n _ e';cases hb with
   |mit _ _ _ _ hh0 hm0=>exact .mit m since seen last hh (.inl ⟨hle.live m hm0,hlv m hm0⟩)
 have aH1:VR (K'.only fun n=>(K'.live n∧n<nx)∨n=id) (.sl k (.tok id) es) cv:=hvr.only _ ⟨fun n e=>by injection e with e;exact .inr e.symm,hv _⟩;by_cases aB1:id=nx
 ·subst aB1;refine⟨K'.only fun n=>(K'.live n∧n<id)∨n=id,_,cv,_,id+1,rfl,he,aBD,aH1,aCF,fun n hn=>?_,or,rfl,rfl,rfl⟩;rcases hn with hn|hn
  ·exact⟨or,(aEn n hn.1).2⟩
  exact⟨or, .inr or⟩
 have hfr:¬((K'.live nx∧nx<nx)∨nx=id):=fun h=>h.elim (fun h=>KT _ h.2) (fun h=>aB1 h.symm);generalize hKA:(K'.only fun n=>(K'.live n∧n<nx)∨n=id)=KA at aBD aCF aH1;have aJJ:¬KA.live nx:=by rw[←hKA];exact hfr
 have hbr:=aCF.blk id _ aAT;have aA1:=KA.aAn (b:=KA.mu id) (m:=KA.imm (KA.mu id)) aJJ (Kw _);have aBg:=aCF.aAI aAT (a:=nx) (m:=KA.imm (KA.mu id)) aJJ (Kw _) (b1:= .tip) (by
  cases hbr with
  |tip c T hh hi ht=>exact .tip c T (by simpa [Ker.aAI] using hh) (by simp[Ker.aAI]) (by simpa [Ker.aAI,hi] using ht))
 have hn0:h' id=none:=by
  cases e:h' id with
  |none=>rfl
  |some b=>have:=aBO id b e;omega
 have aD4:((h'.set id .tip).del id).set nx .tip=h'.set nx .tip:=by
  funext x;unfold Kb Kk;by_cases e1:x=nx
  ·simp[e1]
  by_cases e2:x=id
  ·simp[e1,e2,hn0]
  simp[e1,e2]
 rw[aD4] at aBg;have aV7:VR (KA.aAI nx (KA.mu id) (KA.imm (KA.mu id))) (.sl k (.tok nx) es) cv:=by
  cases aH1 with
  |sl _ _ _ b off cap f' hb' aBI aAM hst hv aAa aA8 aAo aBM=>
   refine .sl k (.tok nx) es b off cap f' hb' aBI aAM (fun j hj=>aA1.still hb' (hst j hj)) (fun i hi j hj=>(hv i hi j hj).mono aA1) aAa Zm Zm ?_;intro m hm;injection hm with hm;subst hm;obtain⟨hln,htk⟩:=aBM id rfl;refine⟨.inl rfl,?_⟩;rcases htk with q|⟨q1,q2,q3⟩
   ·exact .inl q
   refine .inr ⟨by simp[Ker.aAI,q1],?_,q3⟩;cases hbr with
   |tip c T hh hi ht=>simp[Ker.aAI,hi,q2]
 --and its old name is forgotten
 have aJq:K.le ((KA.aAI nx (KA.mu id) (KA.imm (KA.mu id))).only fun n=>(K'.live n∧n<nx)∨n=nx):=by
  have:=aBD.trans aA1;exact⟨fun n hn=> .inl ⟨hle.live n hn,hlv n hn⟩,this.mu,this.tp,this.fro,this.imm,this.cell,this.shape,this.below⟩
 refine⟨(KA.aAI nx (KA.mu id) (KA.imm (KA.mu id))).only fun n=>(K'.live n∧n<nx)∨n=nx,_,cv,_,nx+1,?_,he,aJq,aV7.only _ ⟨fun n e=>by injection e with e;exact .inr e.symm,hv _⟩,?_,fun n hn=>?_,or,rfl,rfl,rfl⟩
 ·rw[←hKA];rfl
 ·refine⟨fun n b e=>?_,aBg.base,fun n b e=>?_,aBg.inj,aBg.size⟩
  ·unfold Kb at e;split at e
   ·rename_i hn;exact .inr hn
   exact .inl ⟨hle.live n (aAV.lt n b e),aBO n b e⟩
  have hb':=aBg.blk n b e;cases hb' with
  |tip c T hh hi ht=>exact .tip c T hh hi ht
  |obj o U hh ho _ hU=>
   have hne:n≠nx:=by rintro rfl;simp[Kb] at e
   have e':h' n=some (.obj o U):=by unfold Kb at e;rw[if_neg hne] at e;exact e
   have hb:=aAV.blk n _ e';cases hb with
   |obj _ _ _ _ hu _=>exact .obj o U hh ho (hU _ _ aJq.toV hu) hU
  |arr k es c T hh hsz hi aAG hvs=>
   have hne:n≠nx:=by rintro rfl;simp[Kb] at e
   have e':h' n=some (.arr k es):=by unfold Kb at e;rw[if_neg hne] at e;exact e
   refine .arr k es c T hh hsz hi aAG fun i hi j hj=>(hvs i hi j hj).only _ ?_;have hb:=aAV.blk n _ e';cases hb with
   |arr _ _ c0 T0 hh0 aJc hi0 aEs aEf=>exact cU (fun m hm=> .inl ⟨hle.live m hm,hlv m hm⟩) (aEf i hi j hj).names
  |mp es c ces hh hl hvv=>
   have hne:n≠nx:=by rintro rfl;simp[Kb] at e
   have e':h' n=some (.mp es c):=by unfold Kb at e;rw[if_neg hne] at e;exact e
   have hb:=aAV.blk n _ e';cases hb with
   |mp _ _ aNl hh0 hl0 hv0=>exact .mp es c ces hh hl fun i hi=>⟨(hvv i hi).1.only _ (cU (fun m hm=> .inl ⟨hle.live m hm,hlv m hm⟩) (hv0 i hi).1.names),(hvv i hi).2.1.only _ (cU (fun m hm=> .inl ⟨hle.live m hm,hlv m hm⟩) (hv0 i hi).2.1.names),(hvv i hi).2.2⟩
  |mit m since seen last hh hm=>
   have hne:n≠nx:=by rintro rfl;simp[Kb] at e
   have e':h' n=some (.mit m since seen last):=by unfold Kb at e;rw[if_neg hne] at e;exact e
   have hb:=aAV.blk n _ e';cases hb with
   |mit _ _ _ _ hh0 hm0=>exact .mit m since seen last hh (.inl ⟨hle.live m hm0,hlv m hm0⟩)
 rcases hn with hn|hn
 ·exact⟨or,(aEn n hn.1).2⟩
 exact⟨or, .inr or⟩
section
variable{P:Program}{Q:cM→St→Prop}{s:St}
theorem eD(h:Q .normal s):lwp P .skip Q s:=h
theorem bI{a b:aZ}(h:lwp P a (nW (lwp P b) Q) s):lwp P (.seq a b) Q s:=h
theorem dJ{id:Nat}{c:aZ}(h:lwp P c (fP id Q) s):lwp P (.block id c) Q s:=h
theorem gC{id:Nat}(h:Q (.exit id) s):lwp P (.exit id) Q s:=h
theorem bT(h:Q .ret s):lwp P .ret Q s:=h
theorem cJ{c:aP}{a b:aZ}(t:Bool)(hc:c.ev s.sl= .bool t)(ht:t=true→lwp P a Q s)(hf:t=false→lwp P b Q s):lwp P (.cond c a b) Q s:=by
 simp only[lwp,hc];cases t
 ·simpa using hf rfl
 simpa using ht rfl
theorem bL{l:List aA}(h:bF P l (Q .normal) s):lwp P (.ops l) Q s:=h
theorem aM{b:(cM→St→Prop)→St→Prop}(h:b Q s):nW b Q .normal s:=⟨s,(Wk.refl s).tell,h⟩
theorem fT{b:(cM→St→Prop)→St→Prop}(s':St)(hw:Wk s s')(h:b Q s'):nW b Q .normal s:=⟨s',hw.tell,h⟩
theorem m9{b:(cM→St→Prop)→St→Prop}{s':St}(hw:af s s')(h:nW b Q .normal s'):nW b Q .normal s:=have⟨s2,h2,h3⟩:=h;⟨s2,hw.trans h2,h3⟩
theorem eH{b:(cM→St→Prop)→St→Prop}{id:Nat}(h:Q (.exit id) s):nW b Q (.exit id) s:=h
theorem iD{b:(cM→St→Prop)→St→Prop}(h:Q .ret s):nW b Q .ret s:=h
theorem bZ{id:Nat}(h:Q .normal s):fP id Q .normal s:=h
theorem eY{id:Nat}(h:Q .ret s):fP id Q .ret s:=h
theorem cR{id:Nat}(h:Q .normal s):fP id Q (.exit id) s:=by simp only[fP,if_true];exact h
theorem bJ{id id':Nat}(hne:id'≠id)(h:Q (.exit id') s):fP id Q (.exit id') s:=by simp only[fP,if_neg hne];exact h
def q9{ι:Type}(C:ι→Prop)(st:ι→St)(m:ι→Nat)(n:Nat)(Q:cM→St→Prop):cM→St→Prop
 | .normal,s=>∃i,C i∧m i<n∧af s (st i)
 |e,s=>Q e s
theorem gW{ι:Type}{C:ι→Prop}{st:ι→St}{m:ι→Nat}{n:Nat}(i:ι)(hC:C i)(hm:m i<n)(hw:Wk s (st i)):q9 C st m n Q .normal s:=⟨i,hC,hm,hw.tell⟩
theorem dR{ι:Type}{C:ι→Prop}{st:ι→St}{m:ι→Nat}{n:Nat}{id:Nat}(h:Q (.exit id) s):q9 C st m n Q (.exit id) s:=h
theorem fN{ι:Type}{C:ι→Prop}{st:ι→St}{m:ι→Nat}{n:Nat}(h:Q .ret s):q9 C st m n Q .ret s:=h
theorem LOp.aAz{sl:List V}{hp:Hp}{nx:Nat}{R R':V→Hp→Nat→Prop}{o:LOp}(hR:∀v h' nx',R v h' nx'→R' v h' nx')(hx:o.run P sl hp nx R):o.run P sl hp nx R':=by
 have aV1:∀{sl:List V} {hp:Hp} {R R':V→Prop} {x:bR},(∀v,R v→R' v)→x.sem sl hp R→x.sem sl hp R':=fun hR hx=>bR.aBF (fun _ _ e _=>e) hR hx;cases o with
 |val x=>exact aV1 (fun v=>hR v hp nx) hx
 |mp m=>exact MOp.aBF (fun v h'=>hR v h' (nx+1)) hx
 |box k x=>exact⟨hx.1,hR _ _ _ hx.2⟩
 |aAi k es=>exact⟨hx.1,hx.2.imp (hR _ _ _) (hR _ _ _)⟩
 |aAc f a b=>exact hx.elim
 |mkz k b x z=>
  simp only[Kc,Kd] at hx⊢;revert hx;split
  ·rintro⟨a,b,c⟩;exact⟨a,b,c.imp (hR _ _ _) (hR _ _ _)⟩
  exact id
 |aCu k b x y z=>
  simp only[Kc,Kd] at hx⊢;revert hx;split
  ·rintro⟨a,b,c,d⟩;exact⟨a,b,c,hR _ _ _ d⟩
  exact id
 |clear k x z=>
  simp only[Kc,Kd] at hx⊢;revert hx;split
  ·split
   ·rintro⟨a,b,c,d⟩;exact⟨a,b,c,hR _ _ _ d⟩
   exact id
  ·exact hR _ _ _
  exact id
 |append k b x y=>
  simp only[Kc,Kd] at hx⊢;revert hx;split
  ·rintro⟨a,hx⟩;refine⟨a,?_⟩;revert hx;split
   ·rintro⟨b,c,⟨d,e⟩|⟨d,e,f,g⟩⟩
    ·exact⟨b,c, .inl ⟨d,hR _ _ _ e⟩⟩
    exact⟨b,c, .inr ⟨d,e,f,hR _ _ _ g⟩⟩
   ·split
    ·rintro⟨b,⟨c,d⟩|⟨c,d,e,f,g,i⟩⟩
     ·exact⟨b, .inl ⟨c,hR _ _ _ d⟩⟩
     exact⟨b, .inr ⟨c,d,e,f,g,hR _ _ _ i⟩⟩
    exact id
   exact id
  exact id
 |store t x v=>
  simp only[Kc,Kd] at hx⊢;revert hx;split
  ·split
   ·rintro⟨a,b,c,d,e⟩;exact⟨a,b,c,d,hR _ _ _ e⟩
   exact id
  exact id
 |call f args=>exact bD.mono hx fun v h' nx' _=>hR v h' nx'
 |aAe x args=>
  simp only[Kc] at hx⊢;revert hx;split
  ·exact fun hx=>bD.mono hx fun v h' nx' _=>hR v h' nx'
  ·exact fun hx=>gA.mono hx fun v h' nx' _=>hR v h' nx'
  exact id
theorem gY{Q Q':St→Prop}(h:∀s,Q s→Q' s):∀(l:List aA) (s:St),bF P l Q s→bF P l Q' s:=by
 intro l;induction l with
 |nil=>exact fun s hs=>h s hs
 |cons o r ih=>
  intro s hs;unfold bF at hs⊢;revert hs;split
  ·exact LOp.aAz fun v h' nx'=>ih _
  split
  ·split
   ·exact LOp.aAz fun v h' nx'=>ih _
   exact ih _
  ·exact ih _
  exact id
theorem px{h0:Hp}{nx0:Nat}{Q Q':List V→List (Option Blk)→List (Option Con)→Prop}(h:∀a b c,Q a b c→Q' a b c):∀(l:List (aA×List Nat)) (sl:List V) (aAL:List (Option Blk)) (cons:List (Option Con)),dI P h0 nx0 l sl aAL cons Q→dI P h0 nx0 l sl aAL cons Q'
 | [],sl,aAL,cons,hd=>h _ _ _ hd
 |(o,aAR)::r,sl,aAL,cons,hd=>by
  unfold dI at hd⊢;obtain⟨d,h1,h2,h3⟩:=zX hd;exact yC h1 ⟨h2,px h r _ _ _ h3⟩
theorem nD{c:aZ}:∀{Q Q':cM→St→Prop} {s:St},(∀e s,Q e s→Q' e s)→lwp P c Q s→lwp P c Q' s:=by
 induction c with
 |skip=>exact fun h hs=>h _ _ hs
 |ops l=>exact fun h hs=>gY (fun s=>h _ s) l _ hs
 |draw n hd tl=>exact fun h hs=>hs.imp (fun hs=>⟨hs.1,px (fun a b c hq=>gY (fun s=>h _ s) tl _ hq) hd _ _ _ hs.2⟩) (fun⟨I,h0,h1,h2⟩=>⟨I,h0,h1,fun D s' hD hI=>gY (fun s=>h _ s) tl _ (h2 D s' hD hI)⟩)
 |seq a b iha ihb=>
  intro Q Q' s h hs;refine iha ?_ hs;intro e s' hq;cases e with
  |normal=>obtain⟨s'',hw,hb⟩:=hq;exact⟨s'',hw,ihb h hb⟩
  |exit id=>exact h _ _ hq
  |ret=>exact h _ _ hq
 |cond c a b iha ihb=>
  intro Q Q' s h hs;simp only[lwp] at hs⊢;revert hs;split
  ·split
   ·exact iha h
   exact ihb h
  exact id
 |block id c ih=>
  intro Q Q' s h hs;refine ih ?_ hs;intro e s' hq;cases e with
  |normal=>exact h _ _ hq
  |exit id'=>
   simp only[fP] at hq⊢;revert hq;split<;>exact h _ _
  |ret=>exact h _ _ hq
 |loop c ih=>
  rintro Q Q' s h ⟨I,m,h0,hr⟩;refine⟨I,m,h0,fun s' hI=>ih ?_ (hr s' hI)⟩;intro e s'' hq;cases e with
  |normal=>exact hq
  |exit id=>exact h _ _ hq
  |ret=>exact h _ _ hq
 |exit id=>exact fun h hs=>h _ _ hs
 |ret=>exact fun h hs=>h _ _ hs
 |range g ps as b iha ihb=>
  intro Q Q' s h hs;simp only[lwp] at hs⊢;revert hs;split
  ·intro hs rcd U hp hY;refine(hs rcd U hp hY).mono ?_;rintro v h' nx' _ (⟨ho,hq⟩|⟨ho,hq⟩|⟨id,ho,hq⟩)
   ·exact .inl ⟨ho,h _ _ hq⟩
   ·exact .inr (.inl ⟨ho,h _ _ hq⟩)
   exact .inr (.inr ⟨id,ho,h _ _ hq⟩)
  exact id
theorem nE{c:aZ}{ι:Type}(C:ι→Prop)(st:ι→St)(m:ι→Nat)(i0:ι)(h0:C i0)(hw0:Wk s (st i0))(hr:∀i,C i→lwp P c (q9 C st m (m i) Q) (st i)):lwp P (.loop c) Q s:=by
 --the measure of a state is the least that an index of it has
 have least:∀(p:Nat→Prop),(∃n,p n)→∃n,p n∧∀k,p k→n≤k:=by
  intro p ⟨n,hn⟩;induction n using Nat.strongRecOn with
  |_ n ih=>
   by_cases hex:∃k,k<n∧p k
   ·obtain⟨k,hk,hp⟩:=hex;exact ih k hk hp
   exact⟨n,hn,fun k hk=>by
    rcases KN k n with h|h
    ·exact absurd ⟨k,h,hk⟩ hex
    exact h⟩
 refine⟨fun s'=>∃i,C i∧s'=st i,fun s'=>leastOf fun n=>∃i,C i∧s'=st i∧m i=n,⟨st i0,hw0.tell,i0,h0,rfl⟩,?_⟩;rintro s' ⟨i,hi,rfl⟩;have hl:=leastOf_spec (p:=fun n=>∃j,C j∧st i=st j∧m j=n) ⟨m i,i,hi,rfl,rfl⟩;obtain⟨⟨j,hj,hij,hmj⟩,aVb⟩:=hl;rw[hij];refine nD ?_ (hr j hj);intro e s'' hq;cases e with
 |normal=>
  obtain⟨i',hC',hm',hw'⟩:=hq;refine⟨st i',hw',⟨i',hC',rfl⟩,?_⟩;have h2:=(leastOf_spec (p:=fun n=>∃j,C j∧st i'=st j∧m j=n) ⟨m i',i',hC',rfl,rfl⟩).2 (m i') ⟨i',hC',rfl,rfl⟩;have h3:leastOf (fun n=>∃k,C k∧st j=st k∧m k=n)=m j:=by
   rw[←hij,hmj]
  show leastOf (fun n=>∃k,C k∧st i'=st k∧m k=n)<leastOf (fun n=>∃k,C k∧st j=st k∧m k=n);rw[h3];exact Nat.lt_of_le_of_lt h2 hm'
 |exit id=>exact hq
 |ret=>exact hq
variable{Qs:St→Prop}{r:List aA}{dst:Option Nat}{f:FuncId}{args:List aP}
def dM(P:Program)(r:List aA)(Qs:St→Prop)(sl:List V)(dst:Option Nat)(v:V)(h:Hp)(nx:Nat):Prop:=bF P r Qs ⟨bQ sl dst v,h,nx⟩
theorem bN(h:bD P f (args.map (aP.ev s.sl)) s.h s.nx (dM P r Qs s.sl dst)):bF P (⟨dst,none, .call f args⟩::r) Qs s:=h
theorem Ai{x:aP}{f':Nat}{first cap:List V}(hx:x.ev s.sl= .fn (.func f') first cap)(h:bD P f' (first++args.map (aP.ev s.sl)++cap) s.h s.nx (dM P r Qs s.sl dst)):bF P (⟨dst,none, .aAe x args⟩::r) Qs s:=by
 unfold bF;simp only[Kc,hx];exact h
theorem gA.weaken{n:Nat}{args:List V}{h h2:Hp}{nx:Nat}{R:V→Hp→Nat→Prop}(c:gA P n args h nx R)(hle:h.le h2):gA P n args h2 nx R:=
 fun m K aAK hl hn aAV hv=>c m K aAK hl hn (aAV.weaken hle) hv
theorem vV{x:aP}{n:Nat}(hx:x.ev s.sl= .yld n)(h:gA P n (args.map (aP.ev s.sl)) s.h s.nx (dM P r Qs s.sl dst)):bF P (⟨dst,none, .aAe x args⟩::r) Qs s:=by
 unfold bF;simp only[Kc,hx];exact h
theorem aQ{h:Hp}{aAp:List V}{v:V}(hp:aY P f aAp h v)(ha:args.map (aP.ev s.sl)=aAp)(hh:h.has s.h)(hq:bF P r Qs ⟨bQ s.sl dst v,s.h,s.nx⟩):bF P (⟨dst,none, .call f args⟩::r) Qs s:=by
 refine bN ?_;rw[ha];refine(hp s.h s.nx hh).mono ?_;rintro v' h' nx' _ ⟨rfl,rfl,rfl⟩;exact hq
theorem qN{x:aP}{f':Nat}{first cap:List V}(hx:x.ev s.sl= .fn (.func f') first cap){h:Hp}{aAp:List V}{v:V}(hp:aY P f' aAp h v)(ha:first++args.map (aP.ev s.sl)++cap=aAp)(hh:h.has s.h)(hq:bF P r Qs ⟨bQ s.sl dst v,s.h,s.nx⟩):bF P (⟨dst,none, .aAe x args⟩::r) Qs s:=by
 refine Ai hx ?_;rw[ha];refine(hp s.h s.nx hh).mono ?_;rintro v' h' nx' _ ⟨rfl,rfl,rfl⟩;exact hq
theorem qO{t:Nat}{want b:Bool}{op:LOp}(hb:s.sl.getD t Ka= .bool b)(h1:b=want→bF P (⟨dst,none,op⟩::r) Qs s)(h2:b≠want→bF P r Qs ⟨bQ s.sl dst Ka,s.h,s.nx⟩):bF P (⟨dst,some (t,want),op⟩::r) Qs s:=by
 unfold bF;simp only[hb];split
 ·rename_i e;exact h1 e
 rename_i e;exact h2 e
theorem cE{t:Nat}{want:Bool}{op:LOp}(hb:s.sl.getD t Ka= .tup [])(h2:bF P r Qs ⟨bQ s.sl dst Ka,s.h,s.nx⟩):bF P (⟨dst,some (t,want),op⟩::r) Qs s:=by
 unfold bF;simp only[hb];exact h2
end
def LOp.aGG(sl:List V)(h0:Hp)(a:Nat):LOp→gE
 | .mp .mk=>⟨.map a,some (.mp [] 0),none⟩
 | .val x=>⟨x.out sl h0,none,none⟩
 | .box k x=>⟨.ptr a k 0 0,some (.arr k [x.ev sl]),none⟩
 | .aAi k es=>⟨.sl k (.tok a) (es.map (aP.ev sl)),some .tip,none⟩
 | .append k _ x y=>match x.ev sl,y.ev sl with
  | .sl _ .nil xs, .sl _ _ ys=>⟨.sl k (gD a .nil ys) (xs++ys),if ys.isEmpty then none else some .tip,none⟩
  | .sl _ .full xs, .sl _ _ ys=>⟨.sl k (gD a .full ys) (xs++ys),if ys.isEmpty then none else some .tip,none⟩
  | .sl _ (.tok n) xs, .sl _ _ ys=>⟨.sl k (.tok a) (xs++ys),some .tip,some ⟨n, .tip,none⟩⟩
  |_,_=>⟨.undef,none,none⟩
 | .mkz k _ x z=>match x.ev sl with
  | .int _ m=>⟨.rs a k 0 m.toNat,some (.arr k (Kv m.toNat z)),none⟩
  |_=>⟨.undef,none,none⟩
 | .aCu k _ _ y z=>match y.ev sl with
  | .int _ m=>⟨.rs a k 0 m.toNat,some (.arr k (Kv m.toNat z)),none⟩
  |_=>⟨.undef,none,none⟩
 |_=>⟨.undef,none,none⟩
def LOp.dok(sl:List V)(h0:Hp):LOp→Prop
 | .mp .mk=>True
 | .val x=>x.ok sl h0
 | .box k x=>(x.ev sl).fits k=true
 | .aAi k es=>∀e∈es,(e.ev sl).fits k=true
 | .append k bytes x y=>match x.ev sl,y.ev sl with
  | .sl kx own xs, .sl ky _ ys=>kx=k∧ky=k∧(xs.length+ys.length)*bytes≤140737488355328∧(match own with| .free=>False|_=>True)
  |_,_=>False
 | .mkz _ bytes x _=>match x.ev sl with
  | .int _ m=>0≤m∧m.toNat*bytes≤140737488355328
  |_=>False
 | .aCu k bytes x y _=>match x.ev sl,y.ev sl with
  | .sl k' .nil [], .int _ m=>k'=k∧0<m∧m.toNat*bytes≤140737488355328
  |_,_=>False
 |_=>False
def jh(h0:Hp)(nx0:Nat)(aAR:List Nat)(aAL:List (Option Blk))(cons:List (Option Con)):Option Con→Prop
 |none=>True
 |some c=>iW h0 nx0 aAR aAL cons c.n c.old
structure DSt where
 sl:List V
 aAL:List (Option Blk)
 cons:List (Option Con)
def aA.aD8(h0:Hp)(nx0:Nat)(o:aA)(s:DSt):gE:=
 match o.g with
 |none=>o.op.aGG s.sl (iV h0 s.cons) (nx0+s.aAL.length)
 |some (t,want)=>match s.sl.getD t Ka with
  | .bool b=>if b=want then o.op.aGG s.sl (iV h0 s.cons) (nx0+s.aAL.length) else ⟨Ka,none,none⟩
  |_=>⟨Ka,none,none⟩
def aA.dok(h0:Hp)(o:aA)(s:DSt):Prop:=
 match o.g with
 |none=>o.op.dok s.sl (iV h0 s.cons)
 |some (t,want)=>match s.sl.getD t Ka with
  | .bool b=>b=want→o.op.dok s.sl (iV h0 s.cons)
  | .tup _=>True
  |_=>False
def rz(dst:Option Nat)(d:gE)(s:DSt):DSt:=⟨bQ s.sl dst d.v,s.aAL++[d.add],s.cons++[d.con]⟩
def eG(h0:Hp)(nx0:Nat):List (aA×List Nat)→DSt→DSt
 | [],s=>s
 |(o,_)::r,s=>eG h0 nx0 r (rz o.dst (o.aD8 h0 nx0 s) s)
def qX(h0:Hp)(nx0:Nat):List (aA×List Nat)→DSt→Prop
 | [],_=>True
 |(o,aAR)::r,s=>o.dok h0 s∧jh h0 nx0 aAR s.aAL s.cons (o.aD8 h0 nx0 s).con∧qX h0 nx0 r (rz o.dst (o.aD8 h0 nx0 s) s)
theorem LOp.aB3{P:Program}{sl:List V}{h0:Hp}{a:Nat}{R:gE→Prop}{l:LOp}(ho:l.dok sl h0)(hR:R (l.aGG sl h0 a)):l.aAx P sl h0 a R:=by
 cases l with
 |val x=>exact bR.aBR (R:=fun v=>R ⟨v,none,none⟩) ho hR
 |box k x=>exact⟨ho,hR⟩
 |aAi k es=>exact⟨ho, .inl hR⟩
 |append k b x y=>
  simp only[LOp.dok,LOp.aGG,Kq] at ho hR⊢;generalize x.ev sl=v at ho hR⊢;generalize y.ev sl=u at ho hR⊢;cases v<;>try (exact ho.elim)
  cases u<;>try (exact ho.elim)
  rename_i kx own xs ky aDi ys;obtain⟨a,b,c,d⟩:=ho;refine⟨a,b,c,?_⟩;cases own<;>simp only at d hR⊢<;>exact hR
 |store t x v=>exact ho.elim
 |mkz k b x z=>
  simp only[LOp.dok,LOp.aGG,Kq] at ho hR⊢;generalize x.ev sl=v at ho hR⊢;cases v<;>first|exact ho.elim|exact⟨ho.1,ho.2, .inl hR⟩
 |aCu k b x y z=>
  simp only[LOp.dok,LOp.aGG,Kq] at ho hR⊢;generalize x.ev sl=v at ho hR⊢;generalize y.ev sl=u at ho hR⊢;split at ho
  ·exact⟨ho.1,ho.2.1,ho.2.2,hR⟩
  exact ho.elim
 |clear k x z=>exact ho.elim
 |aAc f a b=>exact ho.elim
 |mp m=>cases m<;>first|exact hR|exact ho.elim
 |call f args=>exact ho.elim
 |aAe x args=>exact ho.elim
theorem Co{P:Program}{h0:Hp}{nx0:Nat}{o:aA}{aAR:List Nat}{r:List (aA×List Nat)}{s:DSt}{Q:List V→List (Option Blk)→List (Option Con)→Prop}(ho:o.dok h0 s)(hc:jh h0 nx0 aAR s.aAL s.cons (o.aD8 h0 nx0 s).con)
 (h:dI P h0 nx0 r (rz o.dst (o.aD8 h0 nx0 s) s).sl (rz o.dst (o.aD8 h0 nx0 s) s).aAL (rz o.dst (o.aD8 h0 nx0 s) s).cons Q):dI P h0 nx0 ((o,aAR)::r) s.sl s.aAL s.cons Q:=by
 have fin:∀{d:gE},d=o.aD8 h0 nx0 s→(∀c,d.con=some c→iW h0 nx0 aAR s.aAL s.cons c.n c.old)∧dI P h0 nx0 r (bQ s.sl o.dst d.v) (s.aAL++[d.add]) (s.cons++[d.con]) Q:=by
  rintro d rfl;refine⟨fun n hn=>?_,h⟩;rw[hn] at hc;exact hc
 unfold dI fB;unfold aA.dok at ho;unfold aA.aD8 at fin;cases hg:o.g with
 |none=>rw[hg] at ho fin;exact LOp.aB3 ho (fin rfl)
 |some p=>
  obtain⟨t,want⟩:=p;rw[hg] at ho fin;simp only at ho fin⊢;cases hv:s.sl.getD t Ka<;>rw[hv] at ho fin<;>simp only at ho fin⊢<;>first
   |exact ho.elim
   |exact fin rfl
   |(split
     ·rename_i e;exact LOp.aB3 (ho e) (fin (by rw[if_pos e]))
     rename_i e;exact fin (by rw[if_neg e]))
theorem yB{P:Program}{h0:Hp}{nx0:Nat}{Q:List V→List (Option Blk)→List (Option Con)→Prop}{r:List (aA×List Nat)}:∀(l:List (aA×List Nat)) (s:DSt),qX h0 nx0 l s→
 dI P h0 nx0 r (eG h0 nx0 l s).sl (eG h0 nx0 l s).aAL (eG h0 nx0 l s).cons Q→dI P h0 nx0 (l++r) s.sl s.aAL s.cons Q
 | [],_,_,h=>h
 |(o,aAR)::l,s,ho,h=>Co ho.1 ho.2.1 (yB l _ ho.2.2 h)
section
variable{P:Program}{h0:Hp}{nx0:Nat}{Q:List V→List (Option Blk)→List (Option Con)→Prop}{l:List (aA×List Nat)}{r:List (aA×List Nat)}{sl:List V}{aAL:List (Option Blk)}{cons:List (Option Con)}{dst:Option Nat}{aAR:List Nat}
theorem Cn(n:Nat)(ho:qX h0 nx0 (l.take n) ⟨sl,aAL,cons⟩)
 (h:dI P h0 nx0 (l.drop n) (eG h0 nx0 (l.take n) ⟨sl,aAL,cons⟩).sl (eG h0 nx0 (l.take n) ⟨sl,aAL,cons⟩).aAL (eG h0 nx0 (l.take n) ⟨sl,aAL,cons⟩).cons Q):dI P h0 nx0 l sl aAL cons Q:=by
 have:=yB (l.take n) ⟨sl,aAL,cons⟩ ho h;rwa [KR] at this
theorem cG(h:Q sl aAL cons):dI P h0 nx0 [] sl aAL cons Q:=h
theorem bK{f:FuncId}{args:List aP}{hp:Hp}{aAp:List V}{v:V}(p:aY P f aAp hp v)(ha:args.map (aP.ev sl)=aAp)(hh:Kf hp (iV h0 cons))(h:dI P h0 nx0 r (bQ sl dst v) (aAL++[none]) (cons++[none]) Q):dI P h0 nx0 ((⟨dst,none, .call f args⟩,aAR)::r) sl aAL cons Q:=by
 unfold dI fB;exact .inl ⟨v,by rw[ha];exact p.mono hh,(fun n e=>by cases e),h⟩
theorem AE{f:FuncId}{args:List aP}{hp:Hp}{aAp:List V}{k:Sh}{es:List V}(p:sY P f aAp hp k es)(ha:args.map (aP.ev sl)=aAp)(hh:Kf hp (iV h0 cons))(h:dI P h0 nx0 r (bQ sl dst (.sl k (.tok (nx0+aAL.length)) es)) (aAL++[some .tip]) (cons++[none]) Q):dI P h0 nx0 ((⟨dst,none, .call f args⟩,aAR)::r) sl aAL cons Q:=by
 unfold dI fB;exact .inr (.inl ⟨k,es,by rw[ha];exact p.mono hh,(fun n e=>by cases e),h⟩)
theorem iI{f:FuncId}{args fl:List aP}{hp:Hp}{aAp:List V}{v:V}(p:aY P f aAp hp v)(ha:args.map (aP.ev sl)=aAp)(hh:Kf hp (iV h0 cons))(h:dI P h0 nx0 r (bQ sl dst v) (aAL++[none]) (cons++[none]) Q):dI P h0 nx0 ((⟨dst,none, .aAc f args fl⟩,aAR)::r) sl aAL cons Q:=by
 unfold dI fB;exact .inl ⟨v,by rw[ha];exact p.mono hh,(fun n e=>by cases e),h⟩
theorem i7{f:FuncId}{args fl:List aP}{aAp:List V}{c:Option Con}{v:Nat→V}{k:Sh}{es:List V}(p:CI P f aAp (iV h0 cons) c v k es)(ha:args.map (aP.ev sl)=aAp)(hf:∀c',c=some c'→∀x∈fl,∀m k i o,x.ev sl= .ptr m k i o→m≠c'.n)(hc:jh h0 nx0 aAR aAL cons c)
 (h:dI P h0 nx0 r (bQ sl dst (v (nx0+aAL.length))) (aAL++[some (.arr k es)]) (cons++[c]) Q):dI P h0 nx0 ((⟨dst,none, .aAc f args fl⟩,aAR)::r) sl aAL cons Q:=by
 unfold dI fB;exact .inr (.inr ⟨c,v,k,es,by rw[ha];exact p,hf,(fun c' e=>by have e:c=some c':=e;subst e;exact hc),h⟩)
theorem nM{t:Sh}{x v:aP}{n i o:Nat}{k:Sh}{es:List V}(hx:x.ev sl= .ptr n k i o)(hc:iW h0 nx0 aAR aAL cons n (.arr k es))(hi:i<es.length)(hp:dA k t o)(hf:(v.ev sl).fits t=true)
 (h:dI P h0 nx0 r (bQ sl dst Ka) (aAL++[none]) (cons++[some ⟨n, .arr k es,some (.arr k (es.set i (bW t o (es.getD i Ka) (v.ev sl))))⟩]) Q):dI P h0 nx0 ((⟨dst,none, .store t x v⟩,aAR)::r) sl aAL cons Q:=by
 unfold dI fB;simp only[Kq,hx];exact⟨es,hi,hp,hf,(fun c e=>by injection e with e;subst e;exact hc),h⟩
theorem ja{t:Nat}{want b:Bool}{op:LOp}(hb:sl.getD t Ka= .bool b)(h1:b=want→dI P h0 nx0 ((⟨dst,none,op⟩,aAR)::r) sl aAL cons Q)(h2:b≠want→dI P h0 nx0 r (bQ sl dst Ka) (aAL++[none]) (cons++[none]) Q):dI P h0 nx0 ((⟨dst,some (t,want),op⟩,aAR)::r) sl aAL cons Q:=by
 unfold dI fB;simp only[hb];split
 ·rename_i e;have:=h1 e;unfold dI fB at this;exact this
 rename_i e;exact⟨(fun n hn=>by cases hn),h2 e⟩
theorem cF{t:Nat}{want:Bool}{op:LOp}(hb:sl.getD t Ka= .tup [])(h2:dI P h0 nx0 r (bQ sl dst Ka) (aAL++[none]) (cons++[none]) Q):dI P h0 nx0 ((⟨dst,some (t,want),op⟩,aAR)::r) sl aAL cons Q:=by
 unfold dI fB;simp only[hb];exact⟨(fun n hn=>by cases hn),h2⟩
theorem bE{l:List aA}{Qs:St→Prop}{s:St}(n:Nat)(hl:(l.take n).all (fun o=> !o.op.aAs)=true)(ho:rJ (l.take n) s)(h:bF P (l.drop n) Qs (kD (l.take n) s)):bF P l Qs s:=by
 have:=Dr (P:=P) (Q:=fun s=>bF P (l.drop n) Qs s) (l.take n) hl s ho h;have app:∀(a b:List aA) (s:St),bF P a (fun s=>bF P b Qs s) s→bF P (a++b) Qs s:=by
  intro a;induction a with
  |nil=>exact fun b s h=>h
  |cons o a ih=>
   intro b s h;have h':=gY (P:=P) (Q:=fun s=>bF P b Qs s) (Q':=fun s=>bF P b Qs s) (fun _ x=>x) [] s;unfold bF at h;rw[List.cons_append];unfold bF;have runM:=@gY P;revert h;split
   ·rename_i hg;intro h;have:=gY (P:=P) (Q:=fun s'=>bF P a (fun s=>bF P b Qs s) s') (Q':=fun s'=>bF P (a++b) Qs s') (fun s'=>ih b s') [o] s (by unfold bF;rw[hg];exact h);unfold bF at this;rw[hg] at this;exact this
   rename_i t want hg;intro h;have:=gY (P:=P) (Q:=fun s'=>bF P a (fun s=>bF P b Qs s) s') (Q':=fun s'=>bF P (a++b) Qs s') (fun s'=>ih b s') [o] s (by unfold bF;rw[hg];exact h);unfold bF at this;rw[hg] at this;exact this
 have h2:=app _ _ s this;rwa [KR] at h2
def DP(P:Program)(tl:List aA)(n:Nat)(Q:cM→St→Prop)(s:St)(sl:List V)(aAL:List (Option Blk))(cons:List (Option Con)):Prop:=bF P tl (Q .normal) ⟨sl,cj (pW s.h s.nx aAL) cons,s.nx+n⟩
theorem dO{n:Nat}{hd:List (aA×List Nat)}{tl:List aA}{Q:cM→St→Prop}{s:St}(hs:((hd.all fun p=>match p.1.dst with|some d=>decide (d<s.sl.length)|none=>true)&&decide (n=hd.length))=true)(h:dI P s.h s.nx hd s.sl [] [] (DP P tl n Q s)):lwp P (.draw n hd tl) Q s:= .inl ⟨hs,h⟩
theorem pJ{n:Nat}{hd:List (aA×List Nat)}{tl:List aA}{Q:cM→St→Prop}{s:St}(h:DQ P hd tl (Q .normal) s):lwp P (.draw n hd tl) Q s:= .inr h
theorem cW{n:Nat}{Q:cM→St→Prop}{s:St}(h:Q .normal ⟨sl,cj (pW s.h s.nx aAL) cons,s.nx+n⟩):DP P [] n Q s sl aAL cons:=h
end
def iB(res:List pX)(R:V→Hp→Nat→Prop):cM→St→Prop
 | .exit _,_=>False
 |_,s=>qE s res [] fun vs=>∃h',h'.le s.h∧R (mV vs) h' s.nx
theorem aF{P:Program}{f:FuncId}{b:aZ}{nt:Nat}{res:List pX}(hL:aH P f=some ⟨b,nt,res⟩){args:List V}{h:Hp}{nx:Nat}{R:V→Hp→Nat→Prop}
 (hw:(∀m b,h m=some b→m<nx)→lwp P b (iB res R) ⟨args++Kv (nt-args.length) Ka,h,nx⟩):bD P f args h nx R:=
 ma hL fun hd=>nD (fun e s hq=>by cases e<;>exact hq) (hw hd)
theorem aG{t:Nat}{R:V→Hp→Nat→Prop}{s:St}(h':Hp)(hle:h'.le s.h)(hR:R (s.sl.getD t Ka) h' s.nx):iB [.slot t] R .ret s:=⟨h',hle,hR⟩
theorem iO{t u:Nat}{R:V→Hp→Nat→Prop}{s:St}(h':Hp)(hle:h'.le s.h)(hR:R (.tup [s.sl.getD t Ka,s.sl.getD u Ka]) h' s.nx):iB [.slot t, .slot u] R .ret s:=⟨h',hle,hR⟩
theorem rZ{t:Nat}{k:Sh}{R:V→Hp→Nat→Prop}{s:St}(ho:(bR.load k (.slot t)).ok s.sl s.h)(h':Hp)(hle:h'.le s.h)(hR:R ((bR.load k (.slot t)).out s.sl s.h) h' s.nx):iB [.cell t k] R .ret s:=by
 have:=bR.aBR (R:=fun v=>∃h',h'.le s.h∧R (mV [v]) h' s.nx) ho ⟨h',hle,by generalize (bR.load k (.slot t)).out s.sl s.h=x at hR;exact hR⟩;exact this
theorem kM{a b:List V}{h h':Hp}{n n':Nat}(hs:WkL a b)(hh:h'.le h)(hn:n≤n'):Wk ⟨a,h,n⟩ ⟨b,h',n'⟩:=⟨hs,hh,hn⟩
def aB:Nat→Nat→List (Nat×V)→List V
 |0,_,_=>[]
 |n+1,i,[]=> .top::aB n (i+1) []
 |n+1,i,(j,v)::r=>if j=i then v::aB n (i+1) r else .top::aB n (i+1) ((j,v)::r)
theorem tS{h0:Hp}(nx0 j:Nat)(aAR:List Nat)(aAL:List (Option Blk))(cons:List (Option Con))(b:Blk):iW h0 nx0 aAR aAL cons (nx0+j) b=(cS (nx0+j) cons∧j∈aAR∧aAL.getD j none=some b):=by
 unfold iW;apply propext;constructor
 ·rintro⟨h1,⟨h2,_⟩|⟨d,h2,h3,h4⟩⟩
  ·omega
  have:d=j:=or;subst this;exact⟨h1,h2,h4⟩
 rintro⟨h1,h2,h3⟩;exact⟨h1, .inr ⟨j,h2,rfl,h3⟩⟩
theorem ji{h0:Hp}(nx0:Nat)(aAR:List Nat)(aAL:List (Option Blk))(cons:List (Option Con))(b:Blk):iW h0 nx0 aAR aAL cons nx0 b=(cS nx0 cons∧0∈aAR∧aAL.getD 0 none=some b):=by
 have:=tS (h0:=h0) nx0 0 aAR aAL cons b;simpa using this
theorem lN{h0:Hp}{nx0 n:Nat}{aAR:List Nat}{aAL:List (Option Blk)}{cons:List (Option Con)}{b:Blk}(h:n<nx0)(h1:h0 n=some b)(h2:cS n cons):iW h0 nx0 aAR aAL cons n b:=⟨h2, .inl ⟨h,h1⟩⟩
theorem bd{a b:Nat}(h:a≠b):(a=b)=False:=eq_false h
theorem Ez{a k:Nat}:(a=a+(k+1))=False:=bd or
theorem Bd{a k:Nat}:(a+(k+1)=a)=False:=bd or
theorem mP(a b:V):Kj true a b=a:=by unfold Kj;split<;>simp
theorem lL(a b:V):Kj false a b=b:=by unfold Kj;split<;>simp
theorem tG(t x y:Bool):Kj t (.bool x) (.bool y)= .bool (if t then x else y):=rfl
theorem aJ{h:Hp}{nx:Nat}(hd:∀m b,h m=some b→m<nx){h':Hp}(hle:h.le h'){n:Nat}(hn:nx≤n)(b:Blk):h.le (h'.set n b):=fun m c e=>by
 have:=hd m c e;unfold Kb;rw[if_neg or];exact hle m c e
theorem aL{h:Hp}{nx:Nat}(hd:∀m b,h m=some b→m<nx){h':Hp}(hle:h.le h'){n:Nat}(hn:nx≤n):h.le (h'.del n):=fun m c e=>by
 have:=hd m c e;unfold Kk;rw[if_neg or];exact hle m c e
theorem bB{n:Int}(h1:-9223372036854775808≤n)(h2:n≤9223372036854775807):IntKind.i64.wrap n=n:=IntWalk.i64_in n ⟨h1,h2⟩
end Go.Proofs.YtecepaehmojpgaaGreat
