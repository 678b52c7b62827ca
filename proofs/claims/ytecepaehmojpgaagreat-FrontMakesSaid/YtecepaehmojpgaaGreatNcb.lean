/-
Texts of this proof,one behind the other. No conditions.
-/
import Derived.Test.YtecepaehmojpgaaGreatNc
import Derived.RangeFuncNested
import Derived.RangeFuncCalls
import Derived.RangeFuncLeaves
open Go.Proofs.YtecepaehmojpgaaGreat.V renaming undef→Ka,pick→Kj
open Go.Proofs.YtecepaehmojpgaaGreat.Hp renaming set→Kb,has→Kf,del→Kk
open Go.Proofs.YtecepaehmojpgaaGreat.LOp renaming run→Kc,sem→Kd,aAq→Kq
open List renaming getD_eq_getElem?_getD→Ke,getElem?_eq_getElem→Km,mem_range→Ko,range→Kp,all_eq_true→Kt,replicate→Kv,getElem?_append_right→Kz,getElem?_append_left→KB,getElem?_drop→KD,eq_nil_of_length_eq_zero→KI,exists_mem_of_ne_nil→KL,filter_eq_nil_iff→KO,mem_filter→KP,nodup_cons→KQ,take_append_drop→KR,filter_eq_self→KS,mem_map→KV,length_cons→KW,nodup_range→KX,getElem_mem→KY,ext_getElem→KZ,nil_append→Qb,mem_cons→Qf
open Bool renaming and_eq_true→Kg,or_eq_true→KH,not_true→Qd,false_or→Qe
open Array renaming getD_eq_getD_getElem?→Kh,getElem?_eq_getElem→Ki,getElem?_eq_some_iff→Ku,replicate→Ky,getD→KF,mem_toList_iff→KG,ext→Qi
open Option renaming map_eq_some_iff→Ks,bind_eq_some_iff→KE,getD_some→Qa
open Nat renaming le_refl→Kw,lt_of_lt_of_le→KK,lt_or_ge→KN,lt_irrefl→KT,zero_add→KU,add_assoc→Qc,add_comm→Qg,le_trans→Qh
open Go.World renaming putObj_heap_other→Kx
open Go renaming undef→KC
open Go.Sem renaming run_bind→KJ
open Go.Instr renaming sureAddr→KM
set_option linter.unusedSimpArgs false
set_option linter.unusedVariables false
set_option linter.unusedSectionVars false
set_option maxHeartbeats 8000000
namespace Go.Proofs.YtecepaehmojpgaaGreat
open Go.RowKit
section
variable{P:Program}{ops:Array Oper}{n:Nat}{w0:Bool}{l:List (aA×List Nat)}{s:St}{res:List fX}{K0:Ker}
theorem qM{rd:Option Nat}{mm:Nat}{md:Region.Mode}{Q':Exit→Act→World→Prop}:∀(l:List Oper) (k:Nat) (aAB:Array Bool) (a:Act) (w:World),(∀j,l[j]?=ops[k+j]?)→
 Region.seqB md ops l.length k aAB=true→wpListIn (FR rd) mm P ops Q' l a w→wpAnyIn (FR rd) mm P md ops Q' l.length aAB a w
 | [],_,_,_,_,_,hB,h=>⟨by simpa [Region.seqB] using hB,h⟩
 |o::l,k,aAB,a,w,hl,hB,h=>by
  have h0:ops[k]?=some o:=by simpa using(hl 0).symm
  simp only[KW,Region.seqB,Kg,decide_eq_true_eq] at hB;refine⟨fun h1=>(by rw[hB.1] at h1;cases h1),fun i hi=>?_⟩;rw[hB.1] at hi;have hik:i=k:=by simpa using hi
  subst hik;have hw:wpOpIn (FR rd) mm P ops Q' i (wpListIn (FR rd) mm P ops Q' l) a w:=by unfold wpOpIn;simp only[h0];exact h
  exact wpOpIn_mono (fun a' w' h'=>qM l (i+1) _ a' w' (fun j=>by have:=hl (j+1);simpa [Qc,Qg 1 j] using this) hB.2 h') hw
theorem BI(hB:qH ops n l=true)(hl:eD P ops n w0 0 (ops.toList.take n)=some l)(aBT:∀j t,j<n→iO ops j=some t→t<s.sl.length)(ht:uj P s.h s.nx l s.sl res)(aMx:∀m,K0.live m→m<s.nx)(aBb:∀m b,s.h m=some b→m<s.nx)
 {ds:List Deferred} {rd:Option Nat} {mm:Nat} {Q:Exit→Act→World→Prop} (aEg:∀aAB a w,AY ops n res s K0 ds aAB a w→(∀j,j<n→aAB.getD j false=true)→wpListIn (FR rd) mm P ops Q (ops.toList.drop n) a w):
 ∀(f:Nat) (aAB:Array Bool) (a:Act) (w:World),f=((Kp n).filter fun i=> !aAB.getD i true).length→AY ops n res s K0 ds aAB a w→wpAnyIn (FR rd) mm P .any ops Q (f+(ops.size-n)) aAB a w:=by
 have hB':=hB;simp only[qH,Kg,Kt,Ko,KH,decide_eq_true_eq] at hB';obtain⟨⟨⟨⟨aMt,aA8⟩,aIq⟩,aGl⟩,aDt⟩:=hB';have aEZ:n≤ops.size:=by rcases aA8 with h|⟨⟨h,_⟩,_⟩<;>omega
 intro f;induction f with
 |zero=>
  intro aAB a w hf inv;have aAu:∀i,i<n→aAB.getD i true=true:=by
   intro i hi;have hz:=KI hf.symm;rw[KO] at hz;have:=hz i (Ko.2 hi);simpa using this
  have aHu:∀j,j<n→aAB.getD j false=true:=by
   intro j hj;have:=aAu j hj;have hjs:j<aAB.size:=by rw[inv.head.size];omega
   simp only[KF,hjs,dif_pos] at this⊢;exact this
  have aHj:aAB=((Kp ops.size).map (fun i=>decide (i<n))).toArray:=by
   apply Qi
   ·simp[inv.head.size]
   intro i h1 h2;have hi:i<ops.size:=by simpa [inv.head.size] using h1
   by_cases hin:i<n
   ·have:=aAu i hin;rw[Kh,Ki h1] at this;simpa [hin] using this
   have:=inv.head.tail i or hi;rw[Kh,Ki h1] at this;simpa [hin] using this
  have h:=aEg aAB a w inv aHu;have hl:(ops.toList.drop n).length=ops.size-n:=Zm;rw[KU];have:=qM (rd:=rd) (mm:=mm) (P:=P) (md:= .any) (Q':=Q) (ops.toList.drop n) n aAB a w (fun j=>by simp[KD]) (by rw[hl,aHj];exact aIq) h;rwa [hl] at this
 |succ f ih=>
  intro aAB a w hf inv;have hex:∃i,i<n∧aAB.getD i true=false:=by
   have hne:((Kp n).filter fun i=> !aAB.getD i true)≠ []:=by intro h;rw[h] at hf;simp at hf
   obtain⟨i,hi⟩:=KL _ hne;rw[KP,Ko] at hi;exact⟨i,hi.1,by simpa using hi.2⟩
  obtain⟨i0,hi0,aJE⟩:=hex;have aHo:∀j∈Region.ready .any ops aAB,j<n:=by
   intro j hj;rcases aA8 with h|⟨⟨h,hs⟩,hc⟩
   ·obtain⟨_,o,ho,_⟩:=mem_ready.1 hj;have:=(Ku.1 ho).1;omega
   rcases KN j n with h'|h'
   ·exact h'
   exact absurd hj (tail_waits hs hc h inv.head _ i0 rfl hi0 aJE j h')
  have aBc:∀k,k<n→aAB.getD k true=false→(∀j,j<k→aAB.getD j true=true)→k∈Region.ready .any ops aAB:=by
   intro k hk hun hlt;have ho:=aGl k hk;have hok:ops[k]?=some (ops[k]'or):=Ki or;rw[hok] at ho;refine mem_ready.2 ⟨hun,_,hok,fun e he hb=>?_⟩;cases hlk:l[k]? with
   |none=>simp[hlk] at ho
   |some q=>
    obtain⟨lo,aAP⟩:=q;simp only[hlk,Kg,Kt] at ho;have h:=ho.1.1.1 e (KG.2 he);simp only[hb,Qd,Qe,decide_eq_true_eq] at h;have h2:=hlt e.on h;have hs:e.on<aAB.size:=by rw[inv.head.size];omega
    rw[Kh,Ki hs] at h2⊢;exact h2
  have aCc:Region.ready .any ops aAB≠ []:=by
   have least:∀k,k≤i0→(∀j,j<k→aAB.getD j true=true)→∃i,i<n∧i∈Region.ready .any ops aAB:=by
    intro k hk;induction hd:i0-k generalizing k with
    |zero=>
     intro hl;have hki:k=i0:=or;subst hki;exact⟨k,hi0,aBc k hi0 aJE hl⟩
    |succ d ihd=>
     intro hl;by_cases hu:aAB.getD k true=true
     ·exact ihd (k+1) or or (fun j hj=>by
       by_cases hjk:j=k
       ·subst hjk;exact hu
       exact hl j or)
     exact⟨k,or,aBc k or (by simpa using hu) hl⟩
   obtain⟨i,_,hi⟩:=least 0 or (fun j hj=>or);intro h;rw[h] at hi;cases hi
  rw[show f+1+(ops.size-n)=(f+(ops.size-n))+1 by omega];refine⟨fun h=>absurd h aCc,fun i hi=>?_⟩;have hin:=aHo i hi;obtain⟨hun,o,ho,_⟩:=mem_ready.1 hi;refine AI hB hl aBT ht inv aMx aBb hin hi fun a' w' aIn=>ih _ a' w' ?_ aIn;have aJZ:i<aAB.size:=by rw[inv.head.size];exact(Ku.1 ho).1
  have:=rJ (fun x=> !aAB.getD x true) (fun x=> !(aAB.setIfInBounds i true).getD x true) i (by simpa using hun) (by simp[KF,aJZ]) (fun x hx=>by rw[getD_set_ne true (fun e=>hx e.symm)]) (Kp n) KX (Ko.2 hin);omega
end
theorem xK{P:Program}{ops:Array Oper}{K0:Ker}{nx0:Nat}{Q:Exit→Act→World→Prop}{Qs:St→Prop}(hQ:∀K s a,lX K0 K nx0 s a→Qs s→Q .normal a K.w){rd:Option Nat}{mm:Nat}:
 ∀(l:List Oper) (ls:List aA) (k:Nat),dO P ops l=some ls→(∀j,l[j]?=ops[k+j]?)→∀(K:Ker) (s:St) (a:Act),lX K0 K nx0 s a→bB P ls Qs s→wpListIn (FR rd) mm P ops Q l a K.w
 | [],ls,k,hl,hi,K,s,a,hr,h=>by
  simp[dO] at hl;subst hl;exact hQ K s a hr h
 |o::l,ls,k,hl,hi,K,s,a,hr,h=>by
  unfold dO at hl;obtain⟨lo,h1,hl⟩:=KE.1 hl;obtain⟨lr,h2,rfl⟩:=Ks.1 hl;have h0:ops[k]?=some o:=by simpa using(hi 0).symm
  have hw:wpOpIn (FR rd) mm P ops Q k (wpListIn (FR rd) mm P ops Q l) a K.w:=by
   refine tT h0 h1 hr (bB P lr Qs) (fun K' s' a' hr' hq=>xK hQ l lr (k+1) h2 (fun j=>by have:=hi (j+1);simpa [Qc,Qg 1 j] using this) K' s' a' hr' hq) ?_;unfold bB at h;exact h
  unfold wpOpIn at hw;simp only[h0] at hw;exact hw
theorem xJ:∀(cons:List (Option Con)) (h:Hp) (m:Nat) (b:Blk),zS h cons m=some b→(∃c,some c∈cons∧c.n=m∧c.new=some b)∨((∀c,some c∈cons→c.n≠m)∧h m=some b)
 | [],h,m,b,e=> .inr ⟨Zm,e⟩
 |none::r,h,m,b,e=>by
  rcases xJ r h m b e with⟨c,h1,h2⟩|⟨h1,h2⟩
  ·exact .inl ⟨c,by simp[h1],h2⟩
  exact .inr ⟨fun c hc=>h1 c (by simpa using hc),h2⟩
 |some c0::r,h,m,b,e=>by
  rcases xJ r (h.aBO (some c0)) m b e with⟨c,h1,h2⟩|⟨h1,h2⟩
  ·exact .inl ⟨c,by simp[h1],h2⟩
  by_cases hm:m=c0.n
  ·subst hm;refine .inl ⟨c0,Zm,rfl,?_⟩;unfold Hp.aBO at h2;cases hn:c0.new with
   |none=>simp[hn,Kk] at h2
   |some b'=>simpa [hn,Kb] using h2
  refine .inr ⟨fun c hc=>?_,?_⟩
  ·rcases Qf.1 hc with e1|e1
   ·injection e1 with e1;subst e1;exact fun e=>hm e.symm
   exact h1 c e1
  unfold Hp.aBO at h2;cases hn:c0.new with
  |none=>simpa [hn,Kk,hm] using h2
  |some b'=>simpa [hn,Kb,hm] using h2
theorem vD:∀(aAL:List (Option Blk)) (h:Hp) (a m:Nat) (b:Blk),oU h a aAL m=some b→(∃i,m=a+i∧aAL.getD i none=some b)∨h m=some b
 | [],h,a,m,b,e=> .inr e
 |none::r,h,a,m,b,e=>by
  rcases vD r h (a+1) m b e with⟨i,e1,e2⟩|h1
  ·exact .inl ⟨i+1,or,by simpa using e2⟩
  exact .inr h1
 |some c::r,h,a,m,b,e=>by
  rcases vD r (h.set a c) (a+1) m b e with⟨i,e1,e2⟩|h1
  ·exact .inl ⟨i+1,or,by simpa using e2⟩
  unfold Kb at h1;split at h1
  ·rename_i hm;exact .inl ⟨0,or,by simpa using h1⟩
  exact .inr h1
theorem xi{P:Program}{id:Nat}{ops:Array Oper}{n:Nat}{w0:Bool}{l:List (aA×List Nat)}{tl:List aA}(hm:P.follows .mixedOrders=true)(hB:qH ops n l=true)(hl:eD P ops n w0 0 (ops.toList.take n)=some l)(htl:dO P ops (ops.toList.drop n)=some tl)
 {K0 K:Ker} {nx0:Nat} {s:St} {a:Act} (hr:lX K0 K nx0 s a) {Q:Exit→Act→World→Prop} {Qs:St→Prop} (hQ:∀K s a,lX K0 K nx0 s a→Qs s→Q .normal a K.w)
 (aBT:(l.all fun p=>match p.1.dst with|some d=>decide (d<s.sl.length)|none=>true)=true)
 (h:dC P s.h s.nx l s.sl [] [] fun sl aAL cons=>bB P tl Qs ⟨sl,zS (oU s.h s.nx aAL) cons,s.nx+n⟩) {rd:Option Nat} {mm:Nat}:(Code.region id ops true).wpIn (FR rd) mm P Q a K.w:=by
 obtain⟨res,ht,aBr⟩:=ew [] l s.sl [] ⟨rfl,fun i o aAP d hi=>by simp at hi,fun i o aAP d n hi=>by simp at hi⟩ (by simpa using h);simp only[Qb] at ht aBr;have hB':=hB;simp only[qH,Kg,Kt,Ko,KH,decide_eq_true_eq] at hB';obtain⟨⟨⟨⟨aMt,aA8⟩,aIq⟩,aGl⟩,aDt⟩:=hB';have aEZ:n≤ops.size:=by rcases aA8 with h|⟨⟨h,_⟩,_⟩<;>omega
 obtain⟨hll,hlg⟩:=iX _ _ _ hl;have hln:l.length=n:=by rw[hll];simp;omega
 have hrn:res.length=n:=by rw[ht.len,hln]
 have aHs:∀i j t,i<n→j<n→iO ops i=some t→iO ops j=some t→i=j:=fun i j t hi hj e e'=>by
  rcases aDt i hi j hj with h|h
  ·rcases h with h|h
   ·simpa using h
   rw[e] at h;cases h
  rw[e,e'] at h;simp at h
 have aJX:∀j lo aAP,l[j]?=some (lo,aAP)→lo.dst=iO ops j:=fun j lo aAP hj=>(dj aEZ hl j lo aAP hj).1;have hsl:∀j t,j<n→iO ops j=some t→t<s.sl.length:=by
  intro j t hj hjt;have hlj:l[j]?=some (l[j]'or):=Km or;have h1:=aJX j (l[j]'or).1 (l[j]'or).2 hlj;have h2:=Kt.1 aBT (l[j]'or) (KY _);rw[h1,hjt] at h2;simpa using h2
 refine wpIn_region_any hm ?_;have hdr:=K.aAk;have inv:AY ops n res s K.drew a.defers (Ky ops.size false) a K.drew.w:=by
  refine⟨⟨Zm,fun j oj _ hl=>(by rw[getD_replicate_false] at hl;cases hl),fun t _ ht=>getD_in (by simpa using ht) (getD_replicate_false _ _)⟩,hr.aAF.1.symm,⟨K.drew,s.sl,s.h,rfl, .refl _,hr.aAF.mono hdr,hr.rel.drew,fun m hm=> .inl hm,?_,?_⟩,rfl⟩
  ·exact⟨rfl,(fun j t _ hl=>by rw[getD_replicate_false] at hl;cases hl),fun t _=>rfl⟩
  exact⟨fun m _ _=>rfl,(fun i _ hl=>by rw[getD_replicate_false] at hl;cases hl),(fun j c _ hl=>by rw[getD_replicate_false] at hl;cases hl)⟩
 have h:=BI (rd:=rd) (mm:=mm) (Q:=Q) hB hl hsl ht (K0:=K.drew) (fun m hm=>(hr.live m hm).1) (fun m b hm=>(hr.live m (hr.rel.lt m b hm)).1) ?_ n (Ky ops.size false) a K.drew.w ?_ inv
 ·rw[show n+(ops.size-n)=ops.size by omega] at h;exact h
 ·--behind the head
  intro aAB a' w' aIn aAu;obtain⟨K',sl,hh,rfl,hle,aTq,aAS,aCf,hsa,hha⟩:=aIn.ex;have aB8:=tN (ops:=ops) (sl0:=s.sl) hln hrn aJX hsl aHs n (Kw _);have hzl:(l.zip res).length=n:=by simp[hln,hrn]
  rw[List.take_of_length_le or] at aB8;have aNG:sl=(l.zip res).foldl (fun sl p=>bN sl p.1.1.dst p.2.v) s.sl:=by
   have hlen:sl.length=((l.zip res).foldl (fun sl p=>bN sl p.1.1.dst p.2.v) s.sl).length:=by rw[hsa.len,aB8.len]
   apply KZ hlen;intro t h1 h2;have:sl.getD t Ka=((l.zip res).foldl (fun sl p=>bN sl p.1.1.dst p.2.v) s.sl).getD t Ka:=by
    by_cases hex:∃j,j<n∧iO ops j=some t
    ·obtain⟨j,hj,hjt⟩:=hex;rw[hsa.val j t hj (aAu j hj) hjt,aB8.val j t hj hj hjt]
    rw[hsa.frame t (fun j hj _ e=>hex ⟨j,hj,e⟩),aB8.frame t (fun j hj _ e=>hex ⟨j,hj,e⟩)]
   rw[Ke,Ke,Km h1,Km h2] at this;exact this
  have aNi:∀m b,s.h m=some b→m<s.nx:=fun m b hm=>(hr.live m (hr.rel.lt m b hm)).1;have aJS:∀c,some c∈res.map (·.con)↔∃j,j<n∧(res.getD j .none).con=some c:=by
   intro c;constructor
   ·intro hc;obtain⟨d,hd,hdc⟩:=KV.1 hc;obtain⟨j,hj,rfl⟩:=List.getElem_of_mem hd;refine⟨j,or,?_⟩;rw[Ke,Km hj];exact hdc
   rintro⟨j,hj,hc⟩;refine KV.2 ⟨res.getD j .none,?_,hc⟩;rw[Ke,Km or];exact KY _
  have hhp:(zS (oU s.h s.nx (res.map (·.add))) (res.map (·.con))).le hh:=by
   intro m b hm;rcases xJ _ _ _ _ hm with⟨c,hc,rfl,aCe⟩|⟨hnc,hm⟩
   ·obtain⟨j,hj,hjc⟩:=(aJS c).1 hc;rw[hha.wrt j c hj (aAu j hj) hjc];exact aCe
   have hno:∀j c,j<n→aAB.getD j false=true→(res.getD j .none).con=some c→c.n≠m:=fun j c hj _ hc=>hnc c ((aJS c).2 ⟨j,hj,hc⟩);rcases vD _ _ _ _ _ hm with⟨i,rfl,h3⟩|h3
   ·have aGo:i<n:=by
     rcases KN i n with h|h
     ·exact h
     rw[Ke,List.getElem?_eq_none (by simp[hrn];exact h)] at h3;cases h3
    rw[hha.new i aGo (aAu _ aGo) hno];simp only[Ke,List.getElem?_map] at h3⊢;rw[Km or] at h3⊢;exact h3
   rw[hha.old m (aNi m b h3) hno];exact h3
  refine xK hQ (ops.toList.drop n) tl n htl (fun j=>by simp[KD]) K' ⟨_,_,s.nx+n⟩ a' ⟨hr.le.trans (hdr.trans hle),?_,aAS.weaken hhp,?_,?_,(by show rR _ _ a'.defers;rw[aIn.defers];exact hr.defers.kept (hdr.trans hle).below)⟩ aBr
  ·show fY K' _ a';rw[←aNG];exact aTq
  ·intro m hm;show m<s.nx+n∧_;rcases aCf m hm with e2|⟨i,hi,e3,_⟩
   ·have:=hr.live m e2;exact⟨or,this.2⟩
   exact⟨or, .inr (by have:=hr.nx;omega)⟩
  show nx0≤s.nx+n;have:=hr.nx;omega
 have e:(Kp n).filter (fun i=> !(Ky ops.size false).getD i true)=Kp n:=by
  rw[KS];intro x hx;have:x<ops.size:=by have:=Ko.1 hx;omega
  simp[KF,this]
 rw[e];simp
section
variable{F:Fence}{n:Nat}{P:Program}
def lP(fn:FuncId)(tmps:Array Value)(ps:Array Tmp)(assign body:Code)(D:Nat)(st:LoopState)(pe:Option Code):Loop:=
 {state:=st,pending:=pe,fn,tmps,params:=ps,assign,body,defers:=D}
theorem gh{g:Operand}{ps:Array Tmp}{assign body:Code}{Q:Exit→Act→World→Prop}{a:Act}{w:World}
 (hro:F.round=none) (h1:F.depth.isSome=true→1≤n) {gf:Nat} {lb:Array Value} (hg:a.eval g= .func (.func gf) #[] lb) (hFg:F.fn gf) (eg:∀args w,(callFunc gf args).run P w= .ok (.enter gf args) w)
 (h:∀fn,F.fn fn→CallsIn F (n-1) P gf (#[.func (.yield (w.heap.size+1)) #[] #[]]++lb)
   ((w.alloc (.deferred (some []))).alloc (.loop (lP fn a.tmps ps assign body w.heap.size .ready none))) fun e W2=>(∃v,e= .returned v)∧
   ((W2.heap[w.heap.size+1]?=some (.loop (lP fn a.tmps ps assign body w.heap.size .ready none))∧
      Q .normal {a with defers:={target:= .collected w.heap.size,args:=#[]}::a.defers} (W2.putObj (w.heap.size+1) (.loop (lP fn a.tmps ps assign body w.heap.size .exhausted none))))∨
    (∃c,W2.heap[w.heap.size+1]?=some (.loop (lP fn a.tmps ps assign body w.heap.size .done (some c)))∧
      c.wpIn F n P Q {a with defers:={target:= .collected w.heap.size,args:=#[]}::a.defers} (W2.putObj (w.heap.size+1) (.loop (lP fn a.tmps ps assign body w.heap.size .exhausted (some c))))))):
 (Code.rangeFunc g ps assign body).wpIn F n P Q a w:=by
 refine wpIn_rangeFunc ?_;intro fn hfn;rw[hro];let W1:=(w.alloc (.deferred (some []))).alloc (.loop (lP fn a.tmps ps assign body w.heap.size .ready none))
 refine⟨w.heap.size+1,[{target:= .collected w.heap.size,args:=#[]}],W1,{target:= .fn (.func gf) lb,args:=#[.func (.yield (w.heap.size+1)) #[] #[]]},W1,gf,
  #[.func (.yield (w.heap.size+1)) #[] #[]]++lb,W1,run_enterLoop_outer _ _ _ _ _,?_,?_,?_,h1,?_⟩
 ·simp only[resolve,hg];simp[go_sem]
 ·intro f' hf';simp[Target.leads] at hf';subst hf';exact hFg
 ·simp[invoke,go_sem,eg]
 refine(h fn hfn).mono ?_;rintro e W2 ⟨⟨v,rfl⟩,(⟨hl,hq⟩|⟨c,hl,hq⟩)⟩
 ·exact⟨none,_,by have:=run_endLoop (P:=P) hl (by simp[lP]);exact this,hq⟩
 exact⟨some c,_,by have:=run_endLoop (P:=P) hl (by simp[lP]);exact this,hq⟩
def u9(l:Nat)(rcd:LoopState→Option Code→Obj)(R:Ending→World→Prop):Exit→Act→World→Prop
 | .normal,_,W=>W.heap[l]?=some (rcd .busy none)∧R (.returned (.bool true)) (W.putObj l (rcd .ready none))
 | .ret,_,W=>W.heap[l]?=some (rcd .busy none)∧R (.returned (.bool false)) (W.putObj l (rcd .done (some .ret)))
 | .exit id,_,W=>W.heap[l]?=some (rcd .busy none)∧R (.returned (.bool false)) (W.putObj l (rcd .done (some (.exit id))))
 |_,_,_=>False
theorem oq{l:Nat}{fn:FuncId}{tmps:Array Value}{ps:Array Tmp}{assign body:Code}{D:Nat}{args:Array Value}{W:World}{R:Ending→World→Prop}{m:Nat}
 (hF:F.fn fn) (hl:W.heap[l]?=some (.loop (lP fn tmps ps assign body D .ready none))) (hsz:args.size=ps.size)
 (h:assign.wpIn (F.inRound l) m P (Exit.then (fun a₁ W₁=>W₁.heap[l]?=some (.loop (lP fn tmps ps assign body D .ready none))∧
   body.wpIn (F.inRound l) m P (u9 l (fun st pe=> .loop (lP fn tmps ps assign body D st pe)) R) a₁ (W₁.putObj l (.loop (lP fn tmps ps assign body D .busy none)))) (fun _ _ _=>False))
   {tmps:=(ps.zip args).foldl (fun t (p,v)=>t.setIfInBounds p v) tmps,defers:=[]} W):
 YieldAt F m P l args W R:=by
 refine⟨fn,_,assign,body,run_yield (P:=P) (args:=args) hl hsz,roundIn_of_wpIn hF ?_⟩;refine wpIn_mono h ?_;rintro e a₁ W₁ he;cases e with
 |normal=>
  obtain⟨hl1,hb⟩:=he;refine⟨_,run_beginRound hl1 rfl,?_⟩;refine wpIn_mono hb ?_;rintro e a₂ W₂ he;cases e with
  |normal=>exact⟨_,_,run_endRound none he.1,he.2⟩
  |ret=>exact⟨_,_,run_endRound (some .ret) he.1,he.2⟩
  |exit id=>exact⟨_,_,run_endRound (some (.exit id)) he.1,he.2⟩
  |goto t=>exact he.elim
  |panic ch=>exact he.elim
  |outgrown=>exact he.elim
 |exit id=>exact he.elim
 |goto t=>exact he.elim
 |ret=>exact he.elim
 |panic ch=>exact he.elim
 |outgrown=>exact he.elim
end
def Ker.more(K:Ker)(o:Obj):Ker:={K with w:=K.w.alloc o}
theorem Ker.aES(K:Ker)(o:Obj):K.le (K.more o) where
 live _ h:=h
 mu _ _:=rfl
 tp _ _:=rfl
 fro:=rfl
 imm _ _:=Kw _
 cell b o' hlt _:=kR (fI _ _ _ hlt)
 shape b hlt:=nQ (fI _ _ _ hlt)
 below:=oX.alloc _ o
theorem Rel.more{K:Ker}{h:Hp}(r:Rel K h)(o:Obj):Rel (K.more o) h:=r.aBP (K.aES o) fun _ b e=>⟨fI _ _ _ (r.blk _ b e).lt_size,rfl⟩
theorem BR.aEO{K:Ker}{n:Nat}{o:Obj}{U:Ker→Prop}(r:BR K n (.obj o U)):K.w.heap[K.mu n]?=some o∧jY o=true∧U K∧∀A B:Ker,A.leV B→U A→U B:=by
 cases r with
 |obj _ _ hh ho hu hU=>exact⟨hh,ho,hu,hU⟩
theorem Rel.setObj{K:Ker}{h:Hp}(r:Rel K h){n:Nat}{o o0:Obj}{U:Ker→Prop}(hn:h n=some (.obj o0 U))(ho:jY o=true):K.le (K.obj (K.mu n) o)∧Rel (K.obj (K.mu n) o) (h.set n (.obj o U)):=by
 obtain⟨h1,h2,h3,h4⟩:=(r.blk n _ hn).aEO;have hle:=K.aGf h1 (kL h2) (kL ho) (r.base n _ hn) (nH h1 h2);exact r.aEM hn h1 h2 ho (.obj o U (World.putObj_heap_same (Ku.1 h1).1) ho (h4 _ _ hle.toV h3) h4)
theorem xp(h:Hp)(n:Nat)(b:Blk):(h.del n).le (h.set n b):=fun m c e=>by
 unfold Kk at e;split at e
 ·cases e
 rename_i hm;unfold Kb;rw[if_neg hm];exact e
def aAw(sl:List V):List Nat→List V→List V
 |p::ps,v::vs=>aAw (sl.set p v) ps vs
 |_,_=>sl
theorem fY.aA1{K K':Ker}(h:K.leV K'){sl:List V}{a:Act}(r:fY K sl a):fY K' sl a:=⟨r.1,fun t=>(r.2 t).aA1 h⟩
theorem fY.aAw{K:Ker}{ds:List Deferred}:∀(ps:List Nat) (args:List V) (aAK:List Value) (sl:List V) (tm:Array Value),fY K sl ⟨tm,ds⟩→args.length=aAK.length→(∀i,i<args.length→VR K (args.getD i Ka) (aAK.getD i KC))→
 fY K (aAw sl ps args) ⟨(ps.zip aAK).foldl (fun t p=>t.setIfInBounds p.1 p.2) tm,ds⟩
 | [],args,aAK,sl,tm,hs,_,_=>by cases args<;>simpa [Go.Proofs.YtecepaehmojpgaaGreat.aAw] using hs
 |p::ps,[],aAK,sl,tm,hs,hl,_=>by
  have:aAK=[]:=by cases aAK with
   |nil=>rfl
   |cons=>simp at hl
  subst this;simpa [Go.Proofs.YtecepaehmojpgaaGreat.aAw] using hs
 |p::ps,v::vs,[],sl,tm,hs,hl,_=>by simp at hl
 |p::ps,v::vs,cv::cvs,sl,tm,hs,hl,hv=>by
  have h1:fY K (sl.set p v) ⟨tm.setIfInBounds p cv,ds⟩:=hs.put (dst:=some p) (by simpa using hv 0 Zm);have:=fY.aAw ps vs cvs (sl.set p v) (tm.setIfInBounds p cv) h1 (by simpa using hl) (fun i hi=>by simpa using hv (i+1) (by simpa using hi));simpa [Go.Proofs.YtecepaehmojpgaaGreat.aAw] using this
def vN:List Nat→World→World
 | [],w=>w
 |D::Ds,w=>vN Ds (w.putObj D (.deferred none))
theorem pM{P:Program}{fn:Func}{tmps:Array Value}{R:Ending→World→Prop}:∀(Ds:List Nat) (w:World),Ds.Nodup→(∀D∈Ds,hZ w D)→(∃v,(results fn tmps).run P (vN Ds w)= .ok v (vN Ds w)∧R (.returned v) (vN Ds w))→
 LeavesInM Fence.wide 4 P fn tmps R (Ds.map fun D=>{target:= .collected D,args:=#[]}) .returning w
 | [],w,_,_,h=>h
 |D::Ds,w,hnd,hm,h=>by
  have aJR:=KQ.1 hnd;refine⟨Zm, .inl ⟨D,_,rfl,run_takeDeferred (hm D Zm),?_⟩⟩;refine pM Ds _ aJR.2 (fun E hE=>?_) h;have hne:E≠D:=fun e=>aJR.1 (e▸hE);exact(Kx hne).trans (hm E (by simp[hE]))
theorem bo{K:Ker}:∀(Ds:List Nat) (w:World) (K1:Ker),K1.w=w→(∀D∈Ds,hZ w D)→Ds.Nodup→K.le K1→(∀D∈Ds,K.w.heap.size≤D)→(∀b,K.fro b→b<K.w.heap.size)→∀{h:Hp},Rel K1 h→
 ∃K2,K2.w=vN Ds w∧K1.leV K2∧K.le K2∧Rel K2 h∧K2.live=K1.live
 | [],w,K1,hw,_,_,hle,_,_,h,hr=>⟨K1,hw, .refl _,hle,hr,rfl⟩
 |D::Ds,w,K1,hw,hm,hnd,hle,hB,hF,h,hr=>by
  subst hw;have aJR:=KQ.1 hnd;have hmD:=hm D Zm;have hBD:=hB D Zm;have hV:=K1.aB7 (o:= .deferred none) hmD rfl rfl;have aF7:K.le (K1.obj D (.deferred none)):=by
   refine⟨fun n hn=>hle.live n hn,hle.mu,hle.tp,hle.fro,hle.imm,fun b o hb hst=>(hV.cell b o (KK hb hle.below.size) (hle.still hb hst)).trans (hle.cell b o hb hst),fun b hb=>(hV.shape b (KK hb hle.below.size)).trans (hle.shape b hb),?_⟩;exact⟨hle.below.os,hle.below.tape,hle.below.output,hle.below.drawn,Qh hle.below.size hV.size,fun b hb hk=>(Kx or).trans (hle.below.block b hb hk)⟩
  have hr':Rel (K1.obj D (.deferred none)) h:=hr.aJC hV fun n b e=>by
   refine⟨Kx ?_,rfl⟩;intro e2;have hb:=hr.blk n b e;unfold hZ at hmD;rw[←e2] at hmD;cases hb with
   |arr k es c T hh=>rw[hh] at hmD;cases hmD
   |tip c T hh=>rw[hh] at hmD;cases hmD
   |obj o U hh ho=>rw[hh] at hmD;injection hmD with hmD;subst hmD;cases ho
   |mp es c ces hh=>rw[hh] at hmD;cases hmD
   |mit m since seen last hh=>rw[hh] at hmD;cases hmD
  obtain⟨K2,q1,q2,q3,q4,q5⟩:=bo (K:=K) Ds _ (K1.obj D (.deferred none)) rfl (fun E hE=>by
   have hne:E≠D:=fun e=>aJR.1 (e▸hE);exact(Kx hne).trans (hm E (by simp[hE]))) aJR.2 aF7 (fun E hE=>hB E (by simp[hE])) hF hr'
  exact⟨K2,q1,hV.trans q2,q3,q4,q5⟩
def wN(ops:Array Oper)(n:Nat)(l:List (aA×List Nat)):Bool:=
 Region.noSelect ops&&(decide (n=ops.size)||(decide (n<ops.size)&&Region.sinkB .any ops n&&Region.chainB .any ops n))&&
 Region.seqB .any ops (ops.size-n) n ((Kp ops.size).map (fun i=>decide (i<n))).toArray&&
 (Kp n).all (fun i=>match ops[i]?,l[i]? with
   |some o,some (lo,aAP)=>(o.after.toList.all fun e=> !Region.binds .any e||decide (e.on<i))&&(lo.aCZ.aAF.all fun t=>(Kp n).all fun j=>iO ops j != some t||aAP.contains j)&&aAP.all (fun d=>decide (d<i))
   |_,_=>false)&&
 (Kp n).all (fun i=>(Kp n).all fun j=>i==j||(iO ops i).isNone||iO ops i != iO ops j)
theorem BJ{ops:Array Oper}{n:Nat}{l:List (aA×List Nat)}(h:qH ops n l=true):wN ops n l=true:=by
 unfold qH at h;unfold wN;simp only[Kg,Kt] at h⊢;obtain⟨⟨⟨⟨a,b⟩,c⟩,d⟩,e⟩:=h;refine⟨⟨⟨⟨a,b⟩,c⟩,fun i hi=>?_⟩,e⟩;have:=d i hi;cases h1:ops[i]? with
 |none=>simp[h1] at this
 |some o=>
  cases h2:l[i]? with
  |none=>simp[h1,h2] at this
  |some p=>
   simp only[h1,h2,Kg] at this⊢;exact this.1
theorem BH{P:Program}{ops:Array Oper}{n:Nat}{l:List (aA×List Nat)}(hB:wN ops n l=true){rd:Option Nat}{mm:Nat}{Q:Exit→Act→World→Prop}(Iv:Array Bool→Act→World→Prop)(hhd:∀aAB a w,Iv aAB a w→HeadInv .any ops n aAB)
 (aHW:∀aAB a w i (Kn:Act→World→Prop),Iv aAB a w→i<n→i∈Region.ready .any ops aAB→(∀a' w',Iv (aAB.setIfInBounds i true) a' w'→Kn a' w')→wpOpIn (FR rd) mm P ops Q i Kn a w)
 (aEg:∀aAB a w,Iv aAB a w→(∀j,j<n→aAB.getD j false=true)→wpListIn (FR rd) mm P ops Q (ops.toList.drop n) a w):
 ∀(f:Nat) (aAB:Array Bool) (a:Act) (w:World),f=((Kp n).filter fun i=> !aAB.getD i true).length→Iv aAB a w→wpAnyIn (FR rd) mm P .any ops Q (f+(ops.size-n)) aAB a w:=by
 have hB':=hB;simp only[wN,Kg,Kt,Ko,KH,decide_eq_true_eq] at hB';obtain⟨⟨⟨⟨aMt,aA8⟩,aIq⟩,aGl⟩,aDt⟩:=hB';have aEZ:n≤ops.size:=by rcases aA8 with h|⟨⟨h,_⟩,_⟩<;>omega
 intro f;induction f with
 |zero=>
  intro aAB a w hf inv;have aAu:∀i,i<n→aAB.getD i true=true:=by
   intro i hi;have hz:=KI hf.symm;rw[KO] at hz;have:=hz i (Ko.2 hi);simpa using this
  have aHu:∀j,j<n→aAB.getD j false=true:=by
   intro j hj;have:=aAu j hj;have hjs:j<aAB.size:=by rw[(hhd _ _ _ inv).size];omega
   simp only[KF,hjs,dif_pos] at this⊢;exact this
  have aHj:aAB=((Kp ops.size).map (fun i=>decide (i<n))).toArray:=by
   apply Qi
   ·simp[(hhd _ _ _ inv).size]
   intro i h1 h2;have hi:i<ops.size:=by simpa [(hhd _ _ _ inv).size] using h1
   by_cases hin:i<n
   ·have:=aAu i hin;rw[Kh,Ki h1] at this;simpa [hin] using this
   have:=(hhd _ _ _ inv).tail i or hi;rw[Kh,Ki h1] at this;simpa [hin] using this
  have h:=aEg aAB a w inv aHu;have hl:(ops.toList.drop n).length=ops.size-n:=Zm;rw[KU];have:=qM (rd:=rd) (mm:=mm) (P:=P) (md:= .any) (Q':=Q) (ops.toList.drop n) n aAB a w (fun j=>by simp[KD]) (by rw[hl,aHj];exact aIq) h;rwa [hl] at this
 |succ f ih=>
  intro aAB a w hf inv;have hex:∃i,i<n∧aAB.getD i true=false:=by
   have hne:((Kp n).filter fun i=> !aAB.getD i true)≠ []:=by intro h;rw[h] at hf;simp at hf
   obtain⟨i,hi⟩:=KL _ hne;rw[KP,Ko] at hi;exact⟨i,hi.1,by simpa using hi.2⟩
  obtain⟨i0,hi0,aJE⟩:=hex;have aHo:∀j∈Region.ready .any ops aAB,j<n:=by
   intro j hj;rcases aA8 with h|⟨⟨h,hs⟩,hc⟩
   ·obtain⟨_,o,ho,_⟩:=mem_ready.1 hj;have:=(Ku.1 ho).1;omega
   rcases KN j n with h'|h'
   ·exact h'
   exact absurd hj (tail_waits hs hc h (hhd _ _ _ inv) _ i0 rfl hi0 aJE j h')
  have aBc:∀k,k<n→aAB.getD k true=false→(∀j,j<k→aAB.getD j true=true)→k∈Region.ready .any ops aAB:=by
   intro k hk hun hlt;have ho:=aGl k hk;have hok:ops[k]?=some (ops[k]'or):=Ki or;rw[hok] at ho;refine mem_ready.2 ⟨hun,_,hok,fun e he hb=>?_⟩;cases hlk:l[k]? with
   |none=>simp[hlk] at ho
   |some q=>
    obtain⟨lo,aAP⟩:=q;simp only[hlk,Kg,Kt] at ho;have h:=ho.1.1 e (KG.2 he);simp only[hb,Qd,Qe,decide_eq_true_eq] at h;have h2:=hlt e.on h;have hs:e.on<aAB.size:=by rw[(hhd _ _ _ inv).size];omega
    rw[Kh,Ki hs] at h2⊢;exact h2
  have aCc:Region.ready .any ops aAB≠ []:=by
   have least:∀k,k≤i0→(∀j,j<k→aAB.getD j true=true)→∃i,i<n∧i∈Region.ready .any ops aAB:=by
    intro k hk;induction hd:i0-k generalizing k with
    |zero=>
     intro hl;have hki:k=i0:=or;subst hki;exact⟨k,hi0,aBc k hi0 aJE hl⟩
    |succ d ihd=>
     intro hl;by_cases hu:aAB.getD k true=true
     ·exact ihd (k+1) or or (fun j hj=>by
       by_cases hjk:j=k
       ·subst hjk;exact hu
       exact hl j or)
     exact⟨k,or,aBc k or (by simpa using hu) hl⟩
   obtain⟨i,_,hi⟩:=least 0 or (fun j hj=>or);intro h;rw[h] at hi;cases hi
  rw[show f+1+(ops.size-n)=(f+(ops.size-n))+1 by omega];refine⟨fun h=>absurd h aCc,fun i hi=>?_⟩;have hin:=aHo i hi;obtain⟨hun,o,ho,_⟩:=mem_ready.1 hi;refine aHW _ _ _ _ _ inv hin hi fun a' w' aIn=>ih _ a' w' ?_ aIn;have aJZ:i<aAB.size:=by rw[(hhd _ _ _ inv).size];exact(Ku.1 ho).1
  have:=rJ (fun x=> !aAB.getD x true) (fun x=> !(aAB.setIfInBounds i true).getD x true) i (by simpa using hun) (by simp[KF,aJZ]) (fun x hx=>by rw[getD_set_ne true (fun e=>hx e.symm)]) (Kp n) KX (Ko.2 hin);omega
def BY(P:Program)(hd:List (aA×List Nat))(tl:List aA)(Q:St→Prop)(s:St):Prop:=
 ∃I:(Nat→Bool)→St→Prop,I (fun _=>false) s∧
  (∀D i o aAP s',hd[i]?=some (o,aAP)→D i=false→(∀d∈aAP,D d=true)→(∀j o aAP,hd[j]?=some (o,aAP)→D j=true→∀d∈aAP,D d=true)→I D s'→bB P [o] (I fun j=>if j=i then true else D j) s')∧
  ∀D s',(∀i,i<hd.length→D i=true)→I D s'→bB P tl Q s'
theorem j8{ops:Array Oper}{n:Nat}{aAB:Array Bool}(aEZ:n≤ops.size)(inv:HeadInv .any ops n aAB):∀j,j<n→aAB.getD j false=true→∀d,d∈oA ops n j→d<n∧aAB.getD d false=true:=by
 have hd1:∀j,j<n→aAB.getD j false=true→∀d,d∈zd1 ops n j→d<n∧aAB.getD d false=true:=by
  intro j hj aBV d hd;have hoj:ops[j]?=some (ops[j]'or):=Ki or;simp only[zd1,hoj,Option.map_some,Qa,KV,KP,Kg,decide_eq_true_eq] at hd;obtain⟨e,⟨he,hb,hn⟩,rfl⟩:=hd;exact⟨hn,inv.closed j _ hoj aBV e (KG.1 he) hb⟩
 intro j hj aBV d hd;exact ir ops n (S:=fun d=>d<n∧aAB.getD d false=true) j (fun k hk hS d hd=>hd1 k hS.1 hS.2 d hd) ⟨hj,aBV⟩ n hj d hd
theorem tA{P:Program}{w:Bool}{fl:List aO}{sl:List V}{h:Hp}{nx:Nat}{R:V→Hp→Nat→Prop}{l:LOp}(hr:(l.aBG w fl).run P sl h nx R):l.run P sl h nx R:=by
 cases l with
 |call f args=>
  unfold LOp.aBG at hr;cases w with
  |true=>exact hr.elim
  |false=>exact hr
 |_=>exact hr
theorem te{P:Program}{id:Nat}{ops:Array Oper}{n:Nat}{w0:Bool}{l:List (aA×List Nat)}{tl:List aA}(hm:P.follows .mixedOrders=true)(hB:wN ops n l=true)(hl:eD P ops n w0 0 (ops.toList.take n)=some l)(htl:dO P ops (ops.toList.drop n)=some tl)
 {K0 K:Ker} {nx0:Nat} {s:St} {a:Act} (hr:lX K0 K nx0 s a) {Q:Exit→Act→World→Prop} {Qs:St→Prop} (hQ:∀K s a,lX K0 K nx0 s a→Qs s→Q .normal a K.w)
 (h:BY P l tl Qs s) {rd:Option Nat} {mm:Nat}:(Code.region id ops true).wpIn (FR rd) mm P Q a K.w:=by
 obtain⟨I,h0,aHW,aEg⟩:=h;have hB':=hB;simp only[wN,Kg,Kt,Ko,KH,decide_eq_true_eq] at hB';obtain⟨⟨⟨⟨aMt,aA8⟩,aIq⟩,aGl⟩,aDt⟩:=hB';have aEZ:n≤ops.size:=by rcases aA8 with h|⟨⟨h,_⟩,_⟩<;>omega
 obtain⟨hll,hlg⟩:=iX _ _ _ hl;have hln:l.length=n:=by rw[hll];simp;omega
 have hdd:=dj aEZ hl;have hlj:∀j,j<n→∃lo aAP,l[j]?=some (lo,aAP):=fun j hj=>⟨(l[j]'or).1,(l[j]'or).2,Km or⟩;have hjn:∀{j lo aAP},l[j]?=some (lo,aAP)→j<n:=fun hj=>by have:=(List.getElem?_eq_some_iff.1 hj).1;omega
 refine wpIn_region_any hm ?_;have hdr:=K.aAk;have aBr:=BH (P:=P) (rd:=rd) (mm:=mm) (Q:=Q) hB (fun aAB a w=>HeadInv .any ops n aAB∧∃K' s',K'.w=w∧lX K0 K' nx0 s' a∧I (fun j=>aAB.getD j false) s') (fun _ _ _ h=>h.1) ?_ ?_ n (Ky ops.size false) a K.drew.w ?_ ?_
 ·rw[show n+(ops.size-n)=ops.size by omega] at aBr;exact aBr
 ·rintro aAB a' w' i Kn ⟨hhd,K',s',rfl,hr',hI⟩ hin hi hK;obtain⟨hun,o,ho,aAu⟩:=mem_ready.1 hi;have hot:(ops.toList.take n)[i]?=some o:=by rw[List.getElem?_take,if_pos hin];simpa using ho
  obtain⟨lo,hlo,aF5⟩:=hlg i o hot;rw[KU] at hlo;have hdn:∀d,d∈oA ops n i→aAB.getD d false=true:=by
   have aAR:=j8 aEZ (hhd.set hi hin) i hin (by
    have hs:i<aAB.size:=by rw[hhd.size];omega
    simp[KF,hs])
   intro d hd;have h1:=aAR d hd;have hne:d≠i:=by
    have h2:=aGl i hin;have hoj:ops[i]?=some (ops[i]'or):=Ki or;simp only[hoj,hlo,Kg,Kt,decide_eq_true_eq] at h2;have:=h2.2 d hd;omega
   rw[getD_set_ne false (fun e=>hne e.symm)] at h1;exact h1.2
  have hq:=aHW (fun j=>aAB.getD j false) i _ _ s' hlo (getD_both hun) hdn (fun j o' aFS hj hD d hd=>by
   rw[(hdd j o' aFS hj).2] at hd;exact(j8 aEZ hhd j (hjn hj) hD d hd).2) hI
  refine tT ho aF5 hr' (fun s''=>I (fun j=>(aAB.setIfInBounds i true).getD j false) s'') (fun K2 s2 a2 hr2 hI2=>hK a2 K2.w ⟨hhd.set hi hin,K2,s2,rfl,hr2,hI2⟩) ?_;have heq:(fun j=>if j=i then true else aAB.getD j false)=fun j=>(aAB.setIfInBounds i true).getD j false:=by
   funext j;by_cases e:j=i
   ·subst e;have hs:j<aAB.size:=by rw[hhd.size];omega
    simp[KF,hs]
   rw[if_neg e,getD_set_ne false (fun h=>e h.symm)]
  rw[heq] at hq;unfold bB at hq;unfold aA.aBG at hq;cases hg:lo.g with
  |none=>
   simp only[hg] at hq⊢;exact tA hq
  |some p=>
   obtain⟨t,want⟩:=p;simp only[hg] at hq⊢;cases hv:s'.sl.getD t Ka with
   |bool b=>
    simp only[hv] at hq⊢;by_cases hb:b=want
    ·rw[if_pos hb] at hq⊢;exact tA hq
    rw[if_neg hb] at hq⊢;exact hq
   |tup _=>simp only[hv] at hq⊢;exact hq
   |_=>simp only[hv] at hq
 ·rintro aAB a' w' ⟨hhd,K',s',rfl,hr',hI⟩ aAu;exact xK hQ (ops.toList.drop n) tl n htl (fun j=>by simp[KD]) K' s' a' hr' (aEg _ s' (fun i hi=>aAu i or) hI)
 ·have:∀i∈Kp n,(!(Ky ops.size false).getD i true)=true:=by
   intro i hi;rw[getD_in (by simpa using(show i<ops.size by have:=Ko.1 hi;omega)) (getD_replicate_false _ _)];rfl
  rw[KS.2 this];simp
 refine⟨⟨Zm,fun j oj _ hl=>(by rw[getD_replicate_false] at hl;cases hl),fun t _ ht=>getD_in (by simpa using ht) (getD_replicate_false _ _)⟩,K.drew,s,rfl,⟨hr.le.trans hdr,hr.aAF.mono hdr,hr.rel.drew,hr.live,hr.nx,hr.defers.kept hdr.below⟩,?_⟩;have:(fun j=>(Ky ops.size false).getD j false)=fun _=>false:=funext fun j=>getD_replicate_false _ _;rw[this];exact h0
def WkL:List V→List V→Prop
 | [],[]=>True
 |a::as,b::bs=>(b=a∨b= .top)∧WkL as bs
 |_,_=>False
structure Wk(s s':St):Prop where
 sl:WkL s.sl s'.sl
 h:s'.h.le s.h
 nx:s.nx≤s'.nx
theorem WkL.refl:∀l,WkL l l
 | []=>trivial
 |_::l=>⟨.inl rfl,WkL.refl l⟩
theorem Wk.refl(s:St):Wk s s:=⟨WkL.refl _,Hp.le_refl _,Kw _⟩
theorem WkL.len:∀{a b:List V},WkL a b→a.length=b.length
 | [],[],_=>rfl
 |_::as,_::bs,h=>by simp[WkL.len h.2]
theorem WkL.get:∀{a b:List V},WkL a b→∀i,b.getD i Ka=a.getD i Ka∨b.getD i Ka= .top
 | [],[],_,i=> .inl rfl
 |a::as,b::bs,h,0=>by simpa using h.1
 |a::as,b::bs,h,i+1=>by simpa using WkL.get h.2 i
theorem lX.wk{K0 K:Ker}{nx0:Nat}{s s':St}{a:Act}(r:lX K0 K nx0 s a)(w:Wk s s'):lX K0 K nx0 s' a:=by
 refine⟨r.le,⟨w.sl.len.symm.trans r.aAF.1,fun t=>?_⟩,r.rel.weaken w.h,fun n hn=>⟨KK (r.live n hn).1 w.nx,(r.live n hn).2⟩,Qh r.nx w.nx,r.defers⟩;rcases w.sl.get t with h|h
 ·rw[h];exact r.aAF.2 t
 rw[h];exact .top _
def ae(s s':St):Prop:=∀(K0 K:Ker) (nx0:Nat) (a:Act),lX K0 K nx0 s a→∃K',K'.w=K.w∧lX K0 K' nx0 s' a
theorem Wk.tell{s s':St}(w:Wk s s'):ae s s':=fun _ K _ _ r=>⟨K,rfl,r.wk w⟩
theorem ae.trans{s1 s2 s3:St}(h:ae s1 s2)(k:ae s2 s3):ae s1 s3:=fun K0 K nx0 a r=>
 have⟨_,e1,r1⟩:=h K0 K nx0 a r;have⟨K2,e2,r2⟩:=k K0 _ nx0 a r1
 ⟨K2,e2.trans e1,r2⟩
def pB(b:(cK→St→Prop)→St→Prop)(Q:cK→St→Prop):cK→St→Prop
 | .normal,s=>∃s',ae s s'∧b Q s'
 |e,s=>Q e s
def gF(id:Nat)(Q:cK→St→Prop):cK→St→Prop
 | .exit id',s=>if id'=id then Q .normal s else Q (.exit id') s
 |e,s=>Q e s
def D0(J:St→Prop)(Q:cK→St→Prop):cK→St→Prop
 | .normal,s=>∃s',ae s s'∧J s'
 |e,s=>Q e s
def En(r:Nat)(o:Obj)(U:Ker→Prop)(J:St→Prop):cK→St→Prop
 | .normal,s=>s.h r=some (.obj o U)∧J s
 |_,_=>False
def Dj(r:Nat)(rcd:LoopState→Option Code→Obj)(U:Ker→Prop)(R:V→Hp→Nat→Prop):cK→St→Prop
 | .normal,s=>s.h r=some (.obj (rcd .busy none) U)∧R (.bool true) (s.h.set r (.obj (rcd .ready none) U)) s.nx
 | .ret,s=>s.h r=some (.obj (rcd .busy none) U)∧R (.bool false) (s.h.set r (.obj (rcd .done (some .ret)) U)) s.nx
 | .exit id,s=>s.h r=some (.obj (rcd .busy none) U)∧R (.bool false) (s.h.set r (.obj (rcd .done (some (.exit id))) U)) s.nx
def Cc(r:Nat)(rcd:LoopState→Option Code→Obj)(U:Ker→Prop)(Q:cK→St→Prop)(sl:List V)(h':Hp)(nx':Nat):Prop:=
 (h' r=some (.obj (rcd .ready none) U)∧Q .normal ⟨sl,h'.del r,nx'⟩)∨(h' r=some (.obj (rcd .done (some .ret)) U)∧Q .ret ⟨sl,h'.del r,nx'⟩)∨
   ∃id,h' r=some (.obj (rcd .done (some (.exit id))) U)∧Q (.exit id) ⟨sl,h'.del r,nx'⟩
def lwp(P:Program):bF→(cK→St→Prop)→St→Prop
 | .skip,Q,s=>Q .normal s
 | .ops l,Q,s=>bB P l (Q .normal) s
 | .draw n hd tl,Q,s=>(((hd.all fun p=>match p.1.dst with|some d=>decide (d<s.sl.length)|none=>true)&&decide (n=hd.length))=true∧
  dC P s.h s.nx hd s.sl [] [] fun sl aAL cons=>bB P tl (Q .normal) ⟨sl,zS (oU s.h s.nx aAL) cons,s.nx+n⟩)∨BY P hd tl (Q .normal) s
 | .seq a b,Q,s=>lwp P a (pB (lwp P b) Q) s
 | .cond c a b,Q,s=>match c.ev s.sl with
  | .bool t=>if t=true then lwp P a Q s else lwp P b Q s
  |_=>False
 | .block id c,Q,s=>lwp P c (gF id Q) s
 | .loop c,Q,s=>∃(I:St→Prop) (m:St→Nat),(∃s',ae s s'∧I s')∧∀s,I s→lwp P c (D0 (fun s'=>I s'∧m s'<m s) Q) s
 | .exit id,Q,s=>Q (.exit id) s
 | .ret,Q,s=>Q .ret s
 | .range g ps as b,Q,s=>match g.ev s.sl with
  | .fn (.func gf) [] aAg=>∀(rcd:LoopState→Option Code→Obj) (U:Ker→Prop),(∀st pe,jY (rcd st pe)=true)→
   (∀(args:List V) (h:Hp) (nx:Nat) (R:V→Hp→Nat→Prop),args.length=ps.length→h s.nx=some (.obj (rcd .ready none) U)→
     lwp P as (En s.nx (rcd .ready none) U fun s1=>lwp P b (Dj s.nx rcd U R) ⟨s1.sl,s1.h.set s.nx (.obj (rcd .busy none) U),s1.nx⟩) ⟨aAw s.sl ps args,h,nx⟩→gG P s.nx args h nx R)→
   bD P gf (.yld s.nx::aAg) (s.h.set s.nx (.obj (rcd .ready none) U)) (s.nx+1) fun _ h' nx'=>Cc s.nx rcd U Q s.sl h' nx'
  |_=>False
def LOp.aHS:LOp→Bool
 | .store _ _ _=>true
 | .mp (.put _ _ _ _ _)=>true
 | .mp (.del _ _ _ _)=>true
 |_=>false
def yK(P:Program)(ops:Array Oper)(w:Bool)(n:Nat):Option bF:=
 match eD P ops n w 0 (ops.toList.take n),dO P ops (ops.toList.drop n) with
 |some l,some tl=>if (qH ops n l&&(w||l.all fun p=> !p.1.op.aHS))=true then some (.draw n l tl) else none
 |_,_=>none
def rK(P:Program)(ops:Array Oper)(w:Bool):Nat→Option bF
 |0=>yK P ops w 0
 |n+1=>match yK P ops w (n+1) with
  |some c=>some c
  |none=>rK P ops w n
def tc(P:Program)(ops:Array Oper):Option bF:=
 match eD P ops ops.size false 0 (ops.toList.take ops.size) with
 |some l=>if wN ops ops.size l=true then some (.draw (l.length+1) l []) else none
 |none=>none
def nk(P:Program)(ops:Array Oper):Option bF:=
 match rK P ops false ops.size with
 |some c=>some c
 |none=>match rK P ops true ops.size with
  |some c=>some c
  |none=>tc P ops
def gC:Code→Bool
 | .seq a b=>gC a&&gC b
 | .cond _ a b=>gC a&&gC b
 | .block _ c=>gC c
 | .loop c=>gC c
 | .scope _=>false
 | .rangeFunc _ _ _ _=>false
 |_=>true
def cF(P:Program):Code→Option bF
 | .skip=>some .skip
 | .label _=>some .skip
 | .region _ ops false=>(dO P ops ops.toList).map .ops
 | .region _ ops true=>if P.follows .mixedOrders then nk P ops else none
 | .seq a b=>match cF P a,cF P b with
  |some a,some b=>some (.seq a b)
  |_,_=>none
 | .cond c a b=>match aR P 0 c,cF P a,cF P b with
  |some c,some a,some b=>some (.cond c a b)
  |_,_,_=>none
 | .block id c=>(cF P c).map (.block id)
 | .loop c=>(cF P c).map .loop
 | .scope c=>cF P c
 | .exit id=>some (.exit id)
 | .ret=>some .ret
 | .rangeFunc g ps as b=>if gC as=true∧gC b=true then match aR P 0 g,cF P as,cF P b with
  |some g,some as,some b=>some (.range g ps.toList as b)
  |_,_,_=>none
  else none
 |_=>none
theorem nh{P:Program}{ops:Array Oper}{w:Bool}{n:Nat}{L:bF}(h:yK P ops w n=some L):∃l tl,L= .draw n l tl∧qH ops n l=true∧eD P ops n w 0 (ops.toList.take n)=some l∧dO P ops (ops.toList.drop n)=some tl:=by
 unfold yK at h;split at h
 ·rename_i l tl h1 h2;split at h
  ·rename_i hb;injection h with h;simp only[Kg] at hb;exact⟨l,tl,h.symm,hb.1,h1,h2⟩
  cases h
 cases h
theorem mT{P:Program}{ops:Array Oper}{w:Bool}{L:bF}:∀n,rK P ops w n=some L→∃n,yK P ops w n=some L
 |0,h=>⟨0,h⟩
 |n+1,h=>by
  unfold rK at h;split at h
  ·rename_i c hc;injection h with h;subst h;exact⟨n+1,hc⟩
  exact mT n h
theorem h9{P:Program}{ops:Array Oper}{L:bF}(h:nk P ops=some L):∃m l tl w n,L= .draw m l tl∧(m=l.length→qH ops n l=true∧m=n)∧wN ops n l=true∧eD P ops n w 0 (ops.toList.take n)=some l∧dO P ops (ops.toList.drop n)=some tl:=by
 have at_:∀w n,yK P ops w n=some L→∃m l tl w n,L= .draw m l tl∧(m=l.length→qH ops n l=true∧m=n)∧wN ops n l=true∧eD P ops n w 0 (ops.toList.take n)=some l∧dO P ops (ops.toList.drop n)=some tl:=fun w n hn=>by
  obtain⟨l,tl,rfl,hB,h1,h2⟩:=nh hn;exact⟨n,l,tl,w,n,rfl,fun _=>⟨hB,rfl⟩,BJ hB,h1,h2⟩
 unfold nk at h;split at h
 ·rename_i c hc;injection h with h;subst h;obtain⟨n,hn⟩:=mT _ hc;exact at_ _ _ hn
 split at h
 ·rename_i c hc;injection h with h;subst h;obtain⟨n,hn⟩:=mT _ hc;exact at_ _ _ hn
 unfold tc at h;split at h
 ·rename_i l hl;split at h
  ·rename_i hB;injection h with h;subst h;exact⟨_,l,[],false,ops.size,rfl,fun e=>or,hB,hl,by rw[List.drop_of_length_le Zm];rfl⟩
  cases h
 cases h
theorem qi{P:Program}{g:Operand}{ps:Array Tmp}{as b:Code}{lg:aO}{la lb:bF}(h0:aR P 0 g=some lg)
 (ha:∀(l m:Nat) (Q:cK→St→Prop) (s:St),lwp P la Q s→∀(K0 K:Ker) (nx0:Nat) (act:Act),lX K0 K nx0 s act→as.wpIn (FR (some l)) m P (xy K0 nx0 Q) act K.w)
 (hb:∀(l m:Nat) (Q:cK→St→Prop) (s:St),lwp P lb Q s→∀(K0 K:Ker) (nx0:Nat) (act:Act),lX K0 K nx0 s act→b.wpIn (FR (some l)) m P (xy K0 nx0 Q) act K.w)
 {K0 K:Ker} {nx0:Nat} {s:St} {a:Act} (hr:lX K0 K nx0 s a) {Q:cK→St→Prop} (h:lwp P (.range lg ps.toList la lb) Q s) {mm:Nat}:(Code.rangeFunc g ps as b).wpIn (FR none) mm P (xy K0 nx0 Q) a K.w:=by
 have vg:=aI h0 hr.aAF.2;simp only[lwp] at h;split at h;case h_2=>exact h.elim
 rename_i gf aAg hev;rw[hev] at vg;generalize hcg:a.eval g=cg at vg;cases vg with
 |fn _ _ _ cf cc hl1 hl2 hv1 hv2=>
 have hcf:cf=#[]:=by
  apply Array.eq_empty_of_size_eq_zero;simpa using hl1.symm
 subst hcf;have aAN:¬K.live s.nx:=fun hn=>KT _ (hr.live _ hn).1
 have key:∀fn:FuncId,∃(rcd:LoopState→Option Code→Obj) (K1:Ker),(rcd=fun st pe=> .loop (lP fn a.tmps ps as b K.w.heap.size st pe))∧K1=(K.more (.deferred (some []))).push s.nx (rcd .ready none) 0∧K.le K1∧
  Rel K1 (s.h.set s.nx (.obj (rcd .ready none) fun K'=>K1.leV K'))∧bD P gf (.yld s.nx::aAg) (s.h.set s.nx (.obj (rcd .ready none) fun K'=>K1.leV K')) (s.nx+1) fun _ h' nx'=>Cc s.nx rcd (fun K'=>K1.leV K') Q s.sl h' nx':=by
  intro fn;obtain⟨rcd,aDc⟩:∃rcd:LoopState→Option Code→Obj,rcd=fun st pe=> .loop (lP fn a.tmps ps as b K.w.heap.size st pe):=⟨_,rfl⟩;have hpl:∀st pe,jY (rcd st pe)=true:=fun st pe=>by rw[aDc];rfl
  obtain⟨K1,hK1⟩:∃K1,K1=(K.more (.deferred (some []))).push s.nx (rcd .ready none) 0:=⟨_,rfl⟩;have aA9:K.le K1:=by rw[hK1];exact(K.aES _).trans ((K.more _).aA7 s.nx aAN _ _)
  have aDA:K1.mu s.nx=K.w.heap.size+1:=by rw[hK1];simp[Ker.push,Ker.more]
  have aDe:∀n,K1.live n↔n=s.nx∨K.live n:=fun n=>by rw[hK1];exact Iff.rfl
  have aHc:Rel K1 (s.h.set s.nx (.obj (rcd .ready none) fun K'=>K1.leV K')):=by
   have:=(hr.rel.more (.deferred (some []))).set_push (a:=s.nx) aAN (rcd .ready none) 0 (b:= .obj (rcd .ready none) fun K'=>K1.leV K') (by
    rw[←hK1];refine .obj _ _ ?_ (hpl _ _) (.refl K1) (fun A B hAB hA=>hA.trans hAB);rw[aDA,hK1];have:=dK (K.w.alloc (.deferred (some []))) (rcd .ready none);rw[vC] at this;exact this)
   rwa [←hK1] at this
  refine⟨rcd,K1,aDc,hK1,aA9,aHc,h rcd _ hpl ?_⟩
  --a call of yield
  intro args hh nx R hlen aCc hw m Kr aAK hlv hn aAS hv;obtain⟨q1,q2,q3,q4⟩:=(aAS.blk s.nx _ aCc).aEO;have aUB:K1.live s.nx:=(aDe _).2 (.inl rfl);have aNW:Kr.mu s.nx=K.w.heap.size+1:=(q3.mu _ aUB).trans aDA;have hsz:aAK.size=ps.size:=by rw[←hv.1,hlen];simp
  rw[aNW] at q1⊢;have aBT:fY Kr (aAw s.sl ps.toList args) {tmps:=(ps.zip aAK).foldl (fun t (p,v)=>t.setIfInBounds p v) a.tmps,defers:=[]}:=by
   have:=fY.aAw (K:=Kr) (ds:=[]) ps.toList args aAK.toList s.sl a.tmps (fY.aA1 q3 (fY.mono aA9 hr.aAF)) (by rw[hv.1];simp) (fun i hi=>by
    have:=hv.2 i hi;simpa [Kh,Ke] using this)
   have e:(ps.zip aAK).foldl (fun t (p,v)=>t.setIfInBounds p v) a.tmps=(ps.toList.zip aAK.toList).foldl (fun t p=>t.setIfInBounds p.1 p.2) a.tmps:=by
    rw[←Array.foldl_toList,Array.toList_zip]
   rw[e];exact this
  refine oq (fn:=fn) (tmps:=a.tmps) (ps:=ps) (assign:=as) (body:=b) (D:=K.w.heap.size) trivial (by rw[q1,aDc]) hsz ?_;have hrs:lX Kr Kr nx ⟨aAw s.sl ps.toList args,hh,nx⟩ {tmps:=(ps.zip aAK).foldl (fun t (p,v)=>t.setIfInBounds p v) a.tmps,defers:=[]}:=
   ⟨.refl _,aBT,aAS,fun n hn=>⟨hlv n hn, .inl hn⟩,Kw _,rR.nil _ _⟩
  refine wpIn_mono (show as.wpIn (Fence.wide.inRound (K.w.heap.size+1)) m P (xy Kr nx _) _ Kr.w from ha (K.w.heap.size+1) m _ _ hw Kr Kr nx _ hrs) ?_;rintro e a1 W1 ⟨K',s1,le,rfl,hr1,rfl,hq⟩;cases le with
  |exit id=>exact hq.elim
  |ret=>exact hq.elim
  |normal=>
   obtain⟨ho,hq⟩:=hq;have aMv:K'.mu s.nx=K.w.heap.size+1:=(hr1.le.mu _ hn).trans aNW;obtain⟨p1,p2,p3,p4⟩:=(hr1.rel.blk s.nx _ ho).aEO;rw[aMv] at p1;obtain⟨aA4,aJN⟩:=hr1.rel.setObj ho (hpl .busy none);rw[aMv] at aA4 aJN;refine⟨by rw[p1,aDc],?_⟩;have aNk:(.loop (lP fn a.tmps ps as b K.w.heap.size .busy none):Obj)=rcd .busy none:=by rw[aDc]
   rw[aNk];refine wpIn_mono (show b.wpIn (Fence.wide.inRound (K.w.heap.size+1)) m P (xy Kr nx _) a1 (K'.obj (K.w.heap.size+1) (rcd .busy none)).w from hb (K.w.heap.size+1) m _ _ hq Kr _ nx a1 ⟨hr1.le.trans aA4,hr1.aAF.mono aA4,aJN,hr1.live,hr1.nx,hr1.defers.kept aA4.below⟩) ?_;rintro e a2 W2 ⟨K3,s3,le3,rfl,hr3,rfl,hq3⟩;have aT3:K3.mu s.nx=K.w.heap.size+1:=(hr3.le.mu _ hn).trans aNW
   have fin:∀(o:Obj) (bb:Bool),jY o=true→s3.h s.nx=some (.obj (rcd .busy none) fun K'=>K1.leV K')→R (.bool bb) (s3.h.set s.nx (.obj o fun K'=>K1.leV K')) s3.nx→
    K3.w.heap[K.w.heap.size+1]?=some (rcd .busy none)∧∃K' v cv h' nx',K'.w=K3.w.putObj (K.w.heap.size+1) o∧Ending.returned (.bool bb)= .returned cv∧Kr.le K'∧VR K' v cv∧Rel K' h'∧(∀i,K'.live i→i<nx'∧(Kr.live i∨nx≤i))∧nx≤nx'∧R v h' nx':=by
    intro o bb hpo hbz hR;obtain⟨u1,u2,u3,u4⟩:=(hr3.rel.blk s.nx _ hbz).aEO;obtain⟨aFp,aEW⟩:=hr3.rel.setObj hbz hpo;rw[aT3] at u1 aFp aEW;exact⟨u1,K3.obj (K.w.heap.size+1) o, .bool bb, .bool bb,_,s3.nx,rfl,rfl,hr3.le.trans aFp, .bool bb,aEW,hr3.live,hr3.nx,hR⟩
   cases le3 with
   |normal=>
    have:=fin (rcd .ready none) true (hpl _ _) hq3.1 hq3.2;simp only[aDc] at this⊢;exact this
   |ret=>
    have:=fin (rcd .done (some .ret)) false (hpl _ _) hq3.1 hq3.2;simp only[aDc] at this⊢;exact this
   |exit id=>
    have:=fin (rcd .done (some (.exit id))) false (hpl _ _) hq3.1 hq3.2;simp only[aDc] at this⊢;exact this
 obtain⟨_,_,_,_,_,_,hen,_⟩:=key 0;refine gh (F:=FR none) rfl (by intro h;cases h) hcg trivial (fun args w=>lU hen args w) ?_;intro fn _;obtain⟨rcd,K1,aDc,hK1,aA9,aHc,aEk⟩:=key fn;have aDA:K1.mu s.nx=K.w.heap.size+1:=by rw[hK1];simp[Ker.push,Ker.more]
 have aDe:∀n,K1.live n→n=s.nx∨K.live n:=fun n=>by rw[hK1];exact fun h=>h
 have hpl:∀st pe,jY (rcd st pe)=true:=fun st pe=>by rw[aDc];rfl
 have hW1:(K.w.alloc (.deferred (some []))).alloc (.loop (lP fn a.tmps ps as b K.w.heap.size .ready none))=K1.w:=by rw[hK1,aDc];rfl
 rw[hW1];have hyl:VRs K1 (.yld s.nx::aAg) (#[.func (.yield (K.w.heap.size+1)) #[] #[]]++cc):=by
  refine VRs.append (a:=[.yld s.nx]) (b:=aAg) ⟨rfl,fun i hi=>?_⟩ ⟨hl2,fun i hi=>(hv2 i hi).mono aA9⟩;have:i=0:=by simpa using hi
  subst this;have:=VR.yld (K:=K1) s.nx (by rw[hK1];exact .inl rfl);rw[aDA] at this;simpa using this
 refine fy ((aEk.2 K1 _ (fun n hn=>?_) aHc hyl).mono ?_)
 ·rcases aDe n hn with rfl|h
  ·omega
  have:=(hr.live n h).1;omega
 rintro e W2 ⟨K',v,cv,h',nx',rfl,rfl,aF7,hvr,aA3,aEa,aWR,hq⟩;have hn1:K1.live s.nx:=by rw[hK1];exact .inl rfl
 have aMv:K'.mu s.nx=K.w.heap.size+1:=(aF7.mu _ hn1).trans aDA;have aJT:hZ K1.w K.w.heap.size:=by
  rw[←hW1];show((K.w.alloc _).alloc _).heap[K.w.heap.size]?=_;rw[fI _ _ _ (by rw[vC];omega)];exact dK _ _
 have fin:∀(o o':Obj) (le:cK),h' s.nx=some (.obj o fun K'=>K1.leV K')→jY o'=true→Q le ⟨s.sl,h'.del s.nx,nx'⟩→
  K'.w.heap[K.w.heap.size+1]?=some o∧xy K0 nx0 Q le.up {a with defers:={target:= .collected K.w.heap.size,args:=#[]}::a.defers} (K'.w.putObj (K.w.heap.size+1) o'):=by
  intro o o' le ho hpo hQ;obtain⟨u1,_⟩:=(aA3.blk s.nx _ ho).aEO;obtain⟨aFp,aEW⟩:=aA3.setObj ho hpo;rw[aMv] at u1 aFp aEW;refine⟨u1,K'.obj (K.w.heap.size+1) o',⟨s.sl,h'.del s.nx,nx'⟩,le,rfl,⟨hr.le.trans (aA9.trans (aF7.trans aFp)),hr.aAF.mono (aA9.trans (aF7.trans aFp)),aEW.weaken (xp _ _ _),?_,?_,?_⟩,rfl,hQ⟩
  ·intro n hn;obtain⟨w1,w2⟩:=aEa n hn;refine⟨w1,?_⟩;rcases w2 with w2|w2
   ·rcases aDe n w2 with rfl|w3
    ·exact .inr hr.nx
    exact(hr.live n w3).2
   exact .inr (by have:=hr.nx;omega)
  ·have:=hr.nx;show nx0≤nx';omega
  obtain⟨Ds,d1,d2,d3⟩:=hr.defers;refine⟨K.w.heap.size::Ds,KQ.2 ⟨fun hm=>KT _ (d3 _ hm).2.lt,d1⟩,by simp[d2],?_⟩;intro D hD;rcases Qf.1 hD with rfl|hD
  ·exact⟨hr.le.below.size,aJT.kept (aF7.trans aFp).below⟩
  exact⟨(d3 D hD).1,(d3 D hD).2.kept (aA9.trans (aF7.trans aFp)).below⟩
 refine⟨⟨cv,rfl⟩,?_⟩;rcases hq with⟨ho,hQ⟩|⟨ho,hQ⟩|⟨id,ho,hQ⟩
 ·have:=fin _ (rcd .exhausted none) .normal ho (hpl _ _) hQ;simp only[aDc] at this;exact .inl this
 ·have:=fin _ (rcd .exhausted (some .ret)) .ret ho (hpl _ _) hQ;simp only[aDc] at this;exact .inr ⟨.ret,this.1,wpIn_ret this.2⟩
 have:=fin _ (rcd .exhausted (some (.exit id))) (.exit id) ho (hpl _ _) hQ;simp only[aDc] at this;exact .inr ⟨.exit id,this.1,wpIn_exit this.2⟩
theorem Aj{P:Program}:∀(c:Code) (L:bF),cF P c=some L→∀(rd:Option Nat) (mm:Nat) (Q:cK→St→Prop) (s:St),lwp P L Q s→∀(K0 K:Ker) (nx0:Nat) (a:Act),lX K0 K nx0 s a→(rd=none∨gC c=true)→c.wpIn (FR rd) mm P (xy K0 nx0 Q) a K.w:=by
 intro c;induction c with
 |skip=>
  intro L hl rd mm Q s h K0 K nx0 a hr hsc;simp only[cF,Option.some.injEq] at hl;subst hl;exact wpIn_skip ⟨K,s, .normal,rfl,hr,rfl,h⟩
 |label l=>
  intro L hl rd mm Q s h K0 K nx0 a hr hsc;simp only[cF,Option.some.injEq] at hl;subst hl;exact wpIn_label ⟨K,s, .normal,rfl,hr,rfl,h⟩
 |region id ops draw=>
  intro L hl rd mm Q s h K0 K nx0 a hr hsc;cases draw with
  |false=>
   simp only[cF] at hl;obtain⟨ls,hls,rfl⟩:=Ks.1 hl;refine wpIn_region ?_;refine da (Qs:=Q .normal) (fun K s a hr hq=>⟨K,s, .normal,rfl,hr,rfl,hq⟩) ops.toList ls (Kp ops.size) hls ?_ K s a hr h;apply KZ
   ·simp
   intro i h1 h2;simp at h1 h2⊢
  |true=>
   simp only[cF] at hl;split at hl
   ·rename_i hm;obtain⟨m,l,tl,w,n,rfl,hB,hI,h1,h2⟩:=h9 hl;rcases h with⟨hs,hd⟩|h
    ·simp only[Kg,decide_eq_true_eq] at hs;obtain⟨hB,rfl⟩:=hB hs.2
     replace hs:=hs.1
     exact xi (Qs:=Q .normal) hm hB h1 h2 hr (fun K s a hr hq=>⟨K,s, .normal,rfl,hr,rfl,hq⟩) hs hd
    exact te (Qs:=Q .normal) hm hI h1 h2 hr (fun K s a hr hq=>⟨K,s, .normal,rfl,hr,rfl,hq⟩) h
   cases hl
 |seq x y ihx ihy=>
  intro L hl rd mm Q s h K0 K nx0 a hr hsc;simp only[cF] at hl;split at hl
  ·rename_i lx ly h1 h2;injection hl with hl;subst hl;refine wpIn_seq (wpIn_mono (ihx lx h1 rd mm _ s h K0 K nx0 a hr (hsc.imp (fun h=>h) fun h=>by simp only[gC,Kg] at h;exact h.1)) ?_);rintro e a' w' ⟨K',s',le,rfl,hr',rfl,hq⟩;cases le with
   |normal=>
    obtain⟨s'',hw,hq⟩:=hq;obtain⟨K2,e2,hr2⟩:=hw _ _ _ _ hr';rw[←e2];exact ihy ly h2 rd mm Q s'' hq K0 K2 nx0 a' hr2 (hsc.imp (fun h=>h) fun h=>by simp only[gC,Kg] at h;exact h.2)
   |exit id=>exact⟨K',s', .exit id,rfl,hr',rfl,hq⟩
   |ret=>exact⟨K',s', .ret,rfl,hr',rfl,hq⟩
  cases hl
 |cond c x y ihx ihy=>
  intro L hl rd mm Q s h K0 K nx0 a hr hsc;simp only[cF] at hl;split at hl
  ·rename_i lc lx ly h0 h1 h2;injection hl with hl;subst hl;have vc:=aI h0 hr.aAF.2;simp only[lwp] at h;split at h
   ·rename_i t ht;rw[ht] at vc;generalize hcv:a.eval c=cv at vc;cases vc;refine wpIn_cond hcv ?_;cases t with
    |true=>exact ihx lx h1 rd mm Q s (by simpa using h) K0 K nx0 a hr (hsc.imp (fun h=>h) fun h=>by simp only[gC,Kg] at h;exact h.1)
    |false=>exact ihy ly h2 rd mm Q s (by simpa using h) K0 K nx0 a hr (hsc.imp (fun h=>h) fun h=>by simp only[gC,Kg] at h;exact h.2)
   exact h.elim
  cases hl
 |block id c ih=>
  intro L hl rd mm Q s h K0 K nx0 a hr hsc;simp only[cF] at hl;obtain⟨lc,h1,rfl⟩:=Ks.1 hl;refine wpIn_block (wpIn_mono (ih lc h1 rd mm _ s h K0 K nx0 a hr (hsc.imp (fun h=>h) fun h=>h)) ?_);rintro e a' w' ⟨K',s',le,rfl,hr',rfl,hq⟩;cases le with
  |normal=>exact⟨K',s', .normal,rfl,hr',rfl,hq⟩
  |exit id'=>
   show if id'=id then _ else _
   split
   ·rename_i e;simp only[gF,e,if_true] at hq;exact⟨K',s', .normal,rfl,hr',rfl,hq⟩
   rename_i e;simp only[gF,e,if_false] at hq;exact⟨K',s', .exit id',rfl,hr',rfl,hq⟩
  |ret=>exact⟨K',s', .ret,rfl,hr',rfl,hq⟩
 |loop c ih=>
  intro L hl rd mm Q s h K0 K nx0 a hr hsc;simp only[cF] at hl;obtain⟨lc,h1,rfl⟩:=Ks.1 hl;obtain⟨I,m,⟨s0,hw0,hI⟩,aEV⟩:=h;obtain⟨Kl,el,hrl⟩:=hw0 _ _ _ _ hr;refine wpIn_loop_ghost (fun n a w=>∃K s,K.w=w∧lX K0 K nx0 s a∧I s∧m s=n) (m s0) ⟨Kl,s0,el,hrl,hI,rfl⟩ ?_;rintro n a' w' ⟨K',s',rfl,hr',hI',rfl⟩;refine wpIn_mono (ih lc h1 rd mm _ s' (aEV s' hI') K0 K' nx0 a' hr' (hsc.imp (fun h=>h) fun h=>h)) ?_;rintro e a'' w'' ⟨K'',s'',le,rfl,aNN,rfl,hq⟩;cases le with
  |normal=>
   obtain⟨s3,hw,hq⟩:=hq;obtain⟨K3,e3,hr3⟩:=hw _ _ _ _ aNN;exact⟨m s3,hq.2,K3,s3,e3,hr3,hq.1,rfl⟩
  |exit id=>exact⟨K'',s'', .exit id,rfl,aNN,rfl,hq⟩
  |ret=>exact⟨K'',s'', .ret,rfl,aNN,rfl,hq⟩
 |scope c ih=>
  intro L hl rd mm Q s h K0 K nx0 a hr hsc;simp only[cF] at hl;have hsc:rd=none:=hsc.resolve_right (by simp[gC]);subst hsc;refine wpIn_wide.2 (wp_scope_straight (wp_mono ((wpIn_wide (n:=mm)).1 (ih L hl none mm Q s h K0 K nx0 a hr (.inl rfl))) ?_));rintro e a' w' ⟨K',s',le,rfl,hr',rfl,hq⟩;cases le with
  |normal=>exact⟨K',s', .normal,rfl,hr',rfl,hq⟩
  |exit id=>exact⟨K',s', .exit id,rfl,hr',rfl,hq⟩
  |ret=>exact⟨K',s', .ret,rfl,hr',rfl,hq⟩
 |exit id=>
  intro L hl rd mm Q s h K0 K nx0 a hr hsc;simp only[cF,Option.some.injEq] at hl;subst hl;exact wpIn_exit ⟨K,s, .exit id,rfl,hr,rfl,h⟩
 |ret=>
  intro L hl rd mm Q s h K0 K nx0 a hr hsc;simp only[cF,Option.some.injEq] at hl;subst hl;exact wpIn_ret ⟨K,s, .ret,rfl,hr,rfl,h⟩
 |rangeFunc g ps as b iha ihb=>
  intro L hl rd mm Q s h K0 K nx0 a hr hsc;have hsc:rd=none:=hsc.resolve_right (by simp[gC]);subst hsc;simp only[cF] at hl;split at hl
  ·rename_i hns;split at hl
   ·rename_i lg la lb h0 h1 h2;injection hl with hl;subst hl;exact qi h0 (fun l m Q s h K0 K nx0 act hr=>iha la h1 (some l) m Q s h K0 K nx0 act hr (.inr hns.1)) (fun l m Q s h K0 K nx0 act hr=>ihb lb h2 (some l) m Q s h K0 K nx0 act hr (.inr hns.2)) hr h
   cases hl
  cases hl
 |goto l=>intro L hl;simp[cF] at hl
 |refuse w=>intro L hl;simp[cF] at hl
inductive rS where
 |slot (t:Nat)
 |cell (t:Nat) (k:Sh)
 deriving Inhabited
def rS.sem(s:St)(R:V→Prop):rS→Prop
 | .slot t=>R (s.sl.getD t Ka)
 | .cell t k=>(bL.load k (.slot t)).sem s.sl s.h R
def pD(s:St):List rS→List V→(List V→Prop)→Prop
 | [],acc,R=>R acc
 |r::rs,acc,R=>r.sem s fun v=>pD s rs (acc++[v]) R
def mF(vs:List V):V:=
 match vs with
 | [v]=>v
 |vs=> .tup vs
structure LFn where
 body:bF
 nt:Nat
 res:List rS
 deriving Inhabited
def lK(P:Program):List ResultVar→Option (List rS)
 | []=>some []
 | .tmp t::r=>(lK P r).map (.slot t:: ·)
 | .cell a t::r=>(dE P t).bind fun k=>(lK P r).map (.cell a k:: ·)
def aJ(P:Program)(f:FuncId):Option LFn:=
 match P.funcs[f]? with
 |some fn=>if fn.name== "runtime.NumGoroutine" then none else match fn.body with
  |some c=>(cF P c).bind fun b=>(lK P fn.results.toList).map fun r=>⟨b,fn.ntmps,r⟩
  |none=>none
 |none=>none
def DS(L:LFn)(R:V→Hp→Nat→Prop):cK→St→Prop
 | .exit _,_=>False
 |_,s=>pD s L.res [] fun vs=>∃h',h'.le s.h∧R (mF vs) h' s.nx
theorem sY{P:Program}{K:Ker}{s:St}{a:Act}(hs:fY K s.sl a)(hr:Rel K s.h){R:List V→Prop}:∀(rs:List ResultVar) (ls:List rS),lK P rs=some ls→∀(acc:List V) (aIk:List Value),acc.length=aIk.length→(∀i,i<acc.length→VR K (acc.getD i Ka) (aIk.getD i KC))→
 pD s ls acc R→∃vs cvs,(rs.mapM (fun| .tmp t=>pure (a.tmps.getD t KC)| .cell b t=>do loadVar t (←asAddr (a.tmps.getD b KC)):ResultVar→Sem Value)).run P K.w= .ok cvs K.w∧(aIk++cvs).length=vs.length∧(∀i,i<vs.length→VR K (vs.getD i Ka) ((aIk++cvs).getD i KC))∧R vs
 | [],ls,hl,acc,aIk,h1,h2,h=>by
  simp[lK] at hl;subst hl;exact⟨acc,[],Zm,by simp[h1],by simpa using h2,h⟩
 |r::rs,ls,hl,acc,aIk,h1,h2,h=>by
  have one:∃lr lrs v cv,ls=lr::lrs∧lK P rs=some lrs∧pD s lrs (acc++[v]) R∧VR K v cv∧(match r with| .tmp t=>pure (a.tmps.getD t KC)| .cell b t=>do loadVar t (←asAddr (a.tmps.getD b KC)):Sem Value).run P K.w= .ok cv K.w:=by
   cases r with
   |tmp t=>
    simp only[lK] at hl;obtain⟨lrs,h3,rfl⟩:=Ks.1 hl;exact⟨_,lrs,_,_,rfl,h3,h,hs.2 t,rfl⟩
   |cell b t=>
    simp only[lK] at hl;obtain⟨k,hk,hl⟩:=KE.1 hl;obtain⟨lrs,h3,rfl⟩:=Ks.1 hl;simp only[pD,rS.sem] at h;obtain⟨cv,v,q1,q2,q3⟩:=Db (P:=P) hk hr (hs.2 b) (.slot b) rfl h;refine⟨_,lrs,v,cv,rfl,h3,q3,q2,?_⟩;simp only[Instr.loadAt,KJ] at q1;show(do loadVar t (←asAddr (a.tmps.getD b KC)):Sem Value).run P K.w=_;generalize a.tmps.getD b KC=x at q1⊢;cases x<;>simp[KM] at q1;rename_i ad;cases ad with
    |none=>simp[KM] at q1
    |some ad=>simpa [asAddr,KM] using q1
  obtain⟨lr,lrs,v,cv,rfl,h3,h4,h5,h6⟩:=one;obtain⟨vs,cvs,g1,g2,g3,g4⟩:=sY hs hr rs lrs h3 (acc++[v]) (aIk++[cv]) (by simp[h1]) (fun i hi=>by
   simp only[List.length_append,KW,List.length_nil] at hi;by_cases e:i<acc.length
   ·have:=h2 i e;simp only[Ke] at this⊢;rw[KB e,KB or];exact this
   have e2:i=acc.length:=or;subst e2;simp only[Ke];rw[Kz (Kw _),Kz or];simp[h1];exact h5) h4
  refine⟨vs,cv::cvs,?_,by simpa using g2,by simpa using g3,g4⟩;rw[List.mapM_cons,KJ];cases r<;>(simp only at h6⊢;rw[h6];simp only[Result.andThen_ok,KJ,g1,Sem.run_pure])
theorem im{P:Program}{f:FuncId}{L:LFn}(hL:aJ P f=some L){args:List V}{h:Hp}{nx:Nat}{R:V→Hp→Nat→Prop}
 (hw:(∀m b,h m=some b→m<nx)→lwp P L.body (DS L R) ⟨args++Kv (L.nt-args.length) Ka,h,nx⟩):bD P f args h nx R:=by
 unfold aJ at hL;split at hL
 ·rename_i fn hf;split at hL
  ·cases hL
  rename_i hnm;split at hL
  ·rename_i c hb;obtain⟨b,hlc,hL⟩:=KE.1 hL;obtain⟨r,hlr,rfl⟩:=Ks.1 hL;refine⟨by simp only[gR,hf,hb];simpa using hnm,?_⟩;intro K aAK hlv aAS hv;refine callsIn_wide.1 (callsIn_of_wp_marks (n:=4) hf hb trivial ?_);have hst:lX K K nx ⟨args++Kv (fn.ntmps-args.length) Ka,h,nx⟩ {tmps:=aAK++Ky (fn.ntmps-aAK.size) KC,defers:=[]}:=by
    refine⟨.refl K,?_,aAS,fun n hn=>⟨hlv n hn, .inl hn⟩,Kw _,rR.nil _ _⟩;refine⟨by simp[hv.1],fun t=>?_⟩;simp only[Ke,Kh];by_cases e:t<args.length
    ·have:=hv.2 t e;simp only[Ke,Kh] at this;rw[KB e,Array.getElem?_append_left (by have:=hv.1;omega)];exact this
    rw[Kz or,Array.getElem?_append_right (by have:=hv.1;omega)];rw[List.getElem?_replicate,Array.getElem?_replicate,hv.1];split
    ·exact .undef K
    exact .undef K
   refine wpIn_mono (Aj c b hlc none 4 _ _ (hw fun m b hm=>hlv m (aAS.lt m b hm)) K K nx _ hst (.inl rfl)) ?_;rintro e a' w' ⟨K1',s',le,rfl,aIr,rfl,hq⟩;obtain⟨Ds,hd1,hd2,hd3⟩:=aIr.defers;obtain⟨K',hKw,hV,aUO,aNo,aJh⟩:=bo (K:=K) Ds _ K1' rfl (fun D hD=>(hd3 D hD).2) hd1 aIr.le (fun D hD=>(hd3 D hD).1) (fun b hb=>aAS.size b hb) aIr.rel;have hr':∃dummy:True,K.le K'∧fY K' s'.sl a'∧Rel K' s'.h∧(∀n,K'.live n→n<s'.nx∧(K.live n∨nx≤n))∧nx≤s'.nx:=⟨trivial,aUO,aIr.aAF.aA1 hV,aNo,fun n hn=>aIr.live n (by rw[←aJh];exact hn),aIr.nx⟩;obtain⟨_,aNM,aF0,aGj,aHd,aNL⟩:=hr';have key:(pD s' r [] fun vs=>∃h',h'.le s'.h∧R (mF vs) h' s'.nx)→∃v,(results fn a'.tmps).run P K'.w= .ok v K'.w∧∃K'' v' cv h' nx',K''.w=K'.w∧Ending.returned v= .returned cv∧K.le K''∧VR K'' v' cv∧Rel K'' h'∧(∀n,K''.live n→n<nx'∧(K.live n∨nx≤n))∧nx≤nx'∧R v' h' nx':=by
    intro hq;obtain⟨vs,cvs,g1,g2,g3,g4⟩:=sY (P:=P) aF0 aGj fn.results.toList r hlr [] [] rfl (fun i hi=>absurd hi Zm) hq;simp only[Qb] at g2 g3;have aA5:(results fn a'.tmps).run P K'.w= .ok (if h:cvs.toArray.size=1 then cvs.toArray[0] else .tuple cvs.toArray) K'.w:=by
     unfold results;simp only[KJ,Array.mapM_eq_mapM_toList,Sem.run_map];refine Eq.trans (congrArg (fun r:Result (List Value)=>(r.andThen fun a w'=>Result.ok a.toArray w').andThen fun a w'=>Sem.run P (pure (if h:a.size=1 then a[0] else Value.tuple a)) w') g1) ?_;rfl
    obtain⟨h',aF7,g4⟩:=g4;refine⟨_,aA5,K',mF vs,_,h',s'.nx,rfl,rfl,aNM,?_,aGj.weaken aF7,aHd,aNL,g4⟩;have many:vs.length≠1→VR K' (mF vs) (if h:cvs.toArray.size=1 then cvs.toArray[0] else .tuple cvs.toArray):=by
     intro hne;rw[dif_neg (by simpa [g2] using hne)];have:mF vs= .tup vs:=by
      cases vs with
      |nil=>rfl
      |cons x t=>cases t with
       |nil=>simp at hne
       |cons _ _=>rfl
     rw[this];refine .tup vs cvs.toArray (by simp[g2]) fun i hi=>?_;have:=g3 i hi;simpa [Kh,Ke] using this
    by_cases h1:vs.length=1
    ·obtain⟨v,rfl⟩:∃v,vs=[v]:=by
      cases vs with
      |nil=>simp at h1
      |cons x t=>cases t with
       |nil=>exact⟨x,rfl⟩
       |cons _ _=>simp at h1
     obtain⟨cv,rfl⟩:∃v,cvs=[v]:=by
      cases cvs with
      |nil=>simp at g2
      |cons x t=>cases t with
       |nil=>exact⟨x,rfl⟩
       |cons _ _=>simp at g2
     have:=g3 0 Zm;simpa [mF] using this
    exact many h1
   cases le with
   |exit id=>exact hq.elim
   |normal=>
    show LeavesInM Fence.wide 4 P fn a'.tmps _ a'.defers .returning K1'.w;rw[hd2];exact pM Ds _ hd1 (fun D hD=>(hd3 D hD).2) (by rw[←hKw];exact key hq)
   |ret=>
    show LeavesInM Fence.wide 4 P fn a'.tmps _ a'.defers .returning K1'.w;rw[hd2];exact pM Ds _ hd1 (fun D hD=>(hd3 D hD).2) (by rw[←hKw];exact key hq)
  cases hL
 cases hL
def bL.out(sl:List V)(h:Hp):bL→V
 | .move x=>x.ev sl
 | .pick c a b=>match c.ev sl with
  | .bool t=>Kj t (a.ev sl) (b.ev sl)
  |_=> .undef
 | .load t x=>match x.ev sl with
  | .ptr n _ i o=>match h n with
   |some (.arr _ es)=>bV t o (es.getD i Ka)
   |_=> .undef
  | .ept _ es i o=>bV t o (es.getD i Ka)
  |_=> .undef
 | .nilCheck x=>x.ev sl
 | .bin op x y=>match x.ev sl,y.ev sl with
  | .int k a, .int _ b=>match op with
   | .add=> .int k (k.wrap (a+b))
   | .sub=> .int k (k.wrap (a-b))
   | .mul=> .int k (k.wrap (a*b))
   | .quo=> .int k (k.wrap (a.tdiv b))
   | .rem=> .int k (a.tmod b)
   | .eql=> .bool (a==b)
   | .neq=> .bool (a != b)
   | .lss=> .bool (decide (a<b))
   | .leq=> .bool (decide (a≤b))
   | .gtr=> .bool (decide (b<a))
   | .geq=> .bool (decide (b≤a))
   |_=> .undef
  | .str s, .str t=>match op with
   | .add=> .str (s++t)
   | .eql=> .bool (s.toList==t.toList)
   | .neq=> .bool (!(s.toList==t.toList))
   | .lss=> .bool (Op.bytesLess s.toList t.toList)
   | .leq=> .bool (Op.bytesLess s.toList t.toList||s.toList==t.toList)
   | .gtr=> .bool (!(Op.bytesLess s.toList t.toList||s.toList==t.toList))
   | .geq=> .bool (!Op.bytesLess s.toList t.toList)
   |_=> .undef
  |_,_=> .undef
 | .eq ng ty x y=> .bool (if ng then !((veq ty (x.ev sl) (y.ev sl)).getD false) else (veq ty (x.ev sl) (y.ev sl)).getD false)
 | .not x=>match x.ev sl with
  | .bool b=> .bool (!b)
  |_=> .undef
 | .neg x=>match x.ev sl with
  | .int k n=> .int k (k.wrap (0-n))
  |_=> .undef
 | .conv k x=>match x.ev sl with
  | .int _ n=> .int k (k.wrap n)
  |_=> .undef
 | .aBM t x=> .iface t (x.ev sl)
 | .aC0 f first cap=> .fn f (first.map (aO.ev sl)) (cap.map (aO.ev sl))
 | .aHF off x=>match x.ev sl with
  | .ptr n k i o=> .ptr n k i (o+off)
  | .ept k es i o=> .ept k es i (o+off)
  |_=> .undef
 | .fld t off x=>match x.ev sl with
  | .agg cs=>bV t off (.agg cs)
  |_=> .undef
 | .aBn k x i=>match x.ev sl,i.ev sl with
  | .sl _ _ es, .int _ j=> .ept k es j.toNat 0
  | .rs n _ off _, .int _ j=> .ptr n k (off+j.toNat) 0
  |_,_=> .undef
 | .aDp _ k x i=>match x.ev sl,i.ev sl with
  | .ptr n k' i' o, .int _ j=> .ptr n k' i' (o+j.toNat*k.size)
  | .ept k' es i' o, .int _ j=> .ept k' es i' (o+j.toNat*k.size)
  |_,_=> .undef
 | .len x=>match x.ev sl with
  | .sl _ _ es=> .int .i64 es.length
  | .rs _ _ _ ln=> .int .i64 ln
  |_=> .undef
 | .aHJ x=>match x.ev sl with
  | .str s=> .int .i64 s.size
  |_=> .undef
 | .ext x i=>match x.ev sl with
  | .tup vs=>vs.getD i Ka
  |_=> .undef
 | .build z parts=> .agg (ed z (parts.map fun p=>(p.1,(p.2.2.ev sl).cells)))
 | .slc k x lo hi mx=>match x.ev sl with
  | .sl _ own es=> .sl k (aFs own es (fB sl hi) (fB sl mx)) ((es.take ((eA sl es.length hi).getD 0).toNat).drop ((eA sl 0 lo).getD 0).toNat)
  | .rs n _ off ln=>if mx.isSome=true then .sl k .full [] else if ((eA sl 0 lo).getD 0).toNat=ln∧((eA sl 0 lo).getD 0).toNat≠0 then .sl k .free [] else .rs n k (off+((eA sl 0 lo).getD 0).toNat) (((eA sl ln hi).getD 0).toNat-((eA sl 0 lo).getD 0).toNat)
  |_=> .undef
 | .aFv x lo hi=>match x.ev sl with
  | .str s=> .str (s.extract ((eA sl 0 lo).getD 0).toNat ((eA sl s.size hi).getD 0).toNat)
  |_=> .undef
 | .never=> .undef
 | .aIi x=>match x.ev sl with
  | .sl _ .nil _=> .int .i64 0
  | .sl _ .full es=> .int .i64 es.length
  |_=> .undef
 | .mnx mx x y=>match x.ev sl,y.ev sl with
  | .int k a, .int _ b=> .int k (DV mx a b)
  |_,_=> .undef
 | .aFm n k x hi=>match x.ev sl with
  | .ept _ (e::_) _ _=> .sl k .free ((pY k n e).take ((eA sl n hi).getD 0).toNat)
  |_=> .undef
 | .aHK x i=>match x.ev sl,i.ev sl with
  | .str s, .int _ j=> .int .u8 (s.data.toList.getD j.toNat 0).toNat
  |_,_=> .undef
 | .aHG t z x=>match x.ev sl with
  | .iface t' v=> .tup [if t'=t then v else z, .bool (decide (t'=t))]
  | .nilIface=> .tup [z, .bool false]
  |_=> .undef
 | .aIl _ x=>match x.ev sl with
  | .iface _ v=>v
  |_=> .undef
 | .aBw kS ks z ok x i=>match x.ev sl with
  | .map n=>match h n with
   |some (.mp es _)=>qF ok z es ((fC (.plain kS ks) (i.ev sl) es).getD none)
   |_=> .undef
  |_=>qF ok z [] none
 | .aER x=>match x.ev sl with
  | .map n=>match h n with
   |some (.mp es _)=> .int .i64 es.length
   |_=> .undef
  |_=> .int .i64 0
def kv(op:BinOp)(x y:V):Prop:=
 match x,y with
 | .int k _, .int k' b=>k=k'∧(match op with
  | .add| .sub| .mul| .eql| .neq| .lss| .leq| .gtr| .geq=>True
  | .quo| .rem=>b≠0
  |_=>False)
 | .str s, .str t=>match op with
  | .add=>((s.size+t.size:Nat):Int)≤9223372036854775807
  | .eql| .neq| .lss| .leq| .gtr| .geq=>True
  |_=>False
 |_,_=>False
def bL.ok(sl:List V)(h:Hp):bL→Prop
 | .move _=>True
 | .pick c _ _=>match c.ev sl with
  | .bool _=>True
  |_=>False
 | .load t x=>match x.ev sl with
  | .ptr n k i o=>match h n with
   |some (.arr k' es)=>k'=k∧i<es.length∧cR k t o
   |_=>False
  | .ept k es i o=>i<es.length∧cR k t o
  |_=>False
 | .nilCheck x=>match x.ev sl with
  | .ptr _ _ _ _=>True
  | .ept _ _ _ _=>True
  |_=>False
 | .bin op x y=>kv op (x.ev sl) (y.ev sl)
 | .eq _ ty x y=>(veq ty (x.ev sl) (y.ev sl)).isSome=true
 | .not x=>match x.ev sl with
  | .bool _=>True
  |_=>False
 | .neg x=>match x.ev sl with
  | .int _ _=>True
  |_=>False
 | .conv _ x=>match x.ev sl with
  | .int _ _=>True
  |_=>False
 | .aBM _ _=>True
 | .aC0 _ _ _=>True
 | .aHF _ x=>match x.ev sl with
  | .ptr _ _ _ _=>True
  | .ept _ _ _ _=>True
  |_=>False
 | .fld t off x=>match x.ev sl with
  | .agg cs=>cR (.agg cs.length) t off∧cs.all V.aAD=true
  |_=>False
 | .aBn k x i=>match x.ev sl,i.ev sl with
  | .sl k' _ es, .int _ j=>k'=k∧0≤j∧j<es.length
  | .rs _ k' _ ln, .int _ j=>k'=k∧0≤j∧j<ln
  |_,_=>False
 | .aDp ln _ x i=>match x.ev sl,i.ev sl with
  | .ptr _ _ _ _, .int _ j=>0≤j∧j<ln
  | .ept _ _ _ _, .int _ j=>0≤j∧j<ln
  |_,_=>False
 | .len x=>match x.ev sl with
  | .sl _ _ _=>True
  | .rs _ _ _ _=>True
  |_=>False
 | .aHJ x=>match x.ev sl with
  | .str _=>True
  |_=>False
 | .ext x i=>match x.ev sl with
  | .tup vs=>i<vs.length
  |_=>False
 | .build z parts=>∀p∈parts,(p.2.2.ev sl).fits p.2.1=true∧p.1+p.2.1.size≤z.length
 | .slc k x lo hi mx=>match x.ev sl with
  | .sl k' _ es=>match eA sl 0 lo,eA sl es.length hi,eA sl es.length mx with
   |some l,some h',some m=>k'=k∧0≤l∧l≤h'∧h'≤m∧m≤es.length∧(hi.isNone=true→mx.isNone=true)
   |_,_,_=>False
  | .rs _ k' _ ln=>match eA sl 0 lo,eA sl ln hi,mx with
   |some l,some h',none=>k'=k∧0≤l∧l≤h'∧h'≤ln
   |some l,some h',some _=>eA sl ln mx=some 0∧k'=k∧l=0∧h'=0∧hi.isSome=true
   |_,_,_=>False
  |_=>False
 | .aFv x lo hi=>match x.ev sl with
  | .str s=>match eA sl 0 lo,eA sl s.size hi with
   |some l,some h'=>0≤l∧l≤h'∧h'≤s.size
   |_,_=>False
  |_=>False
 | .never=>False
 | .aIi x=>match x.ev sl with
  | .sl _ .nil _=>True
  | .sl _ .full _=>True
  |_=>False
 | .mnx _ x y=>match x.ev sl,y.ev sl with
  | .int k _, .int k' _=>k=k'
  |_,_=>False
 | .aFm n k x hi=>match x.ev sl with
  | .ept (.agg m) [e] 0 0=>match eA sl n hi with
   |some h'=>m=n*k.size∧0≤h'∧h'≤n
   |none=>False
  |_=>False
 | .aHK x i=>match x.ev sl,i.ev sl with
  | .str s, .int _ j=>0≤j∧j<s.size
  |_,_=>False
 | .aHG _ _ x=>match x.ev sl with
  | .iface _ _=>True
  | .nilIface=>True
  |_=>False
 | .aIl t x=>match x.ev sl with
  | .iface t' _=>t'=t
  |_=>False
 | .aBw kS ks _ _ x i=>(i.ev sl).fits kS=true∧match x.ev sl with
  | .aAT=>True
  | .map n=>match h n with
   |some (.mp es _)=>(fC (.plain kS ks) (i.ev sl) es).isSome=true
   |_=>False
  |_=>False
 | .aER x=>match x.ev sl with
  | .aAT=>True
  | .map n=>match h n with
   |some (.mp _ _)=>True
   |_=>False
  |_=>False
theorem bL.aBL{sl:List V}{h:Hp}{R:V→Prop}{l:bL}(ho:l.ok sl h)(hR:R (l.out sl h)):l.sem sl h R:=by
 cases l<;>simp only[bL.ok,bL.out,bL.sem] at ho hR⊢;case bin op x y=>
  generalize x.ev sl=v at ho hR⊢;generalize y.ev sl=u at ho hR⊢;cases v<;>try (exact ho.elim)
  ·cases u<;>try (exact ho.elim)
   obtain⟨rfl,ho⟩:=ho;cases op<;>simp only at ho hR<;>first|exact ho.elim|exact⟨rfl,hR⟩|exact⟨rfl,ho,hR⟩
  cases u<;>try (exact ho.elim)
  simp only[kv] at ho;cases op<;>simp only at ho hR<;>first|exact ho.elim|exact hR|exact⟨ho,hR⟩
 case eq ng ty x y=>
  cases hv:veq ty (x.ev sl) (y.ev sl) with
  |none=>simp[hv] at ho
  |some r=>simpa [hv] using hR
 case load t x=>
  generalize x.ev sl=v at ho hR⊢;cases v<;>try (exact ho.elim)
  ·rename_i n k i o;simp only at ho hR⊢;cases hn:h n with
   |none=>rw[hn] at ho;exact ho.elim
   |some b=>cases b with
    |tip=>rw[hn] at ho;exact ho.elim
    |obj o _=>rw[hn] at ho;exact ho.elim
    |mp _ _=>rw[hn] at ho;exact ho.elim
    |mit _ _ _ _=>rw[hn] at ho;exact ho.elim
    |arr k' es=>rw[hn] at ho hR;exact⟨ho.1,ho.2.1,ho.2.2,hR⟩
  exact⟨ho.1,ho.2,hR⟩
 case aBw kS ks z ok x i=>
  refine⟨ho.1,?_⟩;have ho:=ho.2;generalize x.ev sl=v at ho hR⊢;cases v<;>try (exact ho.elim)
  ·exact hR
  rename_i n;simp only at ho hR⊢;cases hn:h n with
  |none=>rw[hn] at ho;exact ho.elim
  |some b=>cases b with
   |mp es c=>
    rw[hn] at ho hR;cases hf:fC (.plain kS ks) (i.ev sl) es with
    |none=>simp[hf] at ho
    |some r=>simp only[hf,Qa] at hR⊢;exact hR
   |_=>rw[hn] at ho;exact ho.elim
 case aER x=>
  generalize x.ev sl=v at ho hR⊢;cases v<;>try (exact ho.elim)
  ·exact hR
  rename_i n;simp only at ho hR⊢;cases hn:h n with
  |none=>rw[hn] at ho;exact ho.elim
  |some b=>cases b with
   |mp es c=>rw[hn] at hR;exact hR
   |_=>rw[hn] at ho;exact ho.elim
 case aBn k x i=>
  generalize x.ev sl=v at ho hR⊢;generalize i.ev sl=u at ho hR⊢;cases v<;>try (exact ho.elim)
  ·cases u<;>first|exact ho.elim|exact⟨ho.1,ho.2.1,ho.2.2,hR⟩
  cases u<;>first|exact ho.elim|exact⟨ho.1,ho.2.1,ho.2.2,hR⟩
 case aDp n k x i=>
  generalize x.ev sl=v at ho hR⊢;generalize i.ev sl=u at ho hR⊢;cases v<;>try (exact ho.elim)
  all_goals (cases u<;>first|exact ho.elim|exact⟨ho.1,ho.2,hR⟩)
 case pick c a b=>
  generalize c.ev sl=v at ho hR⊢;cases v<;>first|exact ho.elim|exact hR
 case build z ps=>exact⟨ho,hR⟩
 case slc k x lo hi mx=>
  generalize x.ev sl=v at ho hR⊢;cases v<;>try (exact ho.elim)
  ·rename_i k' own es;simp only at ho hR⊢;generalize fB sl hi=og1 at hR⊢;generalize fB sl mx=og2 at hR⊢;generalize eA sl 0 lo=b1 at ho hR⊢;generalize eA sl es.length hi=b2 at ho hR⊢;generalize eA sl es.length mx=b3 at ho hR⊢;cases b1<;>try (exact ho.elim)
   cases b2<;>try (exact ho.elim)
   cases b3<;>try (exact ho.elim)
   exact⟨ho.1,ho.2.1,ho.2.2.1,ho.2.2.2.1,ho.2.2.2.2.1,ho.2.2.2.2.2,hR⟩
  rename_i n k' off ln;simp only at ho hR⊢;generalize eA sl 0 lo=b1 at ho hR⊢;generalize eA sl ln hi=b2 at ho hR⊢;cases b1<;>try (exact ho.elim)
  cases b2<;>try (exact ho.elim)
  cases mx with
  |none=>exact⟨ho.1,ho.2.1,ho.2.2.1,ho.2.2.2,by simpa using hR⟩
  |some m=>exact⟨ho.1,ho.2.1,ho.2.2.1,ho.2.2.2.1,ho.2.2.2.2,by simpa using hR⟩
 case aFv x lo hi=>
  generalize x.ev sl=v at ho hR⊢;cases v<;>try (exact ho.elim)
  rename_i s;simp only at ho hR⊢;generalize eA sl 0 lo=b1 at ho hR⊢;generalize eA sl s.size hi=b2 at ho hR⊢;cases b1<;>try (exact ho.elim)
  cases b2<;>try (exact ho.elim)
  exact⟨ho.1,ho.2.1,ho.2.2,hR⟩
 case aIi x=>
  generalize x.ev sl=v at ho hR⊢;cases v<;>try (exact ho.elim)
  rename_i k own es;cases own<;>first|exact ho.elim|exact hR
 case mnx b x y=>
  generalize x.ev sl=v at ho hR⊢;generalize y.ev sl=u at ho hR⊢;cases v<;>try (exact ho.elim)
  cases u<;>first|exact ho.elim|exact⟨ho,hR⟩
 case aFm n k x hi=>
  generalize x.ev sl=v at ho hR⊢;split at ho
  ·generalize eA sl n hi=b at ho hR⊢;cases b<;>first|exact ho.elim|exact⟨ho.1,ho.2.1,ho.2.2,hR⟩
  exact ho.elim
 case aHK x y=>
  generalize x.ev sl=v at ho hR⊢;generalize y.ev sl=u at ho hR⊢;cases v<;>try (exact ho.elim)
  cases u<;>first|exact ho.elim|exact⟨ho.1,ho.2,hR⟩
 case aHG t z x=>
  generalize x.ev sl=v at ho hR⊢;cases v<;>first|exact ho.elim|exact hR
 case aIl t x=>
  generalize x.ev sl=v at ho hR⊢;cases v<;>first|exact ho.elim|exact⟨ho,hR⟩
 case move=>exact hR
 case aBM=>exact hR
 case aC0=>exact hR
 case nilCheck x=>
  generalize x.ev sl=v at ho hR⊢;cases v<;>first|exact ho.elim|exact hR|exact⟨ho,hR⟩|exact⟨ho.1,ho.2,hR⟩
 case not x=>
  generalize x.ev sl=v at ho hR⊢;cases v<;>first|exact ho.elim|exact hR|exact⟨ho,hR⟩|exact⟨ho.1,ho.2,hR⟩
 case neg x=>
  generalize x.ev sl=v at ho hR⊢;cases v<;>first|exact ho.elim|exact hR|exact⟨ho,hR⟩|exact⟨ho.1,ho.2,hR⟩
 case conv k x=>
  generalize x.ev sl=v at ho hR⊢;cases v<;>first|exact ho.elim|exact hR|exact⟨ho,hR⟩|exact⟨ho.1,ho.2,hR⟩
 case aHF o x=>
  generalize x.ev sl=v at ho hR⊢;cases v<;>first|exact ho.elim|exact hR|exact⟨ho,hR⟩|exact⟨ho.1,ho.2,hR⟩
 case fld t o x=>
  generalize x.ev sl=v at ho hR⊢;cases v<;>first|exact ho.elim|exact hR|exact⟨ho,hR⟩|exact⟨ho.1,ho.2,hR⟩
 case len x=>
  generalize x.ev sl=v at ho hR⊢;cases v<;>first|exact ho.elim|exact hR|exact⟨ho,hR⟩|exact⟨ho.1,ho.2,hR⟩
 case aHJ x=>
  generalize x.ev sl=v at ho hR⊢;cases v<;>first|exact ho.elim|exact hR|exact⟨ho,hR⟩|exact⟨ho.1,ho.2,hR⟩
 case ext x i=>
  generalize x.ev sl=v at ho hR⊢;cases v<;>first|exact ho.elim|exact hR|exact⟨ho,hR⟩|exact⟨ho.1,ho.2,hR⟩
def LOp.aAn:LOp→Bool
 | .call _ _=>true
 | .aAc _ _=>true
 | .aAZ _ _ _=>true
 | .mp _=>true
 |_=>false
def LOp.next(dst:Option Nat)(s:St):LOp→St
 | .val x=>⟨bN s.sl dst (x.out s.sl s.h),s.h,s.nx⟩
 | .box k x=>⟨bN s.sl dst (.ptr s.nx k 0 0),s.h.set s.nx (.arr k [x.ev s.sl]),s.nx+1⟩
 | .aAd k es=>⟨bN s.sl dst (.sl k (.tok s.nx) (es.map (aO.ev s.sl))),s.h.set s.nx .tip,s.nx+1⟩
 | .append k _ x y=>match eJ s.h (y.ev s.sl) with
  |some (_,ys)=>match x.ev s.sl with
   | .sl _ own xs=>⟨bN s.sl dst (.sl k (fW s.nx own ys) (xs++ys)),fE s.h s.nx own ys,s.nx+1⟩
   | .rs n _ _ _=>match s.h n with
    |some (.arr _ es)=>⟨bN s.sl dst (.rs s.nx k 0 (es.length+ys.length)),(s.h.del n).set s.nx (.arr k (es++ys)),s.nx+1⟩
    |_=>s
   |_=>s
  |none=>s
 | .store t x v=>match x.ev s.sl with
  | .ptr n k i o=>match s.h n with
   |some (.arr _ es)=>⟨bN s.sl dst Ka,s.h.set n (.arr k (es.set i (bU t o (es.getD i Ka) (v.ev s.sl)))),s.nx+1⟩
   |_=>s
  |_=>s
 | .mkz k _ x z=>match x.ev s.sl with
  | .int _ m=>⟨bN s.sl dst (.rs s.nx k 0 m.toNat),s.h.set s.nx (.arr k (Kv m.toNat z)),s.nx+1⟩
  |_=>s
 | .aCk k _ _ y z=>match y.ev s.sl with
  | .int _ m=>⟨bN s.sl dst (.rs s.nx k 0 m.toNat),s.h.set s.nx (.arr k (Kv m.toNat z)),s.nx+1⟩
  |_=>s
 | .clear k x z=>match x.ev s.sl with
  | .rs n _ off ln=>match s.h n with
   |some (.arr _ es)=>⟨bN s.sl dst Ka,s.h.set n (.arr k (es.take off++Kv ln z++es.drop (off+ln))),s.nx+1⟩
   |_=>s
  |_=>⟨bN s.sl dst Ka,s.h,s.nx+1⟩
 |_=>s
def LOp.ok(s:St):LOp→Prop
 | .val x=>x.ok s.sl s.h
 | .box k x=>(x.ev s.sl).fits k=true
 | .aAd k es=>∀e∈es,(e.ev s.sl).fits k=true
 | .append k bytes x y=>match eJ s.h (y.ev s.sl) with
  |some (ky,ys)=>ky=k∧match x.ev s.sl with
   | .sl kx own xs=>kx=k∧(xs.length+ys.length)*bytes≤140737488355328∧tI s.h own
   | .rs n kx off len=>match s.h n with
    |some (.arr kb es)=>kx=k∧kb=k∧off=0∧len=es.length∧ys≠ []∧(es.length+ys.length)*bytes≤140737488355328
    |_=>False
   |_=>False
  |none=>False
 | .store t x v=>match x.ev s.sl with
  | .ptr n k i o=>match s.h n with
   |some (.arr k' es)=>k'=k∧i<es.length∧cR k t o∧(v.ev s.sl).fits t=true
   |_=>False
  |_=>False
 | .mkz _ bytes x _=>match x.ev s.sl with
  | .int _ m=>0≤m∧m.toNat*bytes≤140737488355328
  |_=>False
 | .aCk k bytes x y _=>match x.ev s.sl,y.ev s.sl with
  | .sl k' .nil [], .int _ m=>k'=k∧0<m∧m.toNat*bytes≤140737488355328
  |_,_=>False
 | .clear k x _=>match x.ev s.sl with
  | .rs n k' off ln=>match s.h n with
   |some (.arr kb es)=>k'=k∧kb=k∧off+ln≤es.length
   |_=>False
  | .sl _ _ []=>True
  |_=>False
 |_=>False
def aA.next(o:aA)(s:St):St:=
 match o.g with
 |none=>o.op.next o.dst s
 |some (t,want)=>match s.sl.getD t Ka with
  | .bool b=>if b=want then o.op.next o.dst s else ⟨bN s.sl o.dst Ka,s.h,s.nx⟩
  |_=>⟨bN s.sl o.dst Ka,s.h,s.nx⟩
def aA.ok(o:aA)(s:St):Prop:=
 match o.g with
 |none=>o.op.ok s
 |some (t,want)=>match s.sl.getD t Ka with
  | .bool b=>b=want→o.op.ok s
  | .tup _=>True
  |_=>False
def jV:List aA→St→St
 | [],s=>s
 |o::r,s=>jV r (o.next s)
def qE:List aA→St→Prop
 | [],_=>True
 |o::r,s=>o.ok s∧qE r (o.next s)
theorem sH{P:Program}{o:aA}{r:List aA}{Q:St→Prop}{s:St}(hc:o.op.aAn=false)(ho:o.ok s)(h:bB P r Q (o.next s)):bB P (o::r) Q s:=by
 have go:o.op.ok s→bB P r Q (o.op.next o.dst s)→o.op.run P s.sl s.h s.nx fun v h' nx'=>bB P r Q ⟨bN s.sl o.dst v,h',nx'⟩:=by
  intro ho h;generalize o.op=op at hc ho h⊢;cases op with
  |val x=>exact bL.aBL (R:=fun v=>bB P r Q ⟨bN s.sl o.dst v,s.h,s.nx⟩) ho h
  |box k x=>exact⟨ho,h⟩
  |aAd k es=>exact⟨ho, .inl h⟩
  |mkz k b x z=>
   simp only[LOp.ok,LOp.next,Kc,Kd] at ho h⊢;generalize x.ev s.sl=v at ho h⊢;cases v<;>first|exact ho.elim|exact⟨ho.1,ho.2, .inl h⟩
  |aCk k b x y z=>
   simp only[LOp.ok,LOp.next,Kc,Kd] at ho h⊢;generalize x.ev s.sl=v at ho h⊢;generalize y.ev s.sl=u at ho h⊢;split at ho
   ·exact⟨ho.1,ho.2.1,ho.2.2,h⟩
   exact ho.elim
  |clear k x z=>
   simp only[LOp.ok,LOp.next,Kc,Kd] at ho h⊢;generalize x.ev s.sl=v at ho h⊢;split at ho
   ·rename_i n k' off ln;simp only at h⊢;cases hn:s.h n with
    |none=>rw[hn] at ho;exact ho.elim
    |some b=>cases b with
     |tip=>rw[hn] at ho;exact ho.elim
     |obj o _=>rw[hn] at ho;exact ho.elim
     |mp _ _=>rw[hn] at ho;exact ho.elim
     |mit _ _ _ _=>rw[hn] at ho;exact ho.elim
     |arr k' es=>rw[hn] at ho h;exact⟨ho.1,ho.2.1,ho.2.2,h⟩
   ·exact h
   exact ho.elim
  |aAZ f a b=>simp[LOp.aAn] at hc
  |mp m=>simp[LOp.aAn] at hc
  |append k b x y=>
   simp only[LOp.ok,LOp.next,Kc,Kd] at ho h⊢;generalize x.ev s.sl=v at ho h⊢;generalize eJ s.h (y.ev s.sl)=u at ho h⊢;cases u with
   |none=>exact ho.elim
   |some u=>
    obtain⟨ky,ys⟩:=u;refine⟨ho.1,?_⟩
    replace ho:=ho.2
    cases v<;>try (exact ho.elim)
    ·exact⟨ho.1,ho.2.1, .inl ⟨ho.2.2,h⟩⟩
    rename_i n kx off len;simp only at ho h⊢;cases hn:s.h n with
    |none=>rw[hn] at ho;exact ho.elim
    |some b=>cases b with
     |tip=>rw[hn] at ho;exact ho.elim
     |obj o _=>rw[hn] at ho;exact ho.elim
     |mp _ _=>rw[hn] at ho;exact ho.elim
     |mit _ _ _ _=>rw[hn] at ho;exact ho.elim
     |arr k' es=>
      rw[hn] at ho h;obtain⟨o1,o2,o3,o4,o5,o6⟩:=ho;subst o4;refine⟨o1, .inr ⟨o2,o3,Kw _,o5,o6,?_⟩⟩;simp only[List.take_length];exact h
  |store t x v=>
   simp only[LOp.ok,LOp.next,Kc,Kd] at ho h⊢;generalize x.ev s.sl=u at ho h⊢;cases u<;>try (exact ho.elim)
   rename_i n k i o';simp only at ho h⊢;cases hn:s.h n with
   |none=>rw[hn] at ho;exact ho.elim
   |some b=>cases b with
    |tip=>rw[hn] at ho;exact ho.elim
    |obj o _=>rw[hn] at ho;exact ho.elim
    |mp _ _=>rw[hn] at ho;exact ho.elim
    |mit _ _ _ _=>rw[hn] at ho;exact ho.elim
    |arr k' es=>rw[hn] at ho h;exact⟨ho.1,ho.2.1,ho.2.2.1,ho.2.2.2,h⟩
  |call f a=>simp[LOp.aAn] at hc
  |aAc x a=>simp[LOp.aAn] at hc
 unfold bB;unfold aA.ok at ho;unfold aA.next at h;cases hg:o.g with
 |none=>rw[hg] at ho h;exact go ho h
 |some p=>
  obtain⟨t,want⟩:=p;rw[hg] at ho h;simp only at ho h⊢
  cases hv:s.sl.getD t Ka<;>rw[hv] at ho h<;>simp only at ho h⊢<;>first
   |exact ho.elim
   |exact h
   |(split at h
     ·rename_i e;rw[if_pos e];exact go (ho e) h
     rename_i e;rw[if_neg e];exact h)
def tS:List aA→List aA
 | []=>[]
 |o::r=>if o.op.aAn=true then [] else o::tS r
def sB:List aA→List aA
 | []=>[]
 |o::r=>if o.op.aAn=true then o::r else sB r
theorem rl{P:Program}{Q:St→Prop}:∀(l:List aA) (s:St),qE (tS l) s→bB P (sB l) Q (jV (tS l) s)→bB P l Q s
 | [],s,_,h=>h
 |o::r,s,ho,h=>by
  by_cases hc:o.op.aAn=true
  ·simp only[tS,sB,hc,if_true] at ho h;exact h
  simp only[tS,sB,hc] at ho h;exact sH (by simpa using hc) ho.1 (rl r _ ho.2 h)
theorem BA{P:Program}{Q:St→Prop}(l:List aA)(hl:l.all (fun o=> !o.op.aAn)=true)(s:St)(ho:qE l s)(h:Q (jV l s)):bB P l Q s:=by
 have e1:∀l:List aA,l.all (fun o=> !o.op.aAn)=true→tS l=l∧sB l=[]:=by
  intro l;induction l with
  |nil=>intro _;exact⟨rfl,rfl⟩
  |cons o r ih=>
   intro h;simp only[List.all_cons,Kg,Bool.not_eq_true'] at h;obtain⟨q1,q2⟩:=ih h.2;constructor
   ·simp only[tS,h.1,q1];rfl
   simp only[sB,h.1,q2];rfl
 obtain⟨q1,q2⟩:=e1 l hl;refine rl l s (by rw[q1];exact ho) ?_;rw[q1,q2];exact h
abbrev Hp.none:Hp:=fun _=>Option.none
theorem yH{a b c:Hp}(h:Kf a b)(h':Kf b c):Kf a c:=fun n b e hb=>h' n b (h n b e hb) hb
theorem bK(h:Hp):Kf Hp.none h:=fun n b e _=>by cases e
theorem aU(h:Hp):Kf h h:=fun _ _ e _=>e
theorem aX.mono{P:Program}{f:FuncId}{args:List V}{h h':Hp}{v:V}(p:aX P f args h v)(hh:h.has h'):aX P f args h' v:=fun h'' nx q=>p h'' nx (yH hh q)
theorem rT.mono{P:Program}{f:FuncId}{args:List V}{h h':Hp}{k:Sh}{es:List V}(p:rT P f args h k es)(hh:h.has h'):rT P f args h' k es:=⟨p.1,fun h'' nx q=>p.2 h'' nx (yH hh q)⟩
theorem aP{P:Program}{f:FuncId}{args:List V}{h:Hp}{v:V}(hv:∀L,v.names L)(hc:∀h' nx,h.has h'→bD P f args h' nx fun v' h'' _=>v'=v∧h''=h'):aX P f args h v:=by
 intro h' nx hh;have c:=hc h' nx hh;refine⟨c.1,fun K aAK hlv aAS aDF=>(c.2 K aAK hlv aAS aDF).mono ?_⟩;rintro e w' ⟨K',v',cv,h'',nx',rfl,he,hle,hvr,aA3,aEa,hnx,rfl,rfl⟩;have aEc:K.le (K'.only fun n=>K'.live n∧n<nx):=⟨fun n hn=>⟨hle.live n hn,hlv n hn⟩,hle.mu,hle.tp,hle.fro,hle.imm,hle.cell,hle.shape,hle.below⟩;exact⟨K'.only fun n=>K'.live n∧n<nx,v',cv,h'',nx,rfl,he,aEc,hvr.only _ (hv _),aAS.back aA3 aEc.toV (fun n hn=>⟨hle.live n hn,hlv n hn⟩),fun n hn=>⟨hn.2,(aEa n hn.1).2⟩,Kw _,rfl,rfl,rfl⟩
theorem sr{P:Program}{f:FuncId}{args:List V}{h:Hp}{k:Sh}{es:List V}(hv:∀L,bP L es)(hc:∀h' nx,h.has h'→bD P f args h' nx fun v' h'' _=>∃id,nx≤id∧v'= .sl k (.tok id) es∧h''=h'.set id .tip):rT P f args h k es:=by
 refine⟨hv,?_⟩;intro h' nx hh;have c:=hc h' nx hh;refine⟨c.1,fun K aAK hlv aAS aDF=>(c.2 K aAK hlv aAS aDF).mono ?_⟩;rintro e w' ⟨K',v',cv,h'',nx',rfl,he,hle,hvr,aA3,aEa,hnx,id,hid,rfl,rfl⟩;have aBb:∀n b,h' n=some b→n<nx:=fun n b e=>hlv n (aAS.lt n b e);have aAR:(h'.set id .tip) id=some .tip:=by simp[Kb]
 --first all names of its own but the token are forgotten,then the token is called nx
 have aA9:K.le (K'.only fun n=>(K'.live n∧n<nx)∨n=id):=⟨fun n hn=> .inl ⟨hle.live n hn,hlv n hn⟩,hle.mu,hle.tp,hle.fro,hle.imm,hle.cell,hle.shape,hle.below⟩;have aT9:K'.live id:=aA3.lt id _ aAR;have aCA:Rel (K'.only fun n=>(K'.live n∧n<nx)∨n=id) (h'.set id .tip):=by
  refine⟨fun n b e=>?_,aA3.base,fun n b e=>?_,aA3.inj,aA3.size⟩
  ·unfold Kb at e;split at e
   ·rename_i hn;exact .inr hn
   exact .inl ⟨hle.live n (aAS.lt n b e),aBb n b e⟩
  have hb':=aA3.blk n b e;cases hb' with
  |tip c T hh hi ht=>exact .tip c T hh hi ht
  |obj o U hh ho _ hU=>
   have hne:n≠id:=by rintro rfl;rw[aAR] at e;cases e
   have e':h' n=some (.obj o U):=by unfold Kb at e;rw[if_neg hne] at e;exact e
   have hb:=aAS.blk n _ e';cases hb with
   |obj _ _ _ _ hu _=>exact .obj o U hh ho (hU _ _ aA9.toV hu) hU
  |arr k es c T hh hsz hi aAH hvs=>
   have hne:n≠id:=by rintro rfl;rw[aAR] at e;cases e
   have e':h' n=some (.arr k es):=by unfold Kb at e;rw[if_neg hne] at e;exact e
   refine .arr k es c T hh hsz hi aAH fun i hi j hj=>(hvs i hi j hj).only _ ?_;have hb:=aAS.blk n _ e';cases hb with
   |arr _ _ c0 T0 hh0 aJG hi0 aEe aET=>exact cN (fun m hm=> .inl ⟨hle.live m hm,hlv m hm⟩) (aET i hi j hj).names
  |mp es c ces hh hl hvv=>
   have hne:n≠id:=by rintro rfl;rw[aAR] at e;cases e
   have e':h' n=some (.mp es c):=by unfold Kb at e;rw[if_neg hne] at e;exact e
   have hb:=aAS.blk n _ e';cases hb with
   |mp _ _ aMn hh0 hl0 hv0=>exact .mp es c ces hh hl fun i hi=>⟨(hvv i hi).1.only _ (cN (fun m hm=> .inl ⟨hle.live m hm,hlv m hm⟩) (hv0 i hi).1.names),(hvv i hi).2.1.only _ (cN (fun m hm=> .inl ⟨hle.live m hm,hlv m hm⟩) (hv0 i hi).2.1.names),(hvv i hi).2.2⟩
  |mit m since seen last hh hm=>
   have hne:n≠id:=by rintro rfl;rw[aAR] at e;cases e
   have e':h' n=some (.mit m since seen last):=by unfold Kb at e;rw[if_neg hne] at e;exact e
   have hb:=aAS.blk n _ e';cases hb with
   |mit _ _ _ _ hh0 hm0=>exact .mit m since seen last hh (.inl ⟨hle.live m hm0,hlv m hm0⟩)
 have aHT:VR (K'.only fun n=>(K'.live n∧n<nx)∨n=id) (.sl k (.tok id) es) cv:=hvr.only _ ⟨fun n e=>by injection e with e;exact .inr e.symm,hv _⟩;by_cases aC1:id=nx
 ·subst aC1;refine⟨K'.only fun n=>(K'.live n∧n<id)∨n=id,_,cv,_,id+1,rfl,he,aA9,aHT,aCA,fun n hn=>?_,or,rfl,rfl,rfl⟩;rcases hn with hn|hn
  ·exact⟨or,(aEa n hn.1).2⟩
  exact⟨or, .inr or⟩
 have hfr:¬((K'.live nx∧nx<nx)∨nx=id):=fun h=>h.elim (fun h=>KT _ h.2) (fun h=>aC1 h.symm);generalize hKA:(K'.only fun n=>(K'.live n∧n<nx)∨n=id)=KA at aA9 aCA aHT;have aIw:¬KA.live nx:=by rw[←hKA];exact hfr
 have hbr:=aCA.blk id _ aAR;have aA4:=KA.aAf (b:=KA.mu id) (m:=KA.imm (KA.mu id)) aIw (Kw _);have aBf:=aCA.aAG aAR (a:=nx) (m:=KA.imm (KA.mu id)) aIw (Kw _) (b1:= .tip) (by
  cases hbr with
  |tip c T hh hi ht=>exact .tip c T (by simpa [Ker.aAG] using hh) (by simp[Ker.aAG]) (by simpa [Ker.aAG,hi] using ht))
 have hn0:h' id=none:=by
  cases e:h' id with
  |none=>rfl
  |some b=>have:=aBb id b e;omega
 have aDu:((h'.set id .tip).del id).set nx .tip=h'.set nx .tip:=by
  funext x;unfold Kb Kk;by_cases e1:x=nx
  ·simp[e1]
  by_cases e2:x=id
  ·simp[e1,e2,hn0]
  simp[e1,e2]
 rw[aDu] at aBf;have aTh:VR (KA.aAG nx (KA.mu id) (KA.imm (KA.mu id))) (.sl k (.tok nx) es) cv:=by
  cases aHT with
  |sl _ _ _ b off cap f' hb' aBE aAJ hst hv aAW aA6 aAo aBH=>
   refine .sl k (.tok nx) es b off cap f' hb' aBE aAJ (fun j hj=>aA4.still hb' (hst j hj)) (fun i hi j hj=>(hv i hi j hj).mono aA4) aAW Zm Zm ?_;intro m hm;injection hm with hm;subst hm;obtain⟨hln,htk⟩:=aBH id rfl;refine⟨.inl rfl,?_⟩;rcases htk with q|⟨q1,q2,q3⟩
   ·exact .inl q
   refine .inr ⟨by simp[Ker.aAG,q1],?_,q3⟩;cases hbr with
   |tip c T hh hi ht=>simp[Ker.aAG,hi,q2]
 --and its old name is forgotten
 have aJW:K.le ((KA.aAG nx (KA.mu id) (KA.imm (KA.mu id))).only fun n=>(K'.live n∧n<nx)∨n=nx):=by
  have:=aA9.trans aA4;exact⟨fun n hn=> .inl ⟨hle.live n hn,hlv n hn⟩,this.mu,this.tp,this.fro,this.imm,this.cell,this.shape,this.below⟩
 refine⟨(KA.aAG nx (KA.mu id) (KA.imm (KA.mu id))).only fun n=>(K'.live n∧n<nx)∨n=nx,_,cv,_,nx+1,?_,he,aJW,aTh.only _ ⟨fun n e=>by injection e with e;exact .inr e.symm,hv _⟩,?_,fun n hn=>?_,or,rfl,rfl,rfl⟩
 ·rw[←hKA];rfl
 ·refine⟨fun n b e=>?_,aBf.base,fun n b e=>?_,aBf.inj,aBf.size⟩
  ·unfold Kb at e;split at e
   ·rename_i hn;exact .inr hn
   exact .inl ⟨hle.live n (aAS.lt n b e),aBb n b e⟩
  have hb':=aBf.blk n b e;cases hb' with
  |tip c T hh hi ht=>exact .tip c T hh hi ht
  |obj o U hh ho _ hU=>
   have hne:n≠nx:=by rintro rfl;simp[Kb] at e
   have e':h' n=some (.obj o U):=by unfold Kb at e;rw[if_neg hne] at e;exact e
   have hb:=aAS.blk n _ e';cases hb with
   |obj _ _ _ _ hu _=>exact .obj o U hh ho (hU _ _ aJW.toV hu) hU
  |arr k es c T hh hsz hi aAH hvs=>
   have hne:n≠nx:=by rintro rfl;simp[Kb] at e
   have e':h' n=some (.arr k es):=by unfold Kb at e;rw[if_neg hne] at e;exact e
   refine .arr k es c T hh hsz hi aAH fun i hi j hj=>(hvs i hi j hj).only _ ?_;have hb:=aAS.blk n _ e';cases hb with
   |arr _ _ c0 T0 hh0 aJG hi0 aEe aET=>exact cN (fun m hm=> .inl ⟨hle.live m hm,hlv m hm⟩) (aET i hi j hj).names
  |mp es c ces hh hl hvv=>
   have hne:n≠nx:=by rintro rfl;simp[Kb] at e
   have e':h' n=some (.mp es c):=by unfold Kb at e;rw[if_neg hne] at e;exact e
   have hb:=aAS.blk n _ e';cases hb with
   |mp _ _ aMn hh0 hl0 hv0=>exact .mp es c ces hh hl fun i hi=>⟨(hvv i hi).1.only _ (cN (fun m hm=> .inl ⟨hle.live m hm,hlv m hm⟩) (hv0 i hi).1.names),(hvv i hi).2.1.only _ (cN (fun m hm=> .inl ⟨hle.live m hm,hlv m hm⟩) (hv0 i hi).2.1.names),(hvv i hi).2.2⟩
  |mit m since seen last hh hm=>
   have hne:n≠nx:=by rintro rfl;simp[Kb] at e
   have e':h' n=some (.mit m since seen last):=by unfold Kb at e;rw[if_neg hne] at e;exact e
   have hb:=aAS.blk n _ e';cases hb with
   |mit _ _ _ _ hh0 hm0=>exact .mit m since seen last hh (.inl ⟨hle.live m hm0,hlv m hm0⟩)
 rcases hn with hn|hn
 ·exact⟨or,(aEa n hn.1).2⟩
 exact⟨or, .inr or⟩
section
variable{P:Program}{Q:cK→St→Prop}{s:St}
theorem eG(h:Q .normal s):lwp P .skip Q s:=h
theorem bH{a b:bF}(h:lwp P a (pB (lwp P b) Q) s):lwp P (.seq a b) Q s:=h
theorem dN{id:Nat}{c:bF}(h:lwp P c (gF id Q) s):lwp P (.block id c) Q s:=h
theorem fT{id:Nat}(h:Q (.exit id) s):lwp P (.exit id) Q s:=h
theorem bT(h:Q .ret s):lwp P .ret Q s:=h
theorem cH{c:aO}{a b:bF}(t:Bool)(hc:c.ev s.sl= .bool t)(ht:t=true→lwp P a Q s)(hf:t=false→lwp P b Q s):lwp P (.cond c a b) Q s:=by
 simp only[lwp,hc];cases t
 ·simpa using hf rfl
 simpa using ht rfl
theorem bM{l:List aA}(h:bB P l (Q .normal) s):lwp P (.ops l) Q s:=h
theorem aM{b:(cK→St→Prop)→St→Prop}(h:b Q s):pB b Q .normal s:=⟨s,(Wk.refl s).tell,h⟩
theorem kK{b:(cK→St→Prop)→St→Prop}(s':St)(hw:Wk s s')(h:b Q s'):pB b Q .normal s:=⟨s',hw.tell,h⟩
theorem zp{b:(cK→St→Prop)→St→Prop}{s':St}(hw:ae s s')(h:pB b Q .normal s'):pB b Q .normal s:=have⟨s2,h2,h3⟩:=h;⟨s2,hw.trans h2,h3⟩
theorem eC{b:(cK→St→Prop)→St→Prop}{id:Nat}(h:Q (.exit id) s):pB b Q (.exit id) s:=h
theorem gV{b:(cK→St→Prop)→St→Prop}(h:Q .ret s):pB b Q .ret s:=h
theorem cC{id:Nat}(h:Q .normal s):gF id Q .normal s:=h
theorem eS{id:Nat}(h:Q .ret s):gF id Q .ret s:=h
theorem cZ{id:Nat}(h:Q .normal s):gF id Q (.exit id) s:=by simp only[gF,if_true];exact h
theorem bG{id id':Nat}(hne:id'≠id)(h:Q (.exit id') s):gF id Q (.exit id') s:=by simp only[gF,if_neg hne];exact h
def mh{ι:Type}(C:ι→Prop)(st:ι→St)(m:ι→Nat)(n:Nat)(Q:cK→St→Prop):cK→St→Prop
 | .normal,s=>∃i,C i∧m i<n∧ae s (st i)
 |e,s=>Q e s
theorem gM{ι:Type}{C:ι→Prop}{st:ι→St}{m:ι→Nat}{n:Nat}(i:ι)(hC:C i)(hm:m i<n)(hw:Wk s (st i)):mh C st m n Q .normal s:=⟨i,hC,hm,hw.tell⟩
theorem dM{ι:Type}{C:ι→Prop}{st:ι→St}{m:ι→Nat}{n:Nat}{id:Nat}(h:Q (.exit id) s):mh C st m n Q (.exit id) s:=h
theorem fG{ι:Type}{C:ι→Prop}{st:ι→St}{m:ι→Nat}{n:Nat}(h:Q .ret s):mh C st m n Q .ret s:=h
theorem LOp.aAs{sl:List V}{hp:Hp}{nx:Nat}{R R':V→Hp→Nat→Prop}{o:LOp}(hR:∀v h' nx',R v h' nx'→R' v h' nx')(hx:o.run P sl hp nx R):o.run P sl hp nx R':=by
 have aTc:∀{sl:List V} {hp:Hp} {R R':V→Prop} {x:bL},(∀v,R v→R' v)→x.sem sl hp R→x.sem sl hp R':=fun hR hx=>bL.aBB (fun _ _ e _=>e) hR hx;cases o with
 |val x=>exact aTc (fun v=>hR v hp nx) hx
 |mp m=>exact MOp.aBB (fun v h'=>hR v h' (nx+1)) hx
 |box k x=>exact⟨hx.1,hR _ _ _ hx.2⟩
 |aAd k es=>exact⟨hx.1,hx.2.imp (hR _ _ _) (hR _ _ _)⟩
 |aAZ f a b=>exact hx.elim
 |mkz k b x z=>
  simp only[Kc,Kd] at hx⊢;revert hx;split
  ·rintro⟨a,b,c⟩;exact⟨a,b,c.imp (hR _ _ _) (hR _ _ _)⟩
  exact id
 |aCk k b x y z=>
  simp only[Kc,Kd] at hx⊢;revert hx;split
  ·rintro⟨a,b,c,d⟩;exact⟨a,b,c,hR _ _ _ d⟩
  exact id
 |clear k x z=>
  simp only[Kc,Kd] at hx⊢;revert hx;split
  ·split
   ·rintro⟨a,b,c,d⟩;exact⟨a,b,c,hR _ _ _ d⟩
   exact id
  ·exact hR _ _ _
  exact id
 |append k b x y=>
  simp only[Kc,Kd] at hx⊢;revert hx;split
  ·rintro⟨a,hx⟩;refine⟨a,?_⟩;revert hx;split
   ·rintro⟨b,c,⟨d,e⟩|⟨d,e,f,g⟩⟩
    ·exact⟨b,c, .inl ⟨d,hR _ _ _ e⟩⟩
    exact⟨b,c, .inr ⟨d,e,f,hR _ _ _ g⟩⟩
   ·split
    ·rintro⟨b,⟨c,d⟩|⟨c,d,e,f,g,i⟩⟩
     ·exact⟨b, .inl ⟨c,hR _ _ _ d⟩⟩
     exact⟨b, .inr ⟨c,d,e,f,g,hR _ _ _ i⟩⟩
    exact id
   exact id
  exact id
 |store t x v=>
  simp only[Kc,Kd] at hx⊢;revert hx;split
  ·split
   ·rintro⟨a,b,c,d,e⟩;exact⟨a,b,c,d,hR _ _ _ e⟩
   exact id
  exact id
 |call f args=>exact bD.mono hx fun v h' nx' _=>hR v h' nx'
 |aAc x args=>
  simp only[Kc] at hx⊢;revert hx;split
  ·exact fun hx=>bD.mono hx fun v h' nx' _=>hR v h' nx'
  ·exact fun hx=>gG.mono hx fun v h' nx' _=>hR v h' nx'
  exact id
theorem gO{Q Q':St→Prop}(h:∀s,Q s→Q' s):∀(l:List aA) (s:St),bB P l Q s→bB P l Q' s:=by
 intro l;induction l with
 |nil=>exact fun s hs=>h s hs
 |cons o r ih=>
  intro s hs;unfold bB at hs⊢;revert hs;split
  ·exact LOp.aAs fun v h' nx'=>ih _
  split
  ·split
   ·exact LOp.aAs fun v h' nx'=>ih _
   exact ih _
  ·exact ih _
  exact id
theorem j6{h0:Hp}{nx0:Nat}{Q Q':List V→List (Option Blk)→List (Option Con)→Prop}(h:∀a b c,Q a b c→Q' a b c):∀(l:List (aA×List Nat)) (sl:List V) (aAL:List (Option Blk)) (cons:List (Option Con)),dC P h0 nx0 l sl aAL cons Q→dC P h0 nx0 l sl aAL cons Q'
 | [],sl,aAL,cons,hd=>h _ _ _ hd
 |(o,aAP)::r,sl,aAL,cons,hd=>by
  unfold dC at hd⊢;obtain⟨d,h1,h2,h3⟩:=yL hd;exact wV h1 ⟨h2,j6 h r _ _ _ h3⟩
theorem qZ{c:bF}:∀{Q Q':cK→St→Prop} {s:St},(∀e s,Q e s→Q' e s)→lwp P c Q s→lwp P c Q' s:=by
 induction c with
 |skip=>exact fun h hs=>h _ _ hs
 |ops l=>exact fun h hs=>gO (fun s=>h _ s) l _ hs
 |draw n hd tl=>exact fun h hs=>hs.imp (fun hs=>⟨hs.1,j6 (fun a b c hq=>gO (fun s=>h _ s) tl _ hq) hd _ _ _ hs.2⟩) (fun⟨I,h0,h1,h2⟩=>⟨I,h0,h1,fun D s' hD hI=>gO (fun s=>h _ s) tl _ (h2 D s' hD hI)⟩)
 |seq a b iha ihb=>
  intro Q Q' s h hs;refine iha ?_ hs;intro e s' hq;cases e with
  |normal=>obtain⟨s'',hw,hb⟩:=hq;exact⟨s'',hw,ihb h hb⟩
  |exit id=>exact h _ _ hq
  |ret=>exact h _ _ hq
 |cond c a b iha ihb=>
  intro Q Q' s h hs;simp only[lwp] at hs⊢;revert hs;split
  ·split
   ·exact iha h
   exact ihb h
  exact id
 |block id c ih=>
  intro Q Q' s h hs;refine ih ?_ hs;intro e s' hq;cases e with
  |normal=>exact h _ _ hq
  |exit id'=>
   simp only[gF] at hq⊢;revert hq;split<;>exact h _ _
  |ret=>exact h _ _ hq
 |loop c ih=>
  rintro Q Q' s h ⟨I,m,h0,hr⟩;refine⟨I,m,h0,fun s' hI=>ih ?_ (hr s' hI)⟩;intro e s'' hq;cases e with
  |normal=>exact hq
  |exit id=>exact h _ _ hq
  |ret=>exact h _ _ hq
 |exit id=>exact fun h hs=>h _ _ hs
 |ret=>exact fun h hs=>h _ _ hs
 |range g ps as b iha ihb=>
  intro Q Q' s h hs;simp only[lwp] at hs⊢;revert hs;split
  ·intro hs rcd U hp hY;refine(hs rcd U hp hY).mono ?_;rintro v h' nx' _ (⟨ho,hq⟩|⟨ho,hq⟩|⟨id,ho,hq⟩)
   ·exact .inl ⟨ho,h _ _ hq⟩
   ·exact .inr (.inl ⟨ho,h _ _ hq⟩)
   exact .inr (.inr ⟨id,ho,h _ _ hq⟩)
  exact id
theorem mP{c:bF}{ι:Type}(C:ι→Prop)(st:ι→St)(m:ι→Nat)(i0:ι)(h0:C i0)(hw0:Wk s (st i0))(hr:∀i,C i→lwp P c (mh C st m (m i) Q) (st i)):lwp P (.loop c) Q s:=by
 --the measure of a state is the least that an index of it has
 have least:∀(p:Nat→Prop),(∃n,p n)→∃n,p n∧∀k,p k→n≤k:=by
  intro p ⟨n,hn⟩;induction n using Nat.strongRecOn with
  |_ n ih=>
   by_cases hex:∃k,k<n∧p k
   ·obtain⟨k,hk,hp⟩:=hex;exact ih k hk hp
   exact⟨n,hn,fun k hk=>by
    rcases KN k n with h|h
    ·exact absurd ⟨k,h,hk⟩ hex
    exact h⟩
 refine⟨fun s'=>∃i,C i∧s'=st i,fun s'=>leastOf fun n=>∃i,C i∧s'=st i∧m i=n,⟨st i0,hw0.tell,i0,h0,rfl⟩,?_⟩;rintro s' ⟨i,hi,rfl⟩;have hl:=leastOf_spec (p:=fun n=>∃j,C j∧st i=st j∧m j=n) ⟨m i,i,hi,rfl,rfl⟩;obtain⟨⟨j,hj,hij,hmj⟩,aTC⟩:=hl;rw[hij];refine qZ ?_ (hr j hj);intro e s'' hq;cases e with
 |normal=>
  obtain⟨i',hC',hm',hw'⟩:=hq;refine⟨st i',hw',⟨i',hC',rfl⟩,?_⟩;have h2:=(leastOf_spec (p:=fun n=>∃j,C j∧st i'=st j∧m j=n) ⟨m i',i',hC',rfl,rfl⟩).2 (m i') ⟨i',hC',rfl,rfl⟩;have h3:leastOf (fun n=>∃k,C k∧st j=st k∧m k=n)=m j:=by
   rw[←hij,hmj]
  show leastOf (fun n=>∃k,C k∧st i'=st k∧m k=n)<leastOf (fun n=>∃k,C k∧st j=st k∧m k=n);rw[h3];exact Nat.lt_of_le_of_lt h2 hm'
 |exit id=>exact hq
 |ret=>exact hq
variable{Qs:St→Prop}{r:List aA}{dst:Option Nat}{f:FuncId}{args:List aO}
def eI(P:Program)(r:List aA)(Qs:St→Prop)(sl:List V)(dst:Option Nat)(v:V)(h:Hp)(nx:Nat):Prop:=bB P r Qs ⟨bN sl dst v,h,nx⟩
theorem bX(h:bD P f (args.map (aO.ev s.sl)) s.h s.nx (eI P r Qs s.sl dst)):bB P (⟨dst,none, .call f args⟩::r) Qs s:=h
theorem wj{x:aO}{f':Nat}{first cap:List V}(hx:x.ev s.sl= .fn (.func f') first cap)(h:bD P f' (first++args.map (aO.ev s.sl)++cap) s.h s.nx (eI P r Qs s.sl dst)):bB P (⟨dst,none, .aAc x args⟩::r) Qs s:=by
 unfold bB;simp only[Kc,hx];exact h
theorem gG.weaken{n:Nat}{args:List V}{h h2:Hp}{nx:Nat}{R:V→Hp→Nat→Prop}(c:gG P n args h nx R)(hle:h.le h2):gG P n args h2 nx R:=
 fun m K aAK hl hn aAS hv=>c m K aAK hl hn (aAS.weaken hle) hv
theorem wi{x:aO}{n:Nat}(hx:x.ev s.sl= .yld n)(h:gG P n (args.map (aO.ev s.sl)) s.h s.nx (eI P r Qs s.sl dst)):bB P (⟨dst,none, .aAc x args⟩::r) Qs s:=by
 unfold bB;simp only[Kc,hx];exact h
theorem aQ{h:Hp}{aAm:List V}{v:V}(hp:aX P f aAm h v)(ha:args.map (aO.ev s.sl)=aAm)(hh:h.has s.h)(hq:bB P r Qs ⟨bN s.sl dst v,s.h,s.nx⟩):bB P (⟨dst,none, .call f args⟩::r) Qs s:=by
 refine bX ?_;rw[ha];refine(hp s.h s.nx hh).mono ?_;rintro v' h' nx' _ ⟨rfl,rfl,rfl⟩;exact hq
theorem pL{x:aO}{f':Nat}{first cap:List V}(hx:x.ev s.sl= .fn (.func f') first cap){h:Hp}{aAm:List V}{v:V}(hp:aX P f' aAm h v)(ha:first++args.map (aO.ev s.sl)++cap=aAm)(hh:h.has s.h)(hq:bB P r Qs ⟨bN s.sl dst v,s.h,s.nx⟩):bB P (⟨dst,none, .aAc x args⟩::r) Qs s:=by
 refine wj hx ?_;rw[ha];refine(hp s.h s.nx hh).mono ?_;rintro v' h' nx' _ ⟨rfl,rfl,rfl⟩;exact hq
theorem tW{t:Nat}{want b:Bool}{op:LOp}(hb:s.sl.getD t Ka= .bool b)(h1:b=want→bB P (⟨dst,none,op⟩::r) Qs s)(h2:b≠want→bB P r Qs ⟨bN s.sl dst Ka,s.h,s.nx⟩):bB P (⟨dst,some (t,want),op⟩::r) Qs s:=by
 unfold bB;simp only[hb];split
 ·rename_i e;exact h1 e
 rename_i e;exact h2 e
theorem cA{t:Nat}{want:Bool}{op:LOp}(hb:s.sl.getD t Ka= .tup [])(h2:bB P r Qs ⟨bN s.sl dst Ka,s.h,s.nx⟩):bB P (⟨dst,some (t,want),op⟩::r) Qs s:=by
 unfold bB;simp only[hb];exact h2
end
def LOp.aFr(sl:List V)(h0:Hp)(a:Nat):LOp→fX
 | .mp .mk=>⟨.map a,some (.mp [] 0),none⟩
 | .val x=>⟨x.out sl h0,none,none⟩
 | .box k x=>⟨.ptr a k 0 0,some (.arr k [x.ev sl]),none⟩
 | .aAd k es=>⟨.sl k (.tok a) (es.map (aO.ev sl)),some .tip,none⟩
 | .append k _ x y=>match x.ev sl,y.ev sl with
  | .sl _ .nil xs, .sl _ _ ys=>⟨.sl k (fW a .nil ys) (xs++ys),if ys.isEmpty then none else some .tip,none⟩
  | .sl _ .full xs, .sl _ _ ys=>⟨.sl k (fW a .full ys) (xs++ys),if ys.isEmpty then none else some .tip,none⟩
  | .sl _ (.tok n) xs, .sl _ _ ys=>⟨.sl k (.tok a) (xs++ys),some .tip,some ⟨n, .tip,none⟩⟩
  |_,_=>⟨.undef,none,none⟩
 | .mkz k _ x z=>match x.ev sl with
  | .int _ m=>⟨.rs a k 0 m.toNat,some (.arr k (Kv m.toNat z)),none⟩
  |_=>⟨.undef,none,none⟩
 | .aCk k _ _ y z=>match y.ev sl with
  | .int _ m=>⟨.rs a k 0 m.toNat,some (.arr k (Kv m.toNat z)),none⟩
  |_=>⟨.undef,none,none⟩
 |_=>⟨.undef,none,none⟩
def LOp.dok(sl:List V)(h0:Hp):LOp→Prop
 | .mp .mk=>True
 | .val x=>x.ok sl h0
 | .box k x=>(x.ev sl).fits k=true
 | .aAd k es=>∀e∈es,(e.ev sl).fits k=true
 | .append k bytes x y=>match x.ev sl,y.ev sl with
  | .sl kx own xs, .sl ky _ ys=>kx=k∧ky=k∧(xs.length+ys.length)*bytes≤140737488355328∧(match own with| .free=>False|_=>True)
  |_,_=>False
 | .mkz _ bytes x _=>match x.ev sl with
  | .int _ m=>0≤m∧m.toNat*bytes≤140737488355328
  |_=>False
 | .aCk k bytes x y _=>match x.ev sl,y.ev sl with
  | .sl k' .nil [], .int _ m=>k'=k∧0<m∧m.toNat*bytes≤140737488355328
  |_,_=>False
 |_=>False
def fi(h0:Hp)(nx0:Nat)(aAP:List Nat)(aAL:List (Option Blk))(cons:List (Option Con)):Option Con→Prop
 |none=>True
 |some c=>kG h0 nx0 aAP aAL cons c.n c.old
structure DSt where
 sl:List V
 aAL:List (Option Blk)
 cons:List (Option Con)
def aA.aDx(h0:Hp)(nx0:Nat)(o:aA)(s:DSt):fX:=
 match o.g with
 |none=>o.op.aFr s.sl (iN h0 s.cons) (nx0+s.aAL.length)
 |some (t,want)=>match s.sl.getD t Ka with
  | .bool b=>if b=want then o.op.aFr s.sl (iN h0 s.cons) (nx0+s.aAL.length) else ⟨Ka,none,none⟩
  |_=>⟨Ka,none,none⟩
def aA.dok(h0:Hp)(o:aA)(s:DSt):Prop:=
 match o.g with
 |none=>o.op.dok s.sl (iN h0 s.cons)
 |some (t,want)=>match s.sl.getD t Ka with
  | .bool b=>b=want→o.op.dok s.sl (iN h0 s.cons)
  | .tup _=>True
  |_=>False
def nm(dst:Option Nat)(d:fX)(s:DSt):DSt:=⟨bN s.sl dst d.v,s.aAL++[d.add],s.cons++[d.con]⟩
def dZ(h0:Hp)(nx0:Nat):List (aA×List Nat)→DSt→DSt
 | [],s=>s
 |(o,_)::r,s=>dZ h0 nx0 r (nm o.dst (o.aDx h0 nx0 s) s)
def pT(h0:Hp)(nx0:Nat):List (aA×List Nat)→DSt→Prop
 | [],_=>True
 |(o,aAP)::r,s=>o.dok h0 s∧fi h0 nx0 aAP s.aAL s.cons (o.aDx h0 nx0 s).con∧pT h0 nx0 r (nm o.dst (o.aDx h0 nx0 s) s)
theorem LOp.aBy{P:Program}{sl:List V}{h0:Hp}{a:Nat}{R:fX→Prop}{l:LOp}(ho:l.dok sl h0)(hR:R (l.aFr sl h0 a)):l.aAq P sl h0 a R:=by
 cases l with
 |val x=>exact bL.aBL (R:=fun v=>R ⟨v,none,none⟩) ho hR
 |box k x=>exact⟨ho,hR⟩
 |aAd k es=>exact⟨ho, .inl hR⟩
 |append k b x y=>
  simp only[LOp.dok,LOp.aFr,Kq] at ho hR⊢;generalize x.ev sl=v at ho hR⊢;generalize y.ev sl=u at ho hR⊢;cases v<;>try (exact ho.elim)
  cases u<;>try (exact ho.elim)
  rename_i kx own xs ky aDa ys;obtain⟨a,b,c,d⟩:=ho;refine⟨a,b,c,?_⟩;cases own<;>simp only at d hR⊢<;>exact hR
 |store t x v=>exact ho.elim
 |mkz k b x z=>
  simp only[LOp.dok,LOp.aFr,Kq] at ho hR⊢;generalize x.ev sl=v at ho hR⊢;cases v<;>first|exact ho.elim|exact⟨ho.1,ho.2, .inl hR⟩
 |aCk k b x y z=>
  simp only[LOp.dok,LOp.aFr,Kq] at ho hR⊢;generalize x.ev sl=v at ho hR⊢;generalize y.ev sl=u at ho hR⊢;split at ho
  ·exact⟨ho.1,ho.2.1,ho.2.2,hR⟩
  exact ho.elim
 |clear k x z=>exact ho.elim
 |aAZ f a b=>exact ho.elim
 |mp m=>cases m<;>first|exact hR|exact ho.elim
 |call f args=>exact ho.elim
 |aAc x args=>exact ho.elim
theorem AG{P:Program}{h0:Hp}{nx0:Nat}{o:aA}{aAP:List Nat}{r:List (aA×List Nat)}{s:DSt}{Q:List V→List (Option Blk)→List (Option Con)→Prop}(ho:o.dok h0 s)(hc:fi h0 nx0 aAP s.aAL s.cons (o.aDx h0 nx0 s).con)
 (h:dC P h0 nx0 r (nm o.dst (o.aDx h0 nx0 s) s).sl (nm o.dst (o.aDx h0 nx0 s) s).aAL (nm o.dst (o.aDx h0 nx0 s) s).cons Q):dC P h0 nx0 ((o,aAP)::r) s.sl s.aAL s.cons Q:=by
 have fin:∀{d:fX},d=o.aDx h0 nx0 s→(∀c,d.con=some c→kG h0 nx0 aAP s.aAL s.cons c.n c.old)∧dC P h0 nx0 r (bN s.sl o.dst d.v) (s.aAL++[d.add]) (s.cons++[d.con]) Q:=by
  rintro d rfl;refine⟨fun n hn=>?_,h⟩;rw[hn] at hc;exact hc
 unfold dC eU;unfold aA.dok at ho;unfold aA.aDx at fin;cases hg:o.g with
 |none=>rw[hg] at ho fin;exact LOp.aBy ho (fin rfl)
 |some p=>
  obtain⟨t,want⟩:=p;rw[hg] at ho fin;simp only at ho fin⊢
  cases hv:s.sl.getD t Ka<;>rw[hv] at ho fin<;>simp only at ho fin⊢<;>first
   |exact ho.elim
   |exact fin rfl
   |(split
     ·rename_i e;exact LOp.aBy (ho e) (fin (by rw[if_pos e]))
     rename_i e;exact fin (by rw[if_neg e]))
theorem wU{P:Program}{h0:Hp}{nx0:Nat}{Q:List V→List (Option Blk)→List (Option Con)→Prop}{r:List (aA×List Nat)}:∀(l:List (aA×List Nat)) (s:DSt),pT h0 nx0 l s→
 dC P h0 nx0 r (dZ h0 nx0 l s).sl (dZ h0 nx0 l s).aAL (dZ h0 nx0 l s).cons Q→dC P h0 nx0 (l++r) s.sl s.aAL s.cons Q
 | [],_,_,h=>h
 |(o,aAP)::l,s,ho,h=>AG ho.1 ho.2.1 (wU l _ ho.2.2 h)
section
variable{P:Program}{h0:Hp}{nx0:Nat}{Q:List V→List (Option Blk)→List (Option Con)→Prop}{l:List (aA×List Nat)}{r:List (aA×List Nat)}{sl:List V}{aAL:List (Option Blk)}{cons:List (Option Con)}{dst:Option Nat}{aAP:List Nat}
theorem AF(n:Nat)(ho:pT h0 nx0 (l.take n) ⟨sl,aAL,cons⟩)
 (h:dC P h0 nx0 (l.drop n) (dZ h0 nx0 (l.take n) ⟨sl,aAL,cons⟩).sl (dZ h0 nx0 (l.take n) ⟨sl,aAL,cons⟩).aAL (dZ h0 nx0 (l.take n) ⟨sl,aAL,cons⟩).cons Q):dC P h0 nx0 l sl aAL cons Q:=by
 have:=wU (l.take n) ⟨sl,aAL,cons⟩ ho h;rwa [KR] at this
theorem cD(h:Q sl aAL cons):dC P h0 nx0 [] sl aAL cons Q:=h
theorem bJ{f:FuncId}{args:List aO}{hp:Hp}{aAm:List V}{v:V}(p:aX P f aAm hp v)(ha:args.map (aO.ev sl)=aAm)(hh:Kf hp (iN h0 cons))(h:dC P h0 nx0 r (bN sl dst v) (aAL++[none]) (cons++[none]) Q):dC P h0 nx0 ((⟨dst,none, .call f args⟩,aAP)::r) sl aAL cons Q:=by
 unfold dC eU;exact .inl ⟨v,by rw[ha];exact p.mono hh,(fun n e=>by cases e),h⟩
theorem xj{f:FuncId}{args:List aO}{hp:Hp}{aAm:List V}{k:Sh}{es:List V}(p:rT P f aAm hp k es)(ha:args.map (aO.ev sl)=aAm)(hh:Kf hp (iN h0 cons))(h:dC P h0 nx0 r (bN sl dst (.sl k (.tok (nx0+aAL.length)) es)) (aAL++[some .tip]) (cons++[none]) Q):dC P h0 nx0 ((⟨dst,none, .call f args⟩,aAP)::r) sl aAL cons Q:=by
 unfold dC eU;exact .inr (.inl ⟨k,es,by rw[ha];exact p.mono hh,(fun n e=>by cases e),h⟩)
theorem kC{f:FuncId}{args fl:List aO}{hp:Hp}{aAm:List V}{v:V}(p:aX P f aAm hp v)(ha:args.map (aO.ev sl)=aAm)(hh:Kf hp (iN h0 cons))(h:dC P h0 nx0 r (bN sl dst v) (aAL++[none]) (cons++[none]) Q):dC P h0 nx0 ((⟨dst,none, .aAZ f args fl⟩,aAP)::r) sl aAL cons Q:=by
 unfold dC eU;exact .inl ⟨v,by rw[ha];exact p.mono hh,(fun n e=>by cases e),h⟩
theorem eu{f:FuncId}{args fl:List aO}{aAm:List V}{c:Option Con}{v:Nat→V}{k:Sh}{es:List V}(p:AV P f aAm (iN h0 cons) c v k es)(ha:args.map (aO.ev sl)=aAm)(hf:∀c',c=some c'→∀x∈fl,∀m k i o,x.ev sl= .ptr m k i o→m≠c'.n)(hc:fi h0 nx0 aAP aAL cons c)
 (h:dC P h0 nx0 r (bN sl dst (v (nx0+aAL.length))) (aAL++[some (.arr k es)]) (cons++[c]) Q):dC P h0 nx0 ((⟨dst,none, .aAZ f args fl⟩,aAP)::r) sl aAL cons Q:=by
 unfold dC eU;exact .inr (.inr ⟨c,v,k,es,by rw[ha];exact p,hf,(fun c' e=>by have e:c=some c':=e;subst e;exact hc),h⟩)
theorem pS{t:Sh}{x v:aO}{n i o:Nat}{k:Sh}{es:List V}(hx:x.ev sl= .ptr n k i o)(hc:kG h0 nx0 aAP aAL cons n (.arr k es))(hi:i<es.length)(hp:cR k t o)(hf:(v.ev sl).fits t=true)
 (h:dC P h0 nx0 r (bN sl dst Ka) (aAL++[none]) (cons++[some ⟨n, .arr k es,some (.arr k (es.set i (bU t o (es.getD i Ka) (v.ev sl))))⟩]) Q):dC P h0 nx0 ((⟨dst,none, .store t x v⟩,aAP)::r) sl aAL cons Q:=by
 unfold dC eU;simp only[Kq,hx];exact⟨es,hi,hp,hf,(fun c e=>by injection e with e;subst e;exact hc),h⟩
theorem fb{t:Nat}{want b:Bool}{op:LOp}(hb:sl.getD t Ka= .bool b)(h1:b=want→dC P h0 nx0 ((⟨dst,none,op⟩,aAP)::r) sl aAL cons Q)(h2:b≠want→dC P h0 nx0 r (bN sl dst Ka) (aAL++[none]) (cons++[none]) Q):dC P h0 nx0 ((⟨dst,some (t,want),op⟩,aAP)::r) sl aAL cons Q:=by
 unfold dC eU;simp only[hb];split
 ·rename_i e;have:=h1 e;unfold dC eU at this;exact this
 rename_i e;exact⟨(fun n hn=>by cases hn),h2 e⟩
theorem cB{t:Nat}{want:Bool}{op:LOp}(hb:sl.getD t Ka= .tup [])(h2:dC P h0 nx0 r (bN sl dst Ka) (aAL++[none]) (cons++[none]) Q):dC P h0 nx0 ((⟨dst,some (t,want),op⟩,aAP)::r) sl aAL cons Q:=by
 unfold dC eU;simp only[hb];exact⟨(fun n hn=>by cases hn),h2⟩
theorem aZ{l:List aA}{Qs:St→Prop}{s:St}(n:Nat)(hl:(l.take n).all (fun o=> !o.op.aAn)=true)(ho:qE (l.take n) s)(h:bB P (l.drop n) Qs (jV (l.take n) s)):bB P l Qs s:=by
 have:=BA (P:=P) (Q:=fun s=>bB P (l.drop n) Qs s) (l.take n) hl s ho h;have app:∀(a b:List aA) (s:St),bB P a (fun s=>bB P b Qs s) s→bB P (a++b) Qs s:=by
  intro a;induction a with
  |nil=>exact fun b s h=>h
  |cons o a ih=>
   intro b s h;have h':=gO (P:=P) (Q:=fun s=>bB P b Qs s) (Q':=fun s=>bB P b Qs s) (fun _ x=>x) [] s;unfold bB at h;rw[List.cons_append];unfold bB;have runM:=@gO P;revert h;split
   ·rename_i hg;intro h;have:=gO (P:=P) (Q:=fun s'=>bB P a (fun s=>bB P b Qs s) s') (Q':=fun s'=>bB P (a++b) Qs s') (fun s'=>ih b s') [o] s (by unfold bB;rw[hg];exact h);unfold bB at this;rw[hg] at this;exact this
   rename_i t want hg;intro h;have:=gO (P:=P) (Q:=fun s'=>bB P a (fun s=>bB P b Qs s) s') (Q':=fun s'=>bB P (a++b) Qs s') (fun s'=>ih b s') [o] s (by unfold bB;rw[hg];exact h);unfold bB at this;rw[hg] at this;exact this
 have h2:=app _ _ s this;rwa [KR] at h2
def BX(P:Program)(tl:List aA)(n:Nat)(Q:cK→St→Prop)(s:St)(sl:List V)(aAL:List (Option Blk))(cons:List (Option Con)):Prop:=bB P tl (Q .normal) ⟨sl,zS (oU s.h s.nx aAL) cons,s.nx+n⟩
theorem dJ{n:Nat}{hd:List (aA×List Nat)}{tl:List aA}{Q:cK→St→Prop}{s:St}(hs:((hd.all fun p=>match p.1.dst with|some d=>decide (d<s.sl.length)|none=>true)&&decide (n=hd.length))=true)(h:dC P s.h s.nx hd s.sl [] [] (BX P tl n Q s)):lwp P (.draw n hd tl) Q s:= .inl ⟨hs,h⟩
theorem sF{n:Nat}{hd:List (aA×List Nat)}{tl:List aA}{Q:cK→St→Prop}{s:St}(h:BY P hd tl (Q .normal) s):lwp P (.draw n hd tl) Q s:= .inr h
theorem cQ{n:Nat}{Q:cK→St→Prop}{s:St}(h:Q .normal ⟨sl,zS (oU s.h s.nx aAL) cons,s.nx+n⟩):BX P [] n Q s sl aAL cons:=h
end
def iU(res:List rS)(R:V→Hp→Nat→Prop):cK→St→Prop
 | .exit _,_=>False
 |_,s=>pD s res [] fun vs=>∃h',h'.le s.h∧R (mF vs) h' s.nx
theorem aD{P:Program}{f:FuncId}{b:bF}{nt:Nat}{res:List rS}(hL:aJ P f=some ⟨b,nt,res⟩){args:List V}{h:Hp}{nx:Nat}{R:V→Hp→Nat→Prop}
 (hw:(∀m b,h m=some b→m<nx)→lwp P b (iU res R) ⟨args++Kv (nt-args.length) Ka,h,nx⟩):bD P f args h nx R:=
 im hL fun hd=>qZ (fun e s hq=>by cases e<;>exact hq) (hw hd)
theorem aG{t:Nat}{R:V→Hp→Nat→Prop}{s:St}(h':Hp)(hle:h'.le s.h)(hR:R (s.sl.getD t Ka) h' s.nx):iU [.slot t] R .ret s:=⟨h',hle,hR⟩
theorem fS{t u:Nat}{R:V→Hp→Nat→Prop}{s:St}(h':Hp)(hle:h'.le s.h)(hR:R (.tup [s.sl.getD t Ka,s.sl.getD u Ka]) h' s.nx):iU [.slot t, .slot u] R .ret s:=⟨h',hle,hR⟩
theorem vS{t:Nat}{k:Sh}{R:V→Hp→Nat→Prop}{s:St}(ho:(bL.load k (.slot t)).ok s.sl s.h)(h':Hp)(hle:h'.le s.h)(hR:R ((bL.load k (.slot t)).out s.sl s.h) h' s.nx):iU [.cell t k] R .ret s:=by
 have:=bL.aBL (R:=fun v=>∃h',h'.le s.h∧R (mF [v]) h' s.nx) ho ⟨h',hle,by generalize (bL.load k (.slot t)).out s.sl s.h=x at hR;exact hR⟩;exact this
theorem kI{a b:List V}{h h':Hp}{n n':Nat}(hs:WkL a b)(hh:h'.le h)(hn:n≤n'):Wk ⟨a,h,n⟩ ⟨b,h',n'⟩:=⟨hs,hh,hn⟩
def aB:Nat→Nat→List (Nat×V)→List V
 |0,_,_=>[]
 |n+1,i,[]=> .top::aB n (i+1) []
 |n+1,i,(j,v)::r=>if j=i then v::aB n (i+1) r else .top::aB n (i+1) ((j,v)::r)
theorem sO{h0:Hp}(nx0 j:Nat)(aAP:List Nat)(aAL:List (Option Blk))(cons:List (Option Con))(b:Blk):kG h0 nx0 aAP aAL cons (nx0+j) b=(cU (nx0+j) cons∧j∈aAP∧aAL.getD j none=some b):=by
 unfold kG;apply propext;constructor
 ·rintro⟨h1,⟨h2,_⟩|⟨d,h2,h3,h4⟩⟩
  ·omega
  have:d=j:=or;subst this;exact⟨h1,h2,h4⟩
 rintro⟨h1,h2,h3⟩;exact⟨h1, .inr ⟨j,h2,rfl,h3⟩⟩
theorem fj{h0:Hp}(nx0:Nat)(aAP:List Nat)(aAL:List (Option Blk))(cons:List (Option Con))(b:Blk):kG h0 nx0 aAP aAL cons nx0 b=(cU nx0 cons∧0∈aAP∧aAL.getD 0 none=some b):=by
 have:=sO (h0:=h0) nx0 0 aAP aAL cons b;simpa using this
theorem oP{h0:Hp}{nx0 n:Nat}{aAP:List Nat}{aAL:List (Option Blk)}{cons:List (Option Con)}{b:Blk}(h:n<nx0)(h1:h0 n=some b)(h2:cU n cons):kG h0 nx0 aAP aAL cons n b:=⟨h2, .inl ⟨h,h1⟩⟩
theorem zB{a b:Nat}(h:a≠b):(a=b)=False:=eq_false h
theorem CD{a k:Nat}:(a=a+(k+1))=False:=zB or
theorem yk{a k:Nat}:(a+(k+1)=a)=False:=zB or
theorem lZ(a b:V):Kj true a b=a:=by unfold Kj;split<;>simp
theorem kZ(a b:V):Kj false a b=b:=by unfold Kj;split<;>simp
theorem sC(t x y:Bool):Kj t (.bool x) (.bool y)= .bool (if t then x else y):=rfl
theorem aH{h:Hp}{nx:Nat}(hd:∀m b,h m=some b→m<nx){h':Hp}(hle:h.le h'){n:Nat}(hn:nx≤n)(b:Blk):h.le (h'.set n b):=fun m c e=>by
 have:=hd m c e;unfold Kb;rw[if_neg or];exact hle m c e
theorem aL{h:Hp}{nx:Nat}(hd:∀m b,h m=some b→m<nx){h':Hp}(hle:h.le h'){n:Nat}(hn:nx≤n):h.le (h'.del n):=fun m c e=>by
 have:=hd m c e;unfold Kk;rw[if_neg or];exact hle m c e
theorem aY{n:Int}(h1:-9223372036854775808≤n)(h2:n≤9223372036854775807):IntKind.i64.wrap n=n:=IntWalk.i64_in n ⟨h1,h2⟩
end Go.Proofs.YtecepaehmojpgaaGreat
