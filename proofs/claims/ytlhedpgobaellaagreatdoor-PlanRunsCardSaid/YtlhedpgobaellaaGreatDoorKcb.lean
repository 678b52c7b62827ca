/-
Texts of this proof,one behind the other. No conditions.
-/
import Derived.Test.YtlhedpgobaellaaGreatDoorKc
import Derived.RangeFuncCalls
import Derived.RangeFuncLeaves
open Go.Proofs.YtlhedpgobaellaaGreatDoor.V renaming undef→Ka,pick→Ke
open List renaming getD_eq_getElem?_getD→Kb,getElem?_eq_getElem→Kg,mem_range→Kh,range→Ki,all_eq_true→Kk,replicate→Ks,getElem?_append_right→Kt,getElem?_append_left→Ku,getElem?_drop→Kw,eq_nil_of_length_eq_zero→KB,exists_mem_of_ne_nil→KE,filter_eq_nil_iff→KH,mem_filter→KI,nodup_cons→KJ,filter_eq_self→KK,mem_map→KM,length_cons→KN,nodup_range→KO,getElem_mem→KP,ext_getElem→KQ,nil_append→KS,mem_cons→KX
open Bool renaming and_eq_true→Kc,or_eq_true→KA,not_true→KV,false_or→KW
open Array renaming getD_eq_getD_getElem?→Kd,getElem?_eq_getElem→Kf,getElem?_eq_some_iff→Km,replicate→Kp,getD→Ky,mem_toList_iff→Kz,ext→Qb
open Option renaming map_eq_some_iff→Kj,bind_eq_some_iff→Kx,getD_some→KR
open Go.World renaming putObj_heap_other→Ko
open Nat renaming le_refl→Kq,lt_of_lt_of_le→KD,lt_or_ge→KG,zero_add→KL,add_assoc→KU,lt_irrefl→KY,add_comm→KZ,le_trans→Qa
open Go renaming undef→Kv
open Go.Sem renaming run_bind→KC
open Go.Instr renaming sureAddr→KF
set_option linter.all false
set_option maxHeartbeats 8000000
namespace Go.Proofs.YtlhedpgobaellaaGreatDoor
open Go.RowKit
section
variable{P:Program}{ops:Array Oper}{n:Nat}{w0:Bool}{l:List (aA×List Nat)}{s:St}{res:List fC}{K0:Ker}
theorem rC{rd:Option Nat}{mm:Nat}{md:Region.Mode}{Q':Exit→Act→World→Prop}:∀(l:List Oper) (k:Nat) (listed:Array Bool) (a:Act) (w:World),(∀j,l[j]?=ops[k+j]?)→
 Region.seqB md ops l.length k listed=true→wpListIn (FR rd) mm P ops Q' l a w→wpAnyIn (FR rd) mm P md ops Q' l.length listed a w
 | [],_,_,_,_,_,hB,h=>⟨by simpa [Region.seqB] using hB,h⟩
 |o::l,k,listed,a,w,hl,hB,h=>by
  have h0:ops[k]?=some o:=by simpa using(hl 0).symm
  simp only[KN,Region.seqB,Kc,decide_eq_true_eq] at hB;refine⟨fun h1=>(by rw[hB.1] at h1;cases h1),fun i hi=>?_⟩;rw[hB.1] at hi;have hik:i=k:=by simpa using hi
  subst hik;have hw:wpOpIn (FR rd) mm P ops Q' i (wpListIn (FR rd) mm P ops Q' l) a w:=by unfold wpOpIn;simp only[h0];exact h
  exact wpOpIn_mono (fun a' w' h'=>rC l (i+1) _ a' w' (fun j=>by have:=hl (j+1);simpa [KU,KZ 1 j] using this) hB.2 h') hw
theorem E9(hB:qT ops n l=true)(hl:dN P ops n w0 0 (ops.toList.take n)=some l)(aAz:∀j t,j<n→iA ops j=some t→t<s.sl.length)(ht:ya P s.h s.nx l s.sl res)(aO6:∀m,K0.live m→m<s.nx)(aBL:∀m b,s.h m=some b→m<s.nx)
 {ds:List Deferred} {rd:Option Nat} {mm:Nat} {Q:Exit→Act→World→Prop} (aCD:∀listed a w,DK ops n res s K0 ds listed a w→(∀j,j<n→listed.getD j false=true)→wpListIn (FR rd) mm P ops Q (ops.toList.drop n) a w):
 ∀(f:Nat) (listed:Array Bool) (a:Act) (w:World),f=((Ki n).filter fun i=> !listed.getD i true).length→DK ops n res s K0 ds listed a w→wpAnyIn (FR rd) mm P .any ops Q (f+(ops.size-n)) listed a w:=by
 have hB':=hB;simp only[qT,Kc,Kk,Kh,KA,decide_eq_true_eq] at hB';obtain⟨⟨⟨⟨aO0,aAn⟩,aGb⟩,aEe⟩,aCc⟩:=hB';have aC6:n≤ops.size:=by rcases aAn with h|⟨⟨h,_⟩,_⟩<;>omega
 intro f;induction f with
 |zero=>
  intro listed a w hf inv;have aAc:∀i,i<n→listed.getD i true=true:=by
   intro i hi;have hz:=KB hf.symm;rw[KH] at hz;have:=hz i (Kh.2 hi);simpa using this
  have aFW:∀j,j<n→listed.getD j false=true:=by
   intro j hj;have:=aAc j hj;have hjs:j<listed.size:=by rw[inv.head.size];omega
   simp only[Ky,hjs,dif_pos] at this⊢;exact this
  have aFN:listed=((Ki ops.size).map (fun i=>decide (i<n))).toArray:=by
   apply Qb
   ·simp[inv.head.size]
   intro i h1 h2;have hi:i<ops.size:=by simpa [inv.head.size] using h1
   by_cases hin:i<n
   ·have:=aAc i hin;rw[Kd,Kf h1] at this;simpa [hin] using this
   have:=inv.head.tail i or hi;rw[Kd,Kf h1] at this;simpa [hin] using this
  have h:=aCD listed a w inv aFW;have hl:(ops.toList.drop n).length=ops.size-n:=Zm;rw[KL];have:=rC (rd:=rd) (mm:=mm) (P:=P) (md:= .any) (Q':=Q) (ops.toList.drop n) n listed a w (fun j=>by simp[Kw]) (by rw[hl,aFN];exact aGb) h;rwa [hl] at this
 |succ f ih=>
  intro listed a w hf inv;have hex:∃i,i<n∧listed.getD i true=false:=by
   have hne:((Ki n).filter fun i=> !listed.getD i true)≠ []:=by intro h;rw[h] at hf;simp at hf
   obtain⟨i,hi⟩:=KE _ hne;rw[KI,Kh] at hi;exact⟨i,hi.1,by simpa using hi.2⟩
  obtain⟨i0,hi0,aGp⟩:=hex;have aFQ:∀j∈Region.ready .any ops listed,j<n:=by
   intro j hj;rcases aAn with h|⟨⟨h,hs⟩,hc⟩
   ·obtain⟨_,o,ho,_⟩:=mem_ready.1 hj;have:=(Km.1 ho).1;omega
   rcases KG j n with h'|h'
   ·exact h'
   exact absurd hj (tail_waits hs hc h inv.head _ i0 rfl hi0 aGp j h')
  have aA4:∀k,k<n→listed.getD k true=false→(∀j,j<k→listed.getD j true=true)→k∈Region.ready .any ops listed:=by
   intro k hk hun hlt;have ho:=aEe k hk;have hok:ops[k]?=some (ops[k]'or):=Kf or;rw[hok] at ho;refine mem_ready.2 ⟨hun,_,hok,fun e he hb=>?_⟩;cases hlk:l[k]? with
   |none=>simp[hlk] at ho
   |some q=>
    obtain⟨lo,aAF⟩:=q;simp only[hlk,Kc,Kk] at ho;have h:=ho.1.1.1 e (Kz.2 he);simp only[hb,KV,KW,decide_eq_true_eq] at h;have h2:=hlt e.on h;have hs:e.on<listed.size:=by rw[inv.head.size];omega
    rw[Kd,Kf hs] at h2⊢;exact h2
  have aBq:Region.ready .any ops listed≠ []:=by
   have least:∀k,k≤i0→(∀j,j<k→listed.getD j true=true)→∃i,i<n∧i∈Region.ready .any ops listed:=by
    intro k hk;induction hd:i0-k generalizing k with
    |zero=>
     intro hl;have hki:k=i0:=or;subst hki;exact⟨k,hi0,aA4 k hi0 aGp hl⟩
    |succ d ihd=>
     intro hl;by_cases hu:listed.getD k true=true
     ·exact ihd (k+1) or or (fun j hj=>by
       by_cases hjk:j=k
       ·subst hjk;exact hu
       exact hl j or)
     exact⟨k,or,aA4 k or (by simpa using hu) hl⟩
   obtain⟨i,_,hi⟩:=least 0 or (fun j hj=>or);intro h;rw[h] at hi;cases hi
  rw[show f+1+(ops.size-n)=(f+(ops.size-n))+1 by omega];refine⟨fun h=>absurd h aBq,fun i hi=>?_⟩;have hin:=aFQ i hi;obtain⟨hun,o,ho,_⟩:=mem_ready.1 hi;refine Dr hB hl aAz ht inv aO6 aBL hin hi fun a' w' aGZ=>ih _ a' w' ?_ aGZ;have aG6:i<listed.size:=by rw[inv.head.size];exact(Km.1 ho).1
  have:=rZ (fun x=> !listed.getD x true) (fun x=> !(listed.setIfInBounds i true).getD x true) i (by simpa using hun) (by simp[Ky,aG6]) (fun x hx=>by rw[getD_set_ne true (fun e=>hx e.symm)]) (Ki n) KO (Kh.2 hin);omega
end
theorem xR{P:Program}{ops:Array Oper}{K0:Ker}{nx0:Nat}{Q:Exit→Act→World→Prop}{Qs:St→Prop}(hQ:∀K s a,mH K0 K nx0 s a→Qs s→Q .normal a K.w){rd:Option Nat}{mm:Nat}:
 ∀(l:List Oper) (ls:List aA) (k:Nat),cU P ops l=some ls→(∀j,l[j]?=ops[k+j]?)→∀(K:Ker) (s:St) (a:Act),mH K0 K nx0 s a→aY P ls Qs s→wpListIn (FR rd) mm P ops Q l a K.w
 | [],ls,k,hl,hi,K,s,a,hr,h=>by
  simp[cU] at hl;subst hl;exact hQ K s a hr h
 |o::l,ls,k,hl,hi,K,s,a,hr,h=>by
  unfold cU at hl;obtain⟨lo,h1,hl⟩:=Kx.1 hl;obtain⟨lr,h2,rfl⟩:=Kj.1 hl;have h0:ops[k]?=some o:=by simpa using(hi 0).symm
  have hw:wpOpIn (FR rd) mm P ops Q k (wpListIn (FR rd) mm P ops Q l) a K.w:=by
   refine uZ h0 h1 hr (aY P lr Qs) (fun K' s' a' hr' hq=>xR hQ l lr (k+1) h2 (fun j=>by have:=hi (j+1);simpa [KU,KZ 1 j] using this) K' s' a' hr' hq) ?_;unfold aY at h;exact h
  unfold wpOpIn at hw;simp only[h0] at hw;exact hw
theorem xQ:∀(cons:List (Option Con)) (h:Hp) (m:Nat) (b:Blk),bt h cons m=some b→(∃c,some c∈cons∧c.n=m∧c.new=some b)∨((∀c,some c∈cons→c.n≠m)∧h m=some b)
 | [],h,m,b,e=> .inr ⟨Zm,e⟩
 |none::r,h,m,b,e=>by
  rcases xQ r h m b e with⟨c,h1,h2⟩|⟨h1,h2⟩
  ·exact .inl ⟨c,by simp[h1],h2⟩
  exact .inr ⟨fun c hc=>h1 c (by simpa using hc),h2⟩
 |some c0::r,h,m,b,e=>by
  rcases xQ r (h.aBY (some c0)) m b e with⟨c,h1,h2⟩|⟨h1,h2⟩
  ·exact .inl ⟨c,by simp[h1],h2⟩
  by_cases hm:m=c0.n
  ·subst hm;refine .inl ⟨c0,Zm,rfl,?_⟩;unfold Hp.aBY at h2;cases hn:c0.new with
   |none=>simp[hn,Hp.del] at h2
   |some b'=>simpa [hn,Hp.set] using h2
  refine .inr ⟨fun c hc=>?_,?_⟩
  ·rcases KX.1 hc with e1|e1
   ·injection e1 with e1;subst e1;exact fun e=>hm e.symm
   exact h1 c e1
  unfold Hp.aBY at h2;cases hn:c0.new with
  |none=>simpa [hn,Hp.del,hm] using h2
  |some b'=>simpa [hn,Hp.set,hm] using h2
theorem vN:∀(aAK:List (Option Blk)) (h:Hp) (a m:Nat) (b:Blk),qU h a aAK m=some b→(∃i,m=a+i∧aAK.getD i none=some b)∨h m=some b
 | [],h,a,m,b,e=> .inr e
 |none::r,h,a,m,b,e=>by
  rcases vN r h (a+1) m b e with⟨i,e1,e2⟩|h1
  ·exact .inl ⟨i+1,or,by simpa using e2⟩
  exact .inr h1
 |some c::r,h,a,m,b,e=>by
  rcases vN r (h.set a c) (a+1) m b e with⟨i,e1,e2⟩|h1
  ·exact .inl ⟨i+1,or,by simpa using e2⟩
  unfold Hp.set at h1;split at h1
  ·rename_i hm;exact .inl ⟨0,or,by simpa using h1⟩
  exact .inr h1
theorem Au{P:Program}{id:Nat}{ops:Array Oper}{n:Nat}{w0:Bool}{l:List (aA×List Nat)}{tl:List aA}(hm:P.follows .mixedOrders=true)(hB:qT ops n l=true)(hl:dN P ops n w0 0 (ops.toList.take n)=some l)(htl:cU P ops (ops.toList.drop n)=some tl)
 {K0 K:Ker} {nx0:Nat} {s:St} {a:Act} (hr:mH K0 K nx0 s a) {Q:Exit→Act→World→Prop} {Qs:St→Prop} (hQ:∀K s a,mH K0 K nx0 s a→Qs s→Q .normal a K.w)
 (aAz:(l.all fun p=>match p.1.dst with|some d=>decide (d<s.sl.length)|none=>true)=true)
 (h:dJ P s.h s.nx l s.sl [] [] fun sl aAK cons=>aY P tl Qs ⟨sl,bt (qU s.h s.nx aAK) cons,s.nx+n⟩) {rd:Option Nat} {mm:Nat}:(Code.region id ops true).wpIn (FR rd) mm P Q a K.w:=by
 obtain⟨res,ht,aAh⟩:=ij [] l s.sl [] ⟨rfl,fun i o aAF d hi=>by simp at hi,fun i o aAF d n hi=>by simp at hi⟩ (by simpa using h);simp only[KS] at ht aAh;have hB':=hB;simp only[qT,Kc,Kk,Kh,KA,decide_eq_true_eq] at hB';obtain⟨⟨⟨⟨aO0,aAn⟩,aGb⟩,aEe⟩,aCc⟩:=hB';have aC6:n≤ops.size:=by rcases aAn with h|⟨⟨h,_⟩,_⟩<;>omega
 obtain⟨hll,hlg⟩:=iF _ _ _ hl;have hln:l.length=n:=by rw[hll];simp;omega
 have hrn:res.length=n:=by rw[ht.len,hln]
 have aFT:∀i j t,i<n→j<n→iA ops i=some t→iA ops j=some t→i=j:=fun i j t hi hj e e'=>by
  rcases aCc i hi j hj with h|h
  ·rcases h with h|h
   ·simpa using h
   rw[e] at h;cases h
  rw[e,e'] at h;simp at h
 have aG4:∀j lo aAF,l[j]?=some (lo,aAF)→lo.dst=iA ops j:=fun j lo aAF hj=>(gw aC6 hl j lo aAF hj).1;have hsl:∀j t,j<n→iA ops j=some t→t<s.sl.length:=by
  intro j t hj hjt;have hlj:l[j]?=some (l[j]'or):=Kg or;have h1:=aG4 j (l[j]'or).1 (l[j]'or).2 hlj;have h2:=Kk.1 aAz (l[j]'or) (KP _);rw[h1,hjt] at h2;simpa using h2
 refine wpIn_region_any hm ?_;have hdr:=K.le_drew;have inv:DK ops n res s K.drew a.defers (Kp ops.size false) a K.drew.w:=by
  refine⟨⟨Zm,fun j oj _ hl=>(by rw[getD_replicate_false] at hl;cases hl),fun t _ ht=>getD_in (by simpa using ht) (getD_replicate_false _ _)⟩,hr.aAD.1.symm,⟨K.drew,s.sl,s.h,rfl, .refl _,hr.aAD.mono hdr,hr.rel.drew,fun m hm=> .inl hm,?_,?_⟩,rfl⟩
  ·exact⟨rfl,(fun j t _ hl=>by rw[getD_replicate_false] at hl;cases hl),fun t _=>rfl⟩
  exact⟨fun m _ _=>rfl,(fun i _ hl=>by rw[getD_replicate_false] at hl;cases hl),(fun j c _ hl=>by rw[getD_replicate_false] at hl;cases hl)⟩
 have h:=E9 (rd:=rd) (mm:=mm) (Q:=Q) hB hl hsl ht (K0:=K.drew) (fun m hm=>(hr.live m hm).1) (fun m b hm=>(hr.live m (hr.rel.lt m b hm)).1) ?_ n (Kp ops.size false) a K.drew.w ?_ inv
 ·rw[show n+(ops.size-n)=ops.size by omega] at h;exact h
 ·--cB the head
  intro listed a' w' aGZ aAc;obtain⟨K',sl,hh,rfl,hle,aYy,hrel,aBt,hsa,hha⟩:=aGZ.ex;have aBf:=tX (ops:=ops) (sl0:=s.sl) hln hrn aG4 hsl aFT n (Kq _);have hzl:(l.zip res).length=n:=by simp[hln,hrn]
  rw[List.take_of_length_le or] at aBf;have aPS:sl=(l.zip res).foldl (fun sl p=>bL sl p.1.1.dst p.2.v) s.sl:=by
   have hlen:sl.length=((l.zip res).foldl (fun sl p=>bL sl p.1.1.dst p.2.v) s.sl).length:=by rw[hsa.len,aBf.len]
   apply KQ hlen;intro t h1 h2;have:sl.getD t Ka=((l.zip res).foldl (fun sl p=>bL sl p.1.1.dst p.2.v) s.sl).getD t Ka:=by
    by_cases hex:∃j,j<n∧iA ops j=some t
    ·obtain⟨j,hj,hjt⟩:=hex;rw[hsa.val j t hj (aAc j hj) hjt,aBf.val j t hj hj hjt]
    rw[hsa.frame t (fun j hj _ e=>hex ⟨j,hj,e⟩),aBf.frame t (fun j hj _ e=>hex ⟨j,hj,e⟩)]
   rw[Kb,Kb,Kg h1,Kg h2] at this;exact this
  have aPs:∀m b,s.h m=some b→m<s.nx:=fun m b hm=>(hr.live m (hr.rel.lt m b hm)).1;have aGz:∀c,some c∈res.map (·.con)↔∃j,j<n∧(res.getD j .none).con=some c:=by
   intro c;constructor
   ·intro hc;obtain⟨d,hd,hdc⟩:=KM.1 hc;obtain⟨j,hj,rfl⟩:=List.getElem_of_mem hd;refine⟨j,or,?_⟩;rw[Kb,Kg hj];exact hdc
   rintro⟨j,hj,hc⟩;refine KM.2 ⟨res.getD j .none,?_,hc⟩;rw[Kb,Kg or];exact KP _
  have hhp:(bt (qU s.h s.nx (res.map (·.add))) (res.map (·.con))).le hh:=by
   intro m b hm;rcases xQ _ _ _ _ hm with⟨c,hc,rfl,aO2⟩|⟨hnc,hm⟩
   ·obtain⟨j,hj,hjc⟩:=(aGz c).1 hc;rw[hha.wrt j c hj (aAc j hj) hjc];exact aO2
   have hno:∀j c,j<n→listed.getD j false=true→(res.getD j .none).con=some c→c.n≠m:=fun j c hj _ hc=>hnc c ((aGz c).2 ⟨j,hj,hc⟩);rcases vN _ _ _ _ _ hm with⟨i,rfl,h3⟩|h3
   ·have aD6:i<n:=by
     rcases KG i n with h|h
     ·exact h
     rw[Kb,List.getElem?_eq_none (by simp[hrn];exact h)] at h3;cases h3
    rw[hha.new i aD6 (aAc _ aD6) hno];simp only[Kb,List.getElem?_map] at h3⊢;rw[Kg or] at h3⊢;exact h3
   rw[hha.old m (aPs m b h3) hno];exact h3
  refine xR hQ (ops.toList.drop n) tl n htl (fun j=>by simp[Kw]) K' ⟨_,_,s.nx+n⟩ a' ⟨hr.le.trans (hdr.trans hle),?_,hrel.weaken hhp,?_,?_,(by show sH _ _ a'.defers;rw[aGZ.defers];exact hr.defers.kept (hdr.trans hle).below)⟩ aAh
  ·show fE K' _ a';rw[←aPS];exact aYy
  ·intro m hm;show m<s.nx+n∧_;rcases aBt m hm with e2|⟨i,hi,e3,_⟩
   ·have:=hr.live m e2;exact⟨or,this.2⟩
   exact⟨or, .inr (by have:=hr.nx;omega)⟩
  show nx0≤s.nx+n;have:=hr.nx;omega
 have e:(Ki n).filter (fun i=> !(Kp ops.size false).getD i true)=Ki n:=by
  rw[KK];intro x hx;have:x<ops.size:=by have:=Kh.1 hx;omega
  simp[Ky,this]
 rw[e];simp
section
variable{F:Fence}{n:Nat}{P:Program}
def lZ(fn:FuncId)(tmps:Array Value)(ps:Array Tmp)(assign body:Code)(D:Nat)(st:LoopState)(pe:Option Code):Loop:=
 {state:=st,pending:=pe,fn,tmps,params:=ps,assign,body,defers:=D}
theorem jn{g:Operand}{ps:Array Tmp}{assign body:Code}{Q:Exit→Act→World→Prop}{a:Act}{w:World}
 (hro:F.round=none) (h1:F.depth.isSome=true→1≤n) {gf:Nat} {lb:Array Value} (hg:a.eval g= .func (.func gf) #[] lb) (hFg:F.fn gf) (eg:∀args w,(callFunc gf args).run P w= .ok (.enter gf args) w)
 (h:∀fn,F.fn fn→CallsIn F (n-1) P gf (#[.func (.yield (w.heap.size+1)) #[] #[]]++lb)
   ((w.alloc (.deferred (some []))).alloc (.loop (lZ fn a.tmps ps assign body w.heap.size .ready none))) fun e W2=>(∃v,e= .returned v)∧
   ((W2.heap[w.heap.size+1]?=some (.loop (lZ fn a.tmps ps assign body w.heap.size .ready none))∧
      Q .normal {a with defers:={target:= .collected w.heap.size,args:=#[]}::a.defers} (W2.putObj (w.heap.size+1) (.loop (lZ fn a.tmps ps assign body w.heap.size .exhausted none))))∨
    (∃c,W2.heap[w.heap.size+1]?=some (.loop (lZ fn a.tmps ps assign body w.heap.size .done (some c)))∧
      c.wpIn F n P Q {a with defers:={target:= .collected w.heap.size,args:=#[]}::a.defers} (W2.putObj (w.heap.size+1) (.loop (lZ fn a.tmps ps assign body w.heap.size .exhausted (some c))))))):
 (Code.rangeFunc g ps assign body).wpIn F n P Q a w:=by
 refine wpIn_rangeFunc ?_;intro fn hfn;rw[hro];let W1:=(w.alloc (.deferred (some []))).alloc (.loop (lZ fn a.tmps ps assign body w.heap.size .ready none))
 refine⟨w.heap.size+1,[{target:= .collected w.heap.size,args:=#[]}],W1,{target:= .fn (.func gf) lb,args:=#[.func (.yield (w.heap.size+1)) #[] #[]]},W1,gf,
  #[.func (.yield (w.heap.size+1)) #[] #[]]++lb,W1,run_enterLoop_outer _ _ _ _ _,?_,?_,?_,h1,?_⟩
 ·simp only[resolve,hg];simp[go_sem]
 ·intro f' hf';simp[Target.leads] at hf';subst hf';exact hFg
 ·simp[invoke,go_sem,eg]
 refine(h fn hfn).mono ?_;rintro e W2 ⟨⟨v,rfl⟩,(⟨hl,hq⟩|⟨c,hl,hq⟩)⟩
 ·exact⟨none,_,by have:=run_endLoop (P:=P) hl (by simp[lZ]);exact this,hq⟩
 exact⟨some c,_,by have:=run_endLoop (P:=P) hl (by simp[lZ]);exact this,hq⟩
def zc(l:Nat)(rcd:LoopState→Option Code→Obj)(R:Ending→World→Prop):Exit→Act→World→Prop
 | .normal,_,W=>W.heap[l]?=some (rcd .busy none)∧R (.returned (.bool true)) (W.putObj l (rcd .ready none))
 | .ret,_,W=>W.heap[l]?=some (rcd .busy none)∧R (.returned (.bool false)) (W.putObj l (rcd .done (some .ret)))
 | .exit id,_,W=>W.heap[l]?=some (rcd .busy none)∧R (.returned (.bool false)) (W.putObj l (rcd .done (some (.exit id))))
 |_,_,_=>False
theorem rt{l:Nat}{fn:FuncId}{tmps:Array Value}{ps:Array Tmp}{assign body:Code}{D:Nat}{args:Array Value}{W:World}{R:Ending→World→Prop}{m:Nat}
 (hF:F.fn fn) (hl:W.heap[l]?=some (.loop (lZ fn tmps ps assign body D .ready none))) (hsz:args.size=ps.size)
 (h:assign.wpIn (F.inRound l) m P (Exit.then (fun a₁ W₁=>W₁.heap[l]?=some (.loop (lZ fn tmps ps assign body D .ready none))∧
   body.wpIn (F.inRound l) m P (zc l (fun st pe=> .loop (lZ fn tmps ps assign body D st pe)) R) a₁ (W₁.putObj l (.loop (lZ fn tmps ps assign body D .busy none)))) (fun _ _ _=>False))
   {tmps:=(ps.zip args).foldl (fun t (p,v)=>t.setIfInBounds p v) tmps,defers:=[]} W):
 YieldAt F m P l args W R:=by
 refine⟨fn,_,assign,body,run_yield (P:=P) (args:=args) hl hsz,roundIn_of_wpIn hF ?_⟩;refine wpIn_mono h ?_;rintro e a₁ W₁ he;cases e with
 |normal=>
  obtain⟨hl1,hb⟩:=he;refine⟨_,run_beginRound hl1 rfl,?_⟩;refine wpIn_mono hb ?_;rintro e a₂ W₂ he;cases e with
  |normal=>exact⟨_,_,run_endRound none he.1,he.2⟩
  |ret=>exact⟨_,_,run_endRound (some .ret) he.1,he.2⟩
  |exit id=>exact⟨_,_,run_endRound (some (.exit id)) he.1,he.2⟩
  |goto t=>exact he.elim
  |panic ch=>exact he.elim
  |outgrown=>exact he.elim
 |exit id=>exact he.elim
 |goto t=>exact he.elim
 |ret=>exact he.elim
 |panic ch=>exact he.elim
 |outgrown=>exact he.elim
end
def Ker.more(K:Ker)(o:Obj):Ker:={K with w:=K.w.alloc o}
theorem Ker.aC2(K:Ker)(o:Obj):K.le (K.more o) where
 live _ h:=h
 mu _ _:=rfl
 tp _ _:=rfl
 fro:=rfl
 imm _ _:=Kq _
 cell b o' hlt _:=gV (eU _ _ _ hlt)
 shape b hlt:=kW (eU _ _ _ hlt)
 below:=pN.alloc _ o
theorem Rel.more{K:Ker}{h:Hp}(r:Rel K h)(o:Obj):Rel (K.more o) h:=r.keep (K.aC2 o) fun _ b e=>⟨eU _ _ _ (r.blk _ b e).lt_size,rfl⟩
theorem BR.aC0{K:Ker}{n:Nat}{o:Obj}{U:Ker→Prop}(r:BR K n (.obj o U)):K.w.heap[K.mu n]?=some o∧iL o=true∧U K∧∀A B:Ker,A.leV B→U A→U B:=by
 cases r with
 |obj _ _ hh ho hu hU=>exact⟨hh,ho,hu,hU⟩
theorem Rel.setObj{K:Ker}{h:Hp}(r:Rel K h){n:Nat}{o o0:Obj}{U:Ker→Prop}(hn:h n=some (.obj o0 U))(ho:iL o=true):K.le (K.obj (K.mu n) o)∧Rel (K.obj (K.mu n) o) (h.set n (.obj o U)):=by
 obtain⟨h1,h2,h3,h4⟩:=(r.blk n _ hn).aC0;have hle:=K.aEY h1 (jS h2) (jS ho) (r.base n _ hn) (nV h1 h2);exact r.aCz hn h1 h2 ho (.obj o U (World.putObj_heap_same (Km.1 h1).1) ho (h4 _ _ hle.toV h3) h4)
theorem Ay(h:Hp)(n:Nat)(b:Blk):(h.del n).le (h.set n b):=fun m c e=>by
 unfold Hp.del at e;split at e
 ·cases e
 rename_i hm;unfold Hp.set;rw[if_neg hm];exact e
def aAR(sl:List V):List Nat→List V→List V
 |p::ps,v::vs=>aAR (sl.set p v) ps vs
 |_,_=>sl
theorem fE.aAl{K K':Ker}(h:K.leV K'){sl:List V}{a:Act}(r:fE K sl a):fE K' sl a:=⟨r.1,fun t=>(r.2 t).aAl h⟩
theorem fE.aAR{K:Ker}{ds:List Deferred}:∀(ps:List Nat) (args:List V) (cargs:List Value) (sl:List V) (tm:Array Value),fE K sl ⟨tm,ds⟩→args.length=cargs.length→(∀i,i<args.length→VR K (args.getD i Ka) (cargs.getD i Kv))→
 fE K (aAR sl ps args) ⟨(ps.zip cargs).foldl (fun t p=>t.setIfInBounds p.1 p.2) tm,ds⟩
 | [],args,cargs,sl,tm,hs,_,_=>by cases args<;>simpa [Go.Proofs.YtlhedpgobaellaaGreatDoor.aAR] using hs
 |p::ps,[],cargs,sl,tm,hs,hl,_=>by
  have:cargs=[]:=by cases cargs with
   |nil=>rfl
   |cons=>simp at hl
  subst this;simpa [Go.Proofs.YtlhedpgobaellaaGreatDoor.aAR] using hs
 |p::ps,v::vs,[],sl,tm,hs,hl,_=>by simp at hl
 |p::ps,v::vs,cv::cvs,sl,tm,hs,hl,hv=>by
  have h1:fE K (sl.set p v) ⟨tm.setIfInBounds p cv,ds⟩:=hs.put (dst:=some p) (by simpa using hv 0 Zm);have:=fE.aAR ps vs cvs (sl.set p v) (tm.setIfInBounds p cv) h1 (by simpa using hl) (fun i hi=>by simpa using hv (i+1) (by simpa using hi));simpa [Go.Proofs.YtlhedpgobaellaaGreatDoor.aAR] using this
def vZ:List Nat→World→World
 | [],w=>w
 |D::Ds,w=>vZ Ds (w.putObj D (.deferred none))
theorem qF{P:Program}{fn:Func}{tmps:Array Value}{R:Ending→World→Prop}:∀(Ds:List Nat) (w:World),Ds.Nodup→(∀D∈Ds,gM w D)→(∃v,(results fn tmps).run P (vZ Ds w)= .ok v (vZ Ds w)∧R (.returned v) (vZ Ds w))→
 LeavesInM Fence.wide 4 P fn tmps R (Ds.map fun D=>{target:= .collected D,args:=#[]}) .returning w
 | [],w,_,_,h=>h
 |D::Ds,w,hnd,hm,h=>by
  have aGx:=KJ.1 hnd;refine⟨Zm, .inl ⟨D,_,rfl,run_takeDeferred (hm D Zm),?_⟩⟩;refine qF Ds _ aGx.2 (fun E hE=>?_) h;have hne:E≠D:=fun e=>aGx.1 (e▸hE);exact(Ko hne).trans (hm E (by simp[hE]))
theorem dj{K:Ker}:∀(Ds:List Nat) (w:World) (K1:Ker),K1.w=w→(∀D∈Ds,gM w D)→Ds.Nodup→K.le K1→(∀D∈Ds,K.w.heap.size≤D)→(∀b,K.fro b→b<K.w.heap.size)→∀{h:Hp},Rel K1 h→
 ∃K2,K2.w=vZ Ds w∧K1.leV K2∧K.le K2∧Rel K2 h∧K2.live=K1.live
 | [],w,K1,hw,_,_,hle,_,_,h,hr=>⟨K1,hw, .refl _,hle,hr,rfl⟩
 |D::Ds,w,K1,hw,hm,hnd,hle,hB,hF,h,hr=>by
  subst hw;have aGx:=KJ.1 hnd;have hmD:=hm D Zm;have hBD:=hB D Zm;have hV:=K1.aBe (o:= .deferred none) hmD rfl rfl;have aD4:K.le (K1.obj D (.deferred none)):=by
   refine⟨fun n hn=>hle.live n hn,hle.mu,hle.tp,hle.fro,hle.imm,fun b o hb hst=>(hV.cell b o (KD hb hle.below.size) (hle.still hb hst)).trans (hle.cell b o hb hst),fun b hb=>(hV.shape b (KD hb hle.below.size)).trans (hle.shape b hb),?_⟩;exact⟨hle.below.os,hle.below.tape,hle.below.output,hle.below.drawn,Qa hle.below.size hV.size,fun b hb hk=>(Ko or).trans (hle.below.block b hb hk)⟩
  have hr':Rel (K1.obj D (.deferred none)) h:=hr.aC3 hV fun n b e=>by
   refine⟨Ko ?_,rfl⟩;intro e2;have hb:=hr.blk n b e;unfold gM at hmD;rw[←e2] at hmD;cases hb with
   |arr k es c T hh=>rw[hh] at hmD;cases hmD
   |tip c T hh=>rw[hh] at hmD;cases hmD
   |obj o U hh ho=>rw[hh] at hmD;injection hmD with hmD;subst hmD;cases ho
   |mp es c ces hh=>rw[hh] at hmD;cases hmD
   |mit m since seen last hh=>rw[hh] at hmD;cases hmD
  obtain⟨K2,q1,q2,q3,q4,q5⟩:=dj (K:=K) Ds _ (K1.obj D (.deferred none)) rfl (fun E hE=>by
   have hne:E≠D:=fun e=>aGx.1 (e▸hE);exact(Ko hne).trans (hm E (by simp[hE]))) aGx.2 aD4 (fun E hE=>hB E (by simp[hE])) hF hr'
  exact⟨K2,q1,hV.trans q2,q3,q4,q5⟩
def wU(ops:Array Oper)(n:Nat)(l:List (aA×List Nat)):Bool:=
 Region.noSelect ops&&(decide (n=ops.size)||(decide (n<ops.size)&&Region.sinkB .any ops n&&Region.chainB .any ops n))&&
 Region.seqB .any ops (ops.size-n) n ((Ki ops.size).map (fun i=>decide (i<n))).toArray&&
 (Ki n).all (fun i=>match ops[i]?,l[i]? with
   |some o,some (lo,aAF)=>(o.after.toList.all fun e=> !Region.binds .any e||decide (e.on<i))&&(lo.aBn.aAD.all fun t=>(Ki n).all fun j=>iA ops j != some t||aAF.contains j)&&aAF.all (fun d=>decide (d<i))
   |_,_=>false)&&
 (Ki n).all (fun i=>(Ki n).all fun j=>i==j||(iA ops i).isNone||iA ops i != iA ops j)
theorem Fa{ops:Array Oper}{n:Nat}{l:List (aA×List Nat)}(h:qT ops n l=true):wU ops n l=true:=by
 unfold qT at h;unfold wU;simp only[Kc,Kk] at h⊢;obtain⟨⟨⟨⟨a,b⟩,c⟩,d⟩,e⟩:=h;refine⟨⟨⟨⟨a,b⟩,c⟩,fun i hi=>?_⟩,e⟩;have:=d i hi;cases h1:ops[i]? with
 |none=>simp[h1] at this
 |some o=>
  cases h2:l[i]? with
  |none=>simp[h1,h2] at this
  |some p=>
   simp only[h1,h2,Kc] at this⊢;exact this.1
theorem E8{P:Program}{ops:Array Oper}{n:Nat}{l:List (aA×List Nat)}(hB:wU ops n l=true){rd:Option Nat}{mm:Nat}{Q:Exit→Act→World→Prop}(Iv:Array Bool→Act→World→Prop)(hhd:∀listed a w,Iv listed a w→HeadInv .any ops n listed)
 (aBg:∀listed a w i (Kn:Act→World→Prop),Iv listed a w→i<n→i∈Region.ready .any ops listed→(∀a' w',Iv (listed.setIfInBounds i true) a' w'→Kn a' w')→wpOpIn (FR rd) mm P ops Q i Kn a w)
 (aCD:∀listed a w,Iv listed a w→(∀j,j<n→listed.getD j false=true)→wpListIn (FR rd) mm P ops Q (ops.toList.drop n) a w):
 ∀(f:Nat) (listed:Array Bool) (a:Act) (w:World),f=((Ki n).filter fun i=> !listed.getD i true).length→Iv listed a w→wpAnyIn (FR rd) mm P .any ops Q (f+(ops.size-n)) listed a w:=by
 have hB':=hB;simp only[wU,Kc,Kk,Kh,KA,decide_eq_true_eq] at hB';obtain⟨⟨⟨⟨aO0,aAn⟩,aGb⟩,aEe⟩,aCc⟩:=hB';have aC6:n≤ops.size:=by rcases aAn with h|⟨⟨h,_⟩,_⟩<;>omega
 intro f;induction f with
 |zero=>
  intro listed a w hf inv;have aAc:∀i,i<n→listed.getD i true=true:=by
   intro i hi;have hz:=KB hf.symm;rw[KH] at hz;have:=hz i (Kh.2 hi);simpa using this
  have aFW:∀j,j<n→listed.getD j false=true:=by
   intro j hj;have:=aAc j hj;have hjs:j<listed.size:=by rw[(hhd _ _ _ inv).size];omega
   simp only[Ky,hjs,dif_pos] at this⊢;exact this
  have aFN:listed=((Ki ops.size).map (fun i=>decide (i<n))).toArray:=by
   apply Qb
   ·simp[(hhd _ _ _ inv).size]
   intro i h1 h2;have hi:i<ops.size:=by simpa [(hhd _ _ _ inv).size] using h1
   by_cases hin:i<n
   ·have:=aAc i hin;rw[Kd,Kf h1] at this;simpa [hin] using this
   have:=(hhd _ _ _ inv).tail i or hi;rw[Kd,Kf h1] at this;simpa [hin] using this
  have h:=aCD listed a w inv aFW;have hl:(ops.toList.drop n).length=ops.size-n:=Zm;rw[KL];have:=rC (rd:=rd) (mm:=mm) (P:=P) (md:= .any) (Q':=Q) (ops.toList.drop n) n listed a w (fun j=>by simp[Kw]) (by rw[hl,aFN];exact aGb) h;rwa [hl] at this
 |succ f ih=>
  intro listed a w hf inv;have hex:∃i,i<n∧listed.getD i true=false:=by
   have hne:((Ki n).filter fun i=> !listed.getD i true)≠ []:=by intro h;rw[h] at hf;simp at hf
   obtain⟨i,hi⟩:=KE _ hne;rw[KI,Kh] at hi;exact⟨i,hi.1,by simpa using hi.2⟩
  obtain⟨i0,hi0,aGp⟩:=hex;have aFQ:∀j∈Region.ready .any ops listed,j<n:=by
   intro j hj;rcases aAn with h|⟨⟨h,hs⟩,hc⟩
   ·obtain⟨_,o,ho,_⟩:=mem_ready.1 hj;have:=(Km.1 ho).1;omega
   rcases KG j n with h'|h'
   ·exact h'
   exact absurd hj (tail_waits hs hc h (hhd _ _ _ inv) _ i0 rfl hi0 aGp j h')
  have aA4:∀k,k<n→listed.getD k true=false→(∀j,j<k→listed.getD j true=true)→k∈Region.ready .any ops listed:=by
   intro k hk hun hlt;have ho:=aEe k hk;have hok:ops[k]?=some (ops[k]'or):=Kf or;rw[hok] at ho;refine mem_ready.2 ⟨hun,_,hok,fun e he hb=>?_⟩;cases hlk:l[k]? with
   |none=>simp[hlk] at ho
   |some q=>
    obtain⟨lo,aAF⟩:=q;simp only[hlk,Kc,Kk] at ho;have h:=ho.1.1 e (Kz.2 he);simp only[hb,KV,KW,decide_eq_true_eq] at h;have h2:=hlt e.on h;have hs:e.on<listed.size:=by rw[(hhd _ _ _ inv).size];omega
    rw[Kd,Kf hs] at h2⊢;exact h2
  have aBq:Region.ready .any ops listed≠ []:=by
   have least:∀k,k≤i0→(∀j,j<k→listed.getD j true=true)→∃i,i<n∧i∈Region.ready .any ops listed:=by
    intro k hk;induction hd:i0-k generalizing k with
    |zero=>
     intro hl;have hki:k=i0:=or;subst hki;exact⟨k,hi0,aA4 k hi0 aGp hl⟩
    |succ d ihd=>
     intro hl;by_cases hu:listed.getD k true=true
     ·exact ihd (k+1) or or (fun j hj=>by
       by_cases hjk:j=k
       ·subst hjk;exact hu
       exact hl j or)
     exact⟨k,or,aA4 k or (by simpa using hu) hl⟩
   obtain⟨i,_,hi⟩:=least 0 or (fun j hj=>or);intro h;rw[h] at hi;cases hi
  rw[show f+1+(ops.size-n)=(f+(ops.size-n))+1 by omega];refine⟨fun h=>absurd h aBq,fun i hi=>?_⟩;have hin:=aFQ i hi;obtain⟨hun,o,ho,_⟩:=mem_ready.1 hi;refine aBg _ _ _ _ _ inv hin hi fun a' w' aGZ=>ih _ a' w' ?_ aGZ;have aG6:i<listed.size:=by rw[(hhd _ _ _ inv).size];exact(Km.1 ho).1
  have:=rZ (fun x=> !listed.getD x true) (fun x=> !(listed.setIfInBounds i true).getD x true) i (by simpa using hun) (by simp[Ky,aG6]) (fun x hx=>by rw[getD_set_ne true (fun e=>hx e.symm)]) (Ki n) KO (Kh.2 hin);omega
def Bw(P:Program)(hd:List (aA×List Nat))(tl:List aA)(Q:St→Prop)(s:St):Prop:=
 ∃I:(Nat→Bool)→St→Prop,I (fun _=>false) s∧
  (∀D i o aAF s',hd[i]?=some (o,aAF)→D i=false→(∀d∈aAF,D d=true)→(∀j o aAF,hd[j]?=some (o,aAF)→D j=true→∀d∈aAF,D d=true)→I D s'→aY P [o] (I fun j=>if j=i then true else D j) s')∧
  ∀D s',(∀i,i<hd.length→D i=true)→I D s'→aY P tl Q s'
theorem oi{ops:Array Oper}{n:Nat}{listed:Array Bool}(aC6:n≤ops.size)(inv:HeadInv .any ops n listed):∀j,j<n→listed.getD j false=true→∀d,d∈oR ops n j→d<n∧listed.getD d false=true:=by
 have hd1:∀j,j<n→listed.getD j false=true→∀d,d∈zd1 ops n j→d<n∧listed.getD d false=true:=by
  intro j hj aA0 d hd;have hoj:ops[j]?=some (ops[j]'or):=Kf or;simp only[zd1,hoj,Option.map_some,KR,KM,KI,Kc,decide_eq_true_eq] at hd;obtain⟨e,⟨he,hb,hn⟩,rfl⟩:=hd;exact⟨hn,inv.closed j _ hoj aA0 e (Kz.1 he) hb⟩
 intro j hj aA0 d hd;exact j5 ops n (S:=fun d=>d<n∧listed.getD d false=true) j (fun k hk hS d hd=>hd1 k hS.1 hS.2 d hd) ⟨hj,aA0⟩ n hj d hd
theorem tM{P:Program}{w:Bool}{fl:List aK}{sl:List V}{h:Hp}{nx:Nat}{R:V→Hp→Nat→Prop}{l:LOp}(hr:(l.aAt w fl).run P sl h nx R):l.run P sl h nx R:=by
 cases l with
 |call f args=>
  unfold LOp.aAt at hr;cases w with
  |true=>exact hr.elim
  |false=>exact hr
 |_=>exact hr
theorem ww{P:Program}{id:Nat}{ops:Array Oper}{n:Nat}{w0:Bool}{l:List (aA×List Nat)}{tl:List aA}(hm:P.follows .mixedOrders=true)(hB:wU ops n l=true)(hl:dN P ops n w0 0 (ops.toList.take n)=some l)(htl:cU P ops (ops.toList.drop n)=some tl)
 {K0 K:Ker} {nx0:Nat} {s:St} {a:Act} (hr:mH K0 K nx0 s a) {Q:Exit→Act→World→Prop} {Qs:St→Prop} (hQ:∀K s a,mH K0 K nx0 s a→Qs s→Q .normal a K.w)
 (h:Bw P l tl Qs s) {rd:Option Nat} {mm:Nat}:(Code.region id ops true).wpIn (FR rd) mm P Q a K.w:=by
 obtain⟨I,h0,aBg,aCD⟩:=h;have hB':=hB;simp only[wU,Kc,Kk,Kh,KA,decide_eq_true_eq] at hB';obtain⟨⟨⟨⟨aO0,aAn⟩,aGb⟩,aEe⟩,aCc⟩:=hB';have aC6:n≤ops.size:=by rcases aAn with h|⟨⟨h,_⟩,_⟩<;>omega
 obtain⟨hll,hlg⟩:=iF _ _ _ hl;have hln:l.length=n:=by rw[hll];simp;omega
 have hdd:=gw aC6 hl;have hlj:∀j,j<n→∃lo aAF,l[j]?=some (lo,aAF):=fun j hj=>⟨(l[j]'or).1,(l[j]'or).2,Kg or⟩;have hjn:∀{j lo aAF},l[j]?=some (lo,aAF)→j<n:=fun hj=>by have:=(List.getElem?_eq_some_iff.1 hj).1;omega
 refine wpIn_region_any hm ?_;have hdr:=K.le_drew;have aAh:=E8 (P:=P) (rd:=rd) (mm:=mm) (Q:=Q) hB (fun listed a w=>HeadInv .any ops n listed∧∃K' s',K'.w=w∧mH K0 K' nx0 s' a∧I (fun j=>listed.getD j false) s') (fun _ _ _ h=>h.1) ?_ ?_ n (Kp ops.size false) a K.drew.w ?_ ?_
 ·rw[show n+(ops.size-n)=ops.size by omega] at aAh;exact aAh
 ·rintro listed a' w' i Kn ⟨hhd,K',s',rfl,hr',hI⟩ hin hi hK;obtain⟨hun,o,ho,aAc⟩:=mem_ready.1 hi;have hot:(ops.toList.take n)[i]?=some o:=by rw[List.getElem?_take,if_pos hin];simpa using ho
  obtain⟨lo,hlo,aCM⟩:=hlg i o hot;rw[KL] at hlo;have hdn:∀d,d∈oR ops n i→listed.getD d false=true:=by
   have aAQ:=oi aC6 (hhd.set hi hin) i hin (by
    have hs:i<listed.size:=by rw[hhd.size];omega
    simp[Ky,hs])
   intro d hd;have h1:=aAQ d hd;have hne:d≠i:=by
    have h2:=aEe i hin;have hoj:ops[i]?=some (ops[i]'or):=Kf or;simp only[hoj,hlo,Kc,Kk,decide_eq_true_eq] at h2;have:=h2.2 d hd;omega
   rw[getD_set_ne false (fun e=>hne e.symm)] at h1;exact h1.2
  have hq:=aBg (fun j=>listed.getD j false) i _ _ s' hlo (getD_both hun) hdn (fun j o' aAI hj hD d hd=>by
   rw[(hdd j o' aAI hj).2] at hd;exact(oi aC6 hhd j (hjn hj) hD d hd).2) hI
  refine uZ ho aCM hr' (fun s''=>I (fun j=>(listed.setIfInBounds i true).getD j false) s'') (fun K2 s2 a2 hr2 hI2=>hK a2 K2.w ⟨hhd.set hi hin,K2,s2,rfl,hr2,hI2⟩) ?_;have heq:(fun j=>if j=i then true else listed.getD j false)=fun j=>(listed.setIfInBounds i true).getD j false:=by
   funext j;by_cases e:j=i
   ·subst e;have hs:j<listed.size:=by rw[hhd.size];omega
    simp[Ky,hs]
   rw[if_neg e,getD_set_ne false (fun h=>e h.symm)]
  rw[heq] at hq;unfold aY at hq;unfold aA.aAt at hq;cases hg:lo.g with
  |none=>
   simp only[hg] at hq⊢;exact tM hq
  |some p=>
   obtain⟨t,want⟩:=p;simp only[hg] at hq⊢;cases hv:s'.sl.getD t Ka with
   |bool b=>
    simp only[hv] at hq⊢;by_cases hb:b=want
    ·rw[if_pos hb] at hq⊢;exact tM hq
    rw[if_neg hb] at hq⊢;exact hq
   |tup _=>simp only[hv] at hq⊢;exact hq
   |_=>simp only[hv] at hq
 ·rintro listed a' w' ⟨hhd,K',s',rfl,hr',hI⟩ aAc;exact xR hQ (ops.toList.drop n) tl n htl (fun j=>by simp[Kw]) K' s' a' hr' (aCD _ s' (fun i hi=>aAc i or) hI)
 ·have:∀i∈Ki n,(!(Kp ops.size false).getD i true)=true:=by
   intro i hi;rw[getD_in (by simpa using(show i<ops.size by have:=Kh.1 hi;omega)) (getD_replicate_false _ _)];rfl
  rw[KK.2 this];simp
 refine⟨⟨Zm,fun j oj _ hl=>(by rw[getD_replicate_false] at hl;cases hl),fun t _ ht=>getD_in (by simpa using ht) (getD_replicate_false _ _)⟩,K.drew,s,rfl,⟨hr.le.trans hdr,hr.aAD.mono hdr,hr.rel.drew,hr.live,hr.nx,hr.defers.kept hdr.below⟩,?_⟩;have:(fun j=>(Kp ops.size false).getD j false)=fun _=>false:=funext fun j=>getD_replicate_false _ _;rw[this];exact h0
def WkL:List V→List V→Prop
 | [],[]=>True
 |a::as,b::bs=>(b=a∨b= .top)∧WkL as bs
 |_,_=>False
structure Wk(s s':St):Prop where
 sl:WkL s.sl s'.sl
 h:s'.h.le s.h
 nx:s.nx≤s'.nx
theorem WkL.refl:∀l,WkL l l
 | []=>trivial
 |_::l=>⟨.inl rfl,WkL.refl l⟩
theorem Wk.refl(s:St):Wk s s:=⟨WkL.refl _,Hp.le_refl _,Kq _⟩
theorem WkL.len:∀{a b:List V},WkL a b→a.length=b.length
 | [],[],_=>rfl
 |_::as,_::bs,h=>by simp[WkL.len h.2]
theorem WkL.get:∀{a b:List V},WkL a b→∀i,b.getD i Ka=a.getD i Ka∨b.getD i Ka= .top
 | [],[],_,i=> .inl rfl
 |a::as,b::bs,h,0=>by simpa using h.1
 |a::as,b::bs,h,i+1=>by simpa using WkL.get h.2 i
theorem mH.wk{K0 K:Ker}{nx0:Nat}{s s':St}{a:Act}(r:mH K0 K nx0 s a)(w:Wk s s'):mH K0 K nx0 s' a:=by
 refine⟨r.le,⟨w.sl.len.symm.trans r.aAD.1,fun t=>?_⟩,r.rel.weaken w.h,fun n hn=>⟨KD (r.live n hn).1 w.nx,(r.live n hn).2⟩,Qa r.nx w.nx,r.defers⟩;rcases w.sl.get t with h|h
 ·rw[h];exact r.aAD.2 t
 rw[h];exact .top _
def tH(s s':St):Prop:=∀(K0 K:Ker) (nx0:Nat) (a:Act),mH K0 K nx0 s a→∃K',K'.w=K.w∧mH K0 K' nx0 s' a
theorem Wk.tell{s s':St}(w:Wk s s'):tH s s':=fun _ K _ _ r=>⟨K,rfl,r.wk w⟩
theorem tH.trans{s1 s2 s3:St}(h:tH s1 s2)(k:tH s2 s3):tH s1 s3:=fun K0 K nx0 a r=>
 have⟨_,e1,r1⟩:=h K0 K nx0 a r;have⟨K2,e2,r2⟩:=k K0 _ nx0 a r1
 ⟨K2,e2.trans e1,r2⟩
def mD(b:(bJ→St→Prop)→St→Prop)(Q:bJ→St→Prop):bJ→St→Prop
 | .normal,s=>∃s',tH s s'∧b Q s'
 |e,s=>Q e s
def fK(id:Nat)(Q:bJ→St→Prop):bJ→St→Prop
 | .exit id',s=>if id'=id then Q .normal s else Q (.exit id') s
 |e,s=>Q e s
def H0(J:St→Prop)(Q:bJ→St→Prop):bJ→St→Prop
 | .normal,s=>∃s',tH s s'∧J s'
 |e,s=>Q e s
def It(r:Nat)(o:Obj)(U:Ker→Prop)(J:St→Prop):bJ→St→Prop
 | .normal,s=>s.h r=some (.obj o U)∧J s
 |_,_=>False
def Hf(r:Nat)(rcd:LoopState→Option Code→Obj)(U:Ker→Prop)(R:V→Hp→Nat→Prop):bJ→St→Prop
 | .normal,s=>s.h r=some (.obj (rcd .busy none) U)∧R (.bool true) (s.h.set r (.obj (rcd .ready none) U)) s.nx
 | .ret,s=>s.h r=some (.obj (rcd .busy none) U)∧R (.bool false) (s.h.set r (.obj (rcd .done (some .ret)) U)) s.nx
 | .exit id,s=>s.h r=some (.obj (rcd .busy none) U)∧R (.bool false) (s.h.set r (.obj (rcd .done (some (.exit id))) U)) s.nx
def FO(r:Nat)(rcd:LoopState→Option Code→Obj)(U:Ker→Prop)(Q:bJ→St→Prop)(sl:List V)(h':Hp)(nx':Nat):Prop:=
 (h' r=some (.obj (rcd .ready none) U)∧Q .normal ⟨sl,h'.del r,nx'⟩)∨(h' r=some (.obj (rcd .done (some .ret)) U)∧Q .ret ⟨sl,h'.del r,nx'⟩)∨
   ∃id,h' r=some (.obj (rcd .done (some (.exit id))) U)∧Q (.exit id) ⟨sl,h'.del r,nx'⟩
def lwp(P:Program):aT→(bJ→St→Prop)→St→Prop
 | .skip,Q,s=>Q .normal s
 | .ops l,Q,s=>aY P l (Q .normal) s
 | .draw n hd tl,Q,s=>(((hd.all fun p=>match p.1.dst with|some d=>decide (d<s.sl.length)|none=>true)&&decide (n=hd.length))=true∧
  dJ P s.h s.nx hd s.sl [] [] fun sl aAK cons=>aY P tl (Q .normal) ⟨sl,bt (qU s.h s.nx aAK) cons,s.nx+n⟩)∨Bw P hd tl (Q .normal) s
 | .seq a b,Q,s=>lwp P a (mD (lwp P b) Q) s
 | .cond c a b,Q,s=>match c.ev s.sl with
  | .bool t=>if t=true then lwp P a Q s else lwp P b Q s
  |_=>False
 | .block id c,Q,s=>lwp P c (fK id Q) s
 | .loop c,Q,s=>∃(I:St→Prop) (m:St→Nat),(∃s',tH s s'∧I s')∧∀s,I s→lwp P c (H0 (fun s'=>I s'∧m s'<m s) Q) s
 | .exit id,Q,s=>Q (.exit id) s
 | .ret,Q,s=>Q .ret s
 | .range g ps as b,Q,s=>match g.ev s.sl with
  | .fn (.func gf) [] caps=>∀(rcd:LoopState→Option Code→Obj) (U:Ker→Prop),(∀st pe,iL (rcd st pe)=true)→
   (∀(args:List V) (h:Hp) (nx:Nat) (R:V→Hp→Nat→Prop),args.length=ps.length→h s.nx=some (.obj (rcd .ready none) U)→
     lwp P as (It s.nx (rcd .ready none) U fun s1=>lwp P b (Hf s.nx rcd U R) ⟨s1.sl,s1.h.set s.nx (.obj (rcd .busy none) U),s1.nx⟩) ⟨aAR s.sl ps args,h,nx⟩→dX P s.nx args h nx R)→
   aR P gf (.yld s.nx::caps) (s.h.set s.nx (.obj (rcd .ready none) U)) (s.nx+1) fun _ h' nx'=>FO s.nx rcd U Q s.sl h' nx'
  |_=>False
def LOp.aFC:LOp→Bool
 | .store _ _ _=>true
 | .mp (.put _ _ _ _ _)=>true
 | .mp (.del _ _ _ _)=>true
 |_=>false
def yV(P:Program)(ops:Array Oper)(w:Bool)(n:Nat):Option aT:=
 match dN P ops n w 0 (ops.toList.take n),cU P ops (ops.toList.drop n) with
 |some l,some tl=>if (qT ops n l&&(w||l.all fun p=> !p.1.op.aFC))=true then some (.draw n l tl) else none
 |_,_=>none
def sA(P:Program)(ops:Array Oper)(w:Bool):Nat→Option aT
 |0=>yV P ops w 0
 |n+1=>match yV P ops w (n+1) with
  |some c=>some c
  |none=>sA P ops w n
def wv(P:Program)(ops:Array Oper):Option aT:=
 match dN P ops ops.size false 0 (ops.toList.take ops.size) with
 |some l=>if wU ops ops.size l=true then some (.draw (l.length+1) l []) else none
 |none=>none
def qz(P:Program)(ops:Array Oper):Option aT:=
 match sA P ops false ops.size with
 |some c=>some c
 |none=>match sA P ops true ops.size with
  |some c=>some c
  |none=>wv P ops
def fG:Code→Bool
 | .seq a b=>fG a&&fG b
 | .cond _ a b=>fG a&&fG b
 | .block _ c=>fG c
 | .loop c=>fG c
 | .scope _=>false
 | .rangeFunc _ _ _ _=>false
 |_=>true
def bP(P:Program):Code→Option aT
 | .skip=>some .skip
 | .label _=>some .skip
 | .region _ ops false=>(cU P ops ops.toList).map .ops
 | .region _ ops true=>if P.follows .mixedOrders then qz P ops else none
 | .seq a b=>match bP P a,bP P b with
  |some a,some b=>some (.seq a b)
  |_,_=>none
 | .cond c a b=>match aO P 0 c,bP P a,bP P b with
  |some c,some a,some b=>some (.cond c a b)
  |_,_,_=>none
 | .block id c=>(bP P c).map (.block id)
 | .loop c=>(bP P c).map .loop
 | .scope c=>bP P c
 | .exit id=>some (.exit id)
 | .ret=>some .ret
 | .rangeFunc g ps as b=>if fG as=true∧fG b=true then match aO P 0 g,bP P as,bP P b with
  |some g,some as,some b=>some (.range g ps.toList as b)
  |_,_,_=>none
  else none
 |_=>none
theorem qy{P:Program}{ops:Array Oper}{w:Bool}{n:Nat}{L:aT}(h:yV P ops w n=some L):∃l tl,L= .draw n l tl∧qT ops n l=true∧dN P ops n w 0 (ops.toList.take n)=some l∧cU P ops (ops.toList.drop n)=some tl:=by
 unfold yV at h;split at h
 ·rename_i l tl h1 h2;split at h
  ·rename_i hb;injection h with h;simp only[Kc] at hb;exact⟨l,tl,h.symm,hb.1,h1,h2⟩
  cases h
 cases h
theorem nO{P:Program}{ops:Array Oper}{w:Bool}{L:aT}:∀n,sA P ops w n=some L→∃n,yV P ops w n=some L
 |0,h=>⟨0,h⟩
 |n+1,h=>by
  unfold sA at h;split at h
  ·rename_i c hc;injection h with h;subst h;exact⟨n+1,hc⟩
  exact nO n h
theorem jv{P:Program}{ops:Array Oper}{L:aT}(h:qz P ops=some L):∃m l tl w n,L= .draw m l tl∧(m=l.length→qT ops n l=true∧m=n)∧wU ops n l=true∧dN P ops n w 0 (ops.toList.take n)=some l∧cU P ops (ops.toList.drop n)=some tl:=by
 have at_:∀w n,yV P ops w n=some L→∃m l tl w n,L= .draw m l tl∧(m=l.length→qT ops n l=true∧m=n)∧wU ops n l=true∧dN P ops n w 0 (ops.toList.take n)=some l∧cU P ops (ops.toList.drop n)=some tl:=fun w n hn=>by
  obtain⟨l,tl,rfl,hB,h1,h2⟩:=qy hn;exact⟨n,l,tl,w,n,rfl,fun _=>⟨hB,rfl⟩,Fa hB,h1,h2⟩
 unfold qz at h;split at h
 ·rename_i c hc;injection h with h;subst h;obtain⟨n,hn⟩:=nO _ hc;exact at_ _ _ hn
 split at h
 ·rename_i c hc;injection h with h;subst h;obtain⟨n,hn⟩:=nO _ hc;exact at_ _ _ hn
 unfold wv at h;split at h
 ·rename_i l hl;split at h
  ·rename_i hB;injection h with h;subst h;exact⟨_,l,[],false,ops.size,rfl,fun e=>or,hB,hl,by rw[List.drop_of_length_le Zm];rfl⟩
  cases h
 cases h
theorem t7{P:Program}{g:Operand}{ps:Array Tmp}{as b:Code}{lg:aK}{la lb:aT}(h0:aO P 0 g=some lg)
 (ha:∀(l m:Nat) (Q:bJ→St→Prop) (s:St),lwp P la Q s→∀(K0 K:Ker) (nx0:Nat) (act:Act),mH K0 K nx0 s act→as.wpIn (FR (some l)) m P (AP K0 nx0 Q) act K.w)
 (hb:∀(l m:Nat) (Q:bJ→St→Prop) (s:St),lwp P lb Q s→∀(K0 K:Ker) (nx0:Nat) (act:Act),mH K0 K nx0 s act→b.wpIn (FR (some l)) m P (AP K0 nx0 Q) act K.w)
 {K0 K:Ker} {nx0:Nat} {s:St} {a:Act} (hr:mH K0 K nx0 s a) {Q:bJ→St→Prop} (h:lwp P (.range lg ps.toList la lb) Q s) {mm:Nat}:(Code.rangeFunc g ps as b).wpIn (FR none) mm P (AP K0 nx0 Q) a K.w:=by
 have vg:=aG h0 ⟨hr.rel.size,hr.aAD.2⟩;simp only[lwp] at h;split at h;case h_2=>exact h.elim
 rename_i gf caps hev;rw[hev] at vg;generalize hcg:a.eval g=cg at vg;cases vg with
 |fn _ _ _ cf cc hl1 hl2 hv1 hv2=>
 have hcf:cf=#[]:=by
  apply Array.eq_empty_of_size_eq_zero;simpa using hl1.symm
 subst hcf;have aAJ:¬K.live s.nx:=fun hn=>KY _ (hr.live _ hn).1
 have key:∀fn:FuncId,∃(rcd:LoopState→Option Code→Obj) (K1:Ker),(rcd=fun st pe=> .loop (lZ fn a.tmps ps as b K.w.heap.size st pe))∧K1=(K.more (.deferred (some []))).push s.nx (rcd .ready none) 0∧K.le K1∧
  Rel K1 (s.h.set s.nx (.obj (rcd .ready none) fun K'=>K1.leV K'))∧aR P gf (.yld s.nx::caps) (s.h.set s.nx (.obj (rcd .ready none) fun K'=>K1.leV K')) (s.nx+1) fun _ h' nx'=>FO s.nx rcd (fun K'=>K1.leV K') Q s.sl h' nx':=by
  intro fn;obtain⟨rcd,aCT⟩:∃rcd:LoopState→Option Code→Obj,rcd=fun st pe=> .loop (lZ fn a.tmps ps as b K.w.heap.size st pe):=⟨_,rfl⟩;have hpl:∀st pe,iL (rcd st pe)=true:=fun st pe=>by rw[aCT];rfl
  obtain⟨K1,hK1⟩:∃K1,K1=(K.more (.deferred (some []))).push s.nx (rcd .ready none) 0:=⟨_,rfl⟩;have hle1:K.le K1:=by rw[hK1];exact(K.aC2 _).trans ((K.more _).aAu s.nx aAJ _ _)
  have hmu1:K1.mu s.nx=K.w.heap.size+1:=by rw[hK1];simp[Ker.push,Ker.more]
  have aCU:∀n,K1.live n↔n=s.nx∨K.live n:=fun n=>by rw[hK1];exact Iff.rfl
  have aFI:Rel K1 (s.h.set s.nx (.obj (rcd .ready none) fun K'=>K1.leV K')):=by
   have:=(hr.rel.more (.deferred (some []))).set_push (a:=s.nx) aAJ (rcd .ready none) 0 (b:= .obj (rcd .ready none) fun K'=>K1.leV K') (by
    rw[←hK1];refine .obj _ _ ?_ (hpl _ _) (.refl K1) (fun A B hAB hA=>hA.trans hAB);rw[hmu1,hK1];have:=cT (K.w.alloc (.deferred (some []))) (rcd .ready none);rw[vL] at this;exact this)
   rwa [←hK1] at this
  refine⟨rcd,K1,aCT,hK1,hle1,aFI,h rcd _ hpl ?_⟩
  --a call of yield
  intro args hh nx R hlen aBq hw m Kr cargs hlv hn hrel hv;obtain⟨q1,q2,q3,q4⟩:=(hrel.blk s.nx _ aBq).aC0;have aZF:K1.live s.nx:=(aCU _).2 (.inl rfl);have aPb:Kr.mu s.nx=K.w.heap.size+1:=(q3.mu _ aZF).trans hmu1;have hsz:cargs.size=ps.size:=by rw[←hv.1,hlen];simp
  rw[aPb] at q1⊢;have aAz:fE Kr (aAR s.sl ps.toList args) {tmps:=(ps.zip cargs).foldl (fun t (p,v)=>t.setIfInBounds p v) a.tmps,defers:=[]}:=by
   have:=fE.aAR (K:=Kr) (ds:=[]) ps.toList args cargs.toList s.sl a.tmps (fE.aAl q3 (fE.mono hle1 hr.aAD)) (by rw[hv.1];simp) (fun i hi=>by
    have:=hv.2 i hi;simpa [Kd,Kb] using this)
   have e:(ps.zip cargs).foldl (fun t (p,v)=>t.setIfInBounds p v) a.tmps=(ps.toList.zip cargs.toList).foldl (fun t p=>t.setIfInBounds p.1 p.2) a.tmps:=by
    rw[←Array.foldl_toList,Array.toList_zip]
   rw[e];exact this
  refine rt (fn:=fn) (tmps:=a.tmps) (ps:=ps) (assign:=as) (body:=b) (D:=K.w.heap.size) trivial (by rw[q1,aCT]) hsz ?_;have hrs:mH Kr Kr nx ⟨aAR s.sl ps.toList args,hh,nx⟩ {tmps:=(ps.zip cargs).foldl (fun t (p,v)=>t.setIfInBounds p v) a.tmps,defers:=[]}:=
   ⟨.refl _,aAz,hrel,fun n hn=>⟨hlv n hn, .inl hn⟩,Kq _,sH.nil _ _⟩
  refine wpIn_mono (show as.wpIn (Fence.wide.inRound (K.w.heap.size+1)) m P (AP Kr nx _) _ Kr.w from ha (K.w.heap.size+1) m _ _ hw Kr Kr nx _ hrs) ?_;rintro e a1 W1 ⟨K',s1,le,rfl,hr1,rfl,hq⟩;cases le with
  |exit id=>exact hq.elim
  |ret=>exact hq.elim
  |normal=>
   obtain⟨ho,hq⟩:=hq;have aO3:K'.mu s.nx=K.w.heap.size+1:=(hr1.le.mu _ hn).trans aPb;obtain⟨p1,p2,p3,p4⟩:=(hr1.rel.blk s.nx _ ho).aC0;rw[aO3] at p1;obtain⟨aAS,aGu⟩:=hr1.rel.setObj ho (hpl .busy none);rw[aO3] at aAS aGu;refine⟨by rw[p1,aCT],?_⟩;have aPv:(.loop (lZ fn a.tmps ps as b K.w.heap.size .busy none):Obj)=rcd .busy none:=by rw[aCT]
   rw[aPv];refine wpIn_mono (show b.wpIn (Fence.wide.inRound (K.w.heap.size+1)) m P (AP Kr nx _) a1 (K'.obj (K.w.heap.size+1) (rcd .busy none)).w from hb (K.w.heap.size+1) m _ _ hq Kr _ nx a1 ⟨hr1.le.trans aAS,hr1.aAD.mono aAS,aGu,hr1.live,hr1.nx,hr1.defers.kept aAS.below⟩) ?_;rintro e a2 W2 ⟨K3,s3,le3,rfl,hr3,rfl,hq3⟩;have aZC:K3.mu s.nx=K.w.heap.size+1:=(hr3.le.mu _ hn).trans aPb
   have fin:∀(o:Obj) (bb:Bool),iL o=true→s3.h s.nx=some (.obj (rcd .busy none) fun K'=>K1.leV K')→R (.bool bb) (s3.h.set s.nx (.obj o fun K'=>K1.leV K')) s3.nx→
    K3.w.heap[K.w.heap.size+1]?=some (rcd .busy none)∧∃K' v cv h' nx',K'.w=K3.w.putObj (K.w.heap.size+1) o∧Ending.returned (.bool bb)= .returned cv∧Kr.le K'∧VR K' v cv∧Rel K' h'∧(∀i,K'.live i→i<nx'∧(Kr.live i∨nx≤i))∧nx≤nx'∧R v h' nx':=by
    intro o bb hpo hbz hR;obtain⟨u1,u2,u3,u4⟩:=(hr3.rel.blk s.nx _ hbz).aC0;obtain⟨aDv,aC4⟩:=hr3.rel.setObj hbz hpo;rw[aZC] at u1 aDv aC4;exact⟨u1,K3.obj (K.w.heap.size+1) o, .bool bb, .bool bb,_,s3.nx,rfl,rfl,hr3.le.trans aDv, .bool bb,aC4,hr3.live,hr3.nx,hR⟩
   cases le3 with
   |normal=>
    have:=fin (rcd .ready none) true (hpl _ _) hq3.1 hq3.2;simp only[aCT] at this⊢;exact this
   |ret=>
    have:=fin (rcd .done (some .ret)) false (hpl _ _) hq3.1 hq3.2;simp only[aCT] at this⊢;exact this
   |exit id=>
    have:=fin (rcd .done (some (.exit id))) false (hpl _ _) hq3.1 hq3.2;simp only[aCT] at this⊢;exact this
 obtain⟨_,_,_,_,_,_,hen,_⟩:=key 0;refine jn (F:=FR none) rfl (by intro h;cases h) hcg trivial (fun args w=>jR hen args w) ?_;intro fn _;obtain⟨rcd,K1,aCT,hK1,hle1,aFI,aDE⟩:=key fn;have hmu1:K1.mu s.nx=K.w.heap.size+1:=by rw[hK1];simp[Ker.push,Ker.more]
 have aCU:∀n,K1.live n→n=s.nx∨K.live n:=fun n=>by rw[hK1];exact fun h=>h
 have hpl:∀st pe,iL (rcd st pe)=true:=fun st pe=>by rw[aCT];rfl
 have hW1:(K.w.alloc (.deferred (some []))).alloc (.loop (lZ fn a.tmps ps as b K.w.heap.size .ready none))=K1.w:=by rw[hK1,aCT];rfl
 rw[hW1];have hyl:VRs K1 (.yld s.nx::caps) (#[.func (.yield (K.w.heap.size+1)) #[] #[]]++cc):=by
  refine VRs.append (a:=[.yld s.nx]) (b:=caps) ⟨rfl,fun i hi=>?_⟩ ⟨hl2,fun i hi=>(hv2 i hi).mono hle1⟩;have:i=0:=by simpa using hi
  subst this;have:=VR.yld (K:=K1) s.nx (by rw[hK1];exact .inl rfl);rw[hmu1] at this;simpa using this
 refine i7 ((aDE.2 K1 _ (fun n hn=>?_) aFI hyl).mono ?_)
 ·rcases aCU n hn with rfl|h
  ·omega
  have:=(hr.live n h).1;omega
 rintro e W2 ⟨K',v,cv,h',nx',rfl,rfl,aD4,hvr,aCK,aGe,bCT,hq⟩;have hn1:K1.live s.nx:=by rw[hK1];exact .inl rfl
 have aO3:K'.mu s.nx=K.w.heap.size+1:=(aD4.mu _ hn1).trans hmu1;have aG0:gM K1.w K.w.heap.size:=by
  rw[←hW1];show((K.w.alloc _).alloc _).heap[K.w.heap.size]?=_;rw[eU _ _ _ (by rw[vL];omega)];exact cT _ _
 have fin:∀(o o':Obj) (le:bJ),h' s.nx=some (.obj o fun K'=>K1.leV K')→iL o'=true→Q le ⟨s.sl,h'.del s.nx,nx'⟩→
  K'.w.heap[K.w.heap.size+1]?=some o∧AP K0 nx0 Q le.up {a with defers:={target:= .collected K.w.heap.size,args:=#[]}::a.defers} (K'.w.putObj (K.w.heap.size+1) o'):=by
  intro o o' le ho hpo hQ;obtain⟨u1,_⟩:=(aCK.blk s.nx _ ho).aC0;obtain⟨aDv,aC4⟩:=aCK.setObj ho hpo;rw[aO3] at u1 aDv aC4;refine⟨u1,K'.obj (K.w.heap.size+1) o',⟨s.sl,h'.del s.nx,nx'⟩,le,rfl,⟨hr.le.trans (hle1.trans (aD4.trans aDv)),hr.aAD.mono (hle1.trans (aD4.trans aDv)),aC4.weaken (Ay _ _ _),?_,?_,?_⟩,rfl,hQ⟩
  ·intro n hn;obtain⟨w1,w2⟩:=aGe n hn;refine⟨w1,?_⟩;rcases w2 with w2|w2
   ·rcases aCU n w2 with rfl|w3
    ·exact .inr hr.nx
    exact(hr.live n w3).2
   exact .inr (by have:=hr.nx;omega)
  ·have:=hr.nx;show nx0≤nx';omega
  obtain⟨Ds,d1,d2,d3⟩:=hr.defers;refine⟨K.w.heap.size::Ds,KJ.2 ⟨fun hm=>KY _ (d3 _ hm).2.lt,d1⟩,by simp[d2],?_⟩;intro D hD;rcases KX.1 hD with rfl|hD
  ·exact⟨hr.le.below.size,aG0.kept (aD4.trans aDv).below⟩
  exact⟨(d3 D hD).1,(d3 D hD).2.kept (hle1.trans (aD4.trans aDv)).below⟩
 refine⟨⟨cv,rfl⟩,?_⟩;rcases hq with⟨ho,hQ⟩|⟨ho,hQ⟩|⟨id,ho,hQ⟩
 ·have:=fin _ (rcd .exhausted none) .normal ho (hpl _ _) hQ;simp only[aCT] at this;exact .inl this
 ·have:=fin _ (rcd .exhausted (some .ret)) .ret ho (hpl _ _) hQ;simp only[aCT] at this;exact .inr ⟨.ret,this.1,wpIn_ret this.2⟩
 have:=fin _ (rcd .exhausted (some (.exit id))) (.exit id) ho (hpl _ _) hQ;simp only[aCT] at this;exact .inr ⟨.exit id,this.1,wpIn_exit this.2⟩
theorem Cu{P:Program}:∀(c:Code) (L:aT),bP P c=some L→∀(rd:Option Nat) (mm:Nat) (Q:bJ→St→Prop) (s:St),lwp P L Q s→∀(K0 K:Ker) (nx0:Nat) (a:Act),mH K0 K nx0 s a→(rd=none∨fG c=true)→c.wpIn (FR rd) mm P (AP K0 nx0 Q) a K.w:=by
 intro c;induction c with
 |skip=>
  intro L hl rd mm Q s h K0 K nx0 a hr hsc;simp only[bP,Option.some.injEq] at hl;subst hl;exact wpIn_skip ⟨K,s, .normal,rfl,hr,rfl,h⟩
 |label l=>
  intro L hl rd mm Q s h K0 K nx0 a hr hsc;simp only[bP,Option.some.injEq] at hl;subst hl;exact wpIn_label ⟨K,s, .normal,rfl,hr,rfl,h⟩
 |region id ops draw=>
  intro L hl rd mm Q s h K0 K nx0 a hr hsc;cases draw with
  |false=>
   simp only[bP] at hl;obtain⟨ls,hls,rfl⟩:=Kj.1 hl;refine wpIn_region ?_;refine fk (Qs:=Q .normal) (fun K s a hr hq=>⟨K,s, .normal,rfl,hr,rfl,hq⟩) ops.toList ls (Ki ops.size) hls ?_ K s a hr h;apply KQ
   ·simp
   intro i h1 h2;simp at h1 h2⊢
  |true=>
   simp only[bP] at hl;split at hl
   ·rename_i hm;obtain⟨m,l,tl,w,n,rfl,hB,hI,h1,h2⟩:=jv hl;rcases h with⟨hs,hd⟩|h
    ·simp only[Kc,decide_eq_true_eq] at hs;obtain⟨hB,rfl⟩:=hB hs.2
     replace hs:=hs.1
     exact Au (Qs:=Q .normal) hm hB h1 h2 hr (fun K s a hr hq=>⟨K,s, .normal,rfl,hr,rfl,hq⟩) hs hd
    exact ww (Qs:=Q .normal) hm hI h1 h2 hr (fun K s a hr hq=>⟨K,s, .normal,rfl,hr,rfl,hq⟩) h
   cases hl
 |seq x y ihx ihy=>
  intro L hl rd mm Q s h K0 K nx0 a hr hsc;simp only[bP] at hl;split at hl
  ·rename_i lx ly h1 h2;injection hl with hl;subst hl;refine wpIn_seq (wpIn_mono (ihx lx h1 rd mm _ s h K0 K nx0 a hr (hsc.imp (fun h=>h) fun h=>by simp only[fG,Kc] at h;exact h.1)) ?_);rintro e a' w' ⟨K',s',le,rfl,hr',rfl,hq⟩;cases le with
   |normal=>
    obtain⟨s'',hw,hq⟩:=hq;obtain⟨K2,e2,hr2⟩:=hw _ _ _ _ hr';rw[←e2];exact ihy ly h2 rd mm Q s'' hq K0 K2 nx0 a' hr2 (hsc.imp (fun h=>h) fun h=>by simp only[fG,Kc] at h;exact h.2)
   |exit id=>exact⟨K',s', .exit id,rfl,hr',rfl,hq⟩
   |ret=>exact⟨K',s', .ret,rfl,hr',rfl,hq⟩
  cases hl
 |cond c x y ihx ihy=>
  intro L hl rd mm Q s h K0 K nx0 a hr hsc;simp only[bP] at hl;split at hl
  ·rename_i lc lx ly h0 h1 h2;injection hl with hl;subst hl;have vc:=aG h0 ⟨hr.rel.size,hr.aAD.2⟩;simp only[lwp] at h;split at h
   ·rename_i t ht;rw[ht] at vc;generalize hcv:a.eval c=cv at vc;cases vc;refine wpIn_cond hcv ?_;cases t with
    |true=>exact ihx lx h1 rd mm Q s (by simpa using h) K0 K nx0 a hr (hsc.imp (fun h=>h) fun h=>by simp only[fG,Kc] at h;exact h.1)
    |false=>exact ihy ly h2 rd mm Q s (by simpa using h) K0 K nx0 a hr (hsc.imp (fun h=>h) fun h=>by simp only[fG,Kc] at h;exact h.2)
   exact h.elim
  cases hl
 |block id c ih=>
  intro L hl rd mm Q s h K0 K nx0 a hr hsc;simp only[bP] at hl;obtain⟨lc,h1,rfl⟩:=Kj.1 hl;refine wpIn_block (wpIn_mono (ih lc h1 rd mm _ s h K0 K nx0 a hr (hsc.imp (fun h=>h) fun h=>h)) ?_);rintro e a' w' ⟨K',s',le,rfl,hr',rfl,hq⟩;cases le with
  |normal=>exact⟨K',s', .normal,rfl,hr',rfl,hq⟩
  |exit id'=>
   show if id'=id then _ else _
   split
   ·rename_i e;simp only[fK,e,if_true] at hq;exact⟨K',s', .normal,rfl,hr',rfl,hq⟩
   rename_i e;simp only[fK,e,if_false] at hq;exact⟨K',s', .exit id',rfl,hr',rfl,hq⟩
  |ret=>exact⟨K',s', .ret,rfl,hr',rfl,hq⟩
 |loop c ih=>
  intro L hl rd mm Q s h K0 K nx0 a hr hsc;simp only[bP] at hl;obtain⟨lc,h1,rfl⟩:=Kj.1 hl;obtain⟨I,m,⟨s0,hw0,hI⟩,aBp⟩:=h;obtain⟨Kl,el,hrl⟩:=hw0 _ _ _ _ hr;refine wpIn_loop_ghost (fun n a w=>∃K s,K.w=w∧mH K0 K nx0 s a∧I s∧m s=n) (m s0) ⟨Kl,s0,el,hrl,hI,rfl⟩ ?_;rintro n a' w' ⟨K',s',rfl,hr',hI',rfl⟩;refine wpIn_mono (ih lc h1 rd mm _ s' (aBp s' hI') K0 K' nx0 a' hr' (hsc.imp (fun h=>h) fun h=>h)) ?_;rintro e a'' w'' ⟨K'',s'',le,rfl,aPW,rfl,hq⟩;cases le with
  |normal=>
   obtain⟨s3,hw,hq⟩:=hq;obtain⟨K3,e3,hr3⟩:=hw _ _ _ _ aPW;exact⟨m s3,hq.2,K3,s3,e3,hr3,hq.1,rfl⟩
  |exit id=>exact⟨K'',s'', .exit id,rfl,aPW,rfl,hq⟩
  |ret=>exact⟨K'',s'', .ret,rfl,aPW,rfl,hq⟩
 |scope c ih=>
  intro L hl rd mm Q s h K0 K nx0 a hr hsc;simp only[bP] at hl;have hsc:rd=none:=hsc.resolve_right (by simp[fG]);subst hsc;refine wpIn_wide.2 (wp_scope_straight (wp_mono ((wpIn_wide (n:=mm)).1 (ih L hl none mm Q s h K0 K nx0 a hr (.inl rfl))) ?_));rintro e a' w' ⟨K',s',le,rfl,hr',rfl,hq⟩;cases le with
  |normal=>exact⟨K',s', .normal,rfl,hr',rfl,hq⟩
  |exit id=>exact⟨K',s', .exit id,rfl,hr',rfl,hq⟩
  |ret=>exact⟨K',s', .ret,rfl,hr',rfl,hq⟩
 |exit id=>
  intro L hl rd mm Q s h K0 K nx0 a hr hsc;simp only[bP,Option.some.injEq] at hl;subst hl;exact wpIn_exit ⟨K,s, .exit id,rfl,hr,rfl,h⟩
 |ret=>
  intro L hl rd mm Q s h K0 K nx0 a hr hsc;simp only[bP,Option.some.injEq] at hl;subst hl;exact wpIn_ret ⟨K,s, .ret,rfl,hr,rfl,h⟩
 |rangeFunc g ps as b iha ihb=>
  intro L hl rd mm Q s h K0 K nx0 a hr hsc;have hsc:rd=none:=hsc.resolve_right (by simp[fG]);subst hsc;simp only[bP] at hl;split at hl
  ·rename_i hns;split at hl
   ·rename_i lg la lb h0 h1 h2;injection hl with hl;subst hl;exact t7 h0 (fun l m Q s h K0 K nx0 act hr=>iha la h1 (some l) m Q s h K0 K nx0 act hr (.inr hns.1)) (fun l m Q s h K0 K nx0 act hr=>ihb lb h2 (some l) m Q s h K0 K nx0 act hr (.inr hns.2)) hr h
   cases hl
  cases hl
 |goto l=>intro L hl;simp[bP] at hl
 |refuse w=>intro L hl;simp[bP] at hl
inductive zF where
 |slot (t:Nat)
 |cell (t:Nat) (k:Sh)
 deriving Inhabited
def zF.sem(s:St)(R:V→Prop):zF→Prop
 | .slot t=>R (s.sl.getD t Ka)
 | .cell t k=>(aW.load k (.slot t)).sem s.sl s.h R
def lT(s:St):List zF→List V→(List V→Prop)→Prop
 | [],acc,R=>R acc
 |r::rs,acc,R=>r.sem s fun v=>lT s rs (acc++[v]) R
def iY(vs:List V):V:=
 match vs with
 | [v]=>v
 |vs=> .tup vs
structure LFn where
 body:aT
 nt:Nat
 res:List zF
 deriving Inhabited
def lJ(P:Program):List ResultVar→Option (List zF)
 | []=>some []
 | .tmp t::r=>(lJ P r).map (.slot t:: ·)
 | .cell a t::r=>(cK P t).bind fun k=>(lJ P r).map (.cell a k:: ·)
def aE(P:Program)(f:FuncId):Option LFn:=
 match P.funcs[f]? with
 |some fn=>if fn.name== "runtime.NumGoroutine" then none else match fn.body with
  |some c=>(bP P c).bind fun b=>(lJ P fn.results.toList).map fun r=>⟨b,fn.ntmps,r⟩
  |none=>none
 |none=>none
def HW(L:LFn)(R:V→Hp→Nat→Prop):bJ→St→Prop
 | .exit _,_=>False
 |_,s=>lT s L.res [] fun vs=>∃h',h'.le s.h∧R (iY vs) h' s.nx
theorem tJ{P:Program}{K:Ker}{s:St}{a:Act}(hs:fE K s.sl a)(hr:Rel K s.h){R:List V→Prop}:∀(rs:List ResultVar) (ls:List zF),lJ P rs=some ls→∀(acc:List V) (aGP:List Value),acc.length=aGP.length→(∀i,i<acc.length→VR K (acc.getD i Ka) (aGP.getD i Kv))→
 lT s ls acc R→∃vs cvs,(rs.mapM (fun| .tmp t=>pure (a.tmps.getD t Kv)| .cell b t=>do loadVar t (←asAddr (a.tmps.getD b Kv)):ResultVar→Sem Value)).run P K.w= .ok cvs K.w∧(aGP++cvs).length=vs.length∧(∀i,i<vs.length→VR K (vs.getD i Ka) ((aGP++cvs).getD i Kv))∧R vs
 | [],ls,hl,acc,aGP,h1,h2,h=>by
  simp[lJ] at hl;subst hl;exact⟨acc,[],Zm,by simp[h1],by simpa using h2,h⟩
 |r::rs,ls,hl,acc,aGP,h1,h2,h=>by
  have one:∃lr lrs v cv,ls=lr::lrs∧lJ P rs=some lrs∧lT s lrs (acc++[v]) R∧VR K v cv∧(match r with| .tmp t=>pure (a.tmps.getD t Kv)| .cell b t=>do loadVar t (←asAddr (a.tmps.getD b Kv)):Sem Value).run P K.w= .ok cv K.w:=by
   cases r with
   |tmp t=>
    simp only[lJ] at hl;obtain⟨lrs,h3,rfl⟩:=Kj.1 hl;exact⟨_,lrs,_,_,rfl,h3,h,hs.2 t,rfl⟩
   |cell b t=>
    simp only[lJ] at hl;obtain⟨k,hk,hl⟩:=Kx.1 hl;obtain⟨lrs,h3,rfl⟩:=Kj.1 hl;simp only[lT,zF.sem] at h;obtain⟨cv,v,q1,q2,q3⟩:=G1 (P:=P) hk hr (hs.2 b) (.slot b) rfl h;refine⟨_,lrs,v,cv,rfl,h3,q3,q2,?_⟩;simp only[Instr.loadAt,KC] at q1;show(do loadVar t (←asAddr (a.tmps.getD b Kv)):Sem Value).run P K.w=_;generalize a.tmps.getD b Kv=x at q1⊢;cases x<;>simp[KF] at q1;rename_i ad;cases ad with
    |none=>simp[KF] at q1
    |some ad=>simpa [asAddr,KF] using q1
  obtain⟨lr,lrs,v,cv,rfl,h3,h4,h5,h6⟩:=one;obtain⟨vs,cvs,g1,g2,g3,g4⟩:=tJ hs hr rs lrs h3 (acc++[v]) (aGP++[cv]) (by simp[h1]) (fun i hi=>by
   simp only[List.length_append,KN,List.length_nil] at hi;by_cases e:i<acc.length
   ·have:=h2 i e;simp only[Kb] at this⊢;rw[Ku e,Ku or];exact this
   have e2:i=acc.length:=or;subst e2;simp only[Kb];rw[Kt (Kq _),Kt or];simp[h1];exact h5) h4
  refine⟨vs,cv::cvs,?_,by simpa using g2,by simpa using g3,g4⟩;rw[List.mapM_cons,KC];cases r<;>(simp only at h6⊢;rw[h6];simp only[Result.andThen_ok,KC,g1,Sem.run_pure])
theorem j3{P:Program}{f:FuncId}{L:LFn}(hL:aE P f=some L){args:List V}{h:Hp}{nx:Nat}{R:V→Hp→Nat→Prop}
 (hw:(∀m b,h m=some b→m<nx)→lwp P L.body (HW L R) ⟨args++Ks (L.nt-args.length) Ka,h,nx⟩):aR P f args h nx R:=by
 unfold aE at hL;split at hL
 ·rename_i fn hf;split at hL
  ·cases hL
  rename_i hnm;split at hL
  ·rename_i c hb;obtain⟨b,hlc,hL⟩:=Kx.1 hL;obtain⟨r,hlr,rfl⟩:=Kj.1 hL;refine⟨by simp only[kP,hf,hb];simpa using hnm,?_⟩;intro K cargs hlv hrel hv;refine callsIn_wide.1 (callsIn_of_wp_marks (n:=4) hf hb trivial ?_);have hst:mH K K nx ⟨args++Ks (fn.ntmps-args.length) Ka,h,nx⟩ {tmps:=cargs++Kp (fn.ntmps-cargs.size) Kv,defers:=[]}:=by
    refine⟨.refl K,?_,hrel,fun n hn=>⟨hlv n hn, .inl hn⟩,Kq _,sH.nil _ _⟩;refine⟨by simp[hv.1],fun t=>?_⟩;simp only[Kb,Kd];by_cases e:t<args.length
    ·have:=hv.2 t e;simp only[Kb,Kd] at this;rw[Ku e,Array.getElem?_append_left (by have:=hv.1;omega)];exact this
    rw[Kt or,Array.getElem?_append_right (by have:=hv.1;omega)];rw[List.getElem?_replicate,Array.getElem?_replicate,hv.1];split
    ·exact .undef K
    exact .undef K
   refine wpIn_mono (Cu c b hlc none 4 _ _ (hw fun m b hm=>hlv m (hrel.lt m b hm)) K K nx _ hst (.inl rfl)) ?_;rintro e a' w' ⟨K1',s',le,rfl,aGc,rfl,hq⟩;obtain⟨Ds,hd1,hd2,hd3⟩:=aGc.defers;obtain⟨K',hKw,hV,aZY,aPz,aHD⟩:=dj (K:=K) Ds _ K1' rfl (fun D hD=>(hd3 D hD).2) hd1 aGc.le (fun D hD=>(hd3 D hD).1) hrel.size.lt aGc.rel;have hr':∃dummy:True,K.le K'∧fE K' s'.sl a'∧Rel K' s'.h∧(∀n,K'.live n→n<s'.nx∧(K.live n∨nx≤n))∧nx≤s'.nx:=⟨trivial,aZY,aGc.aAD.aAl hV,aPz,fun n hn=>aGc.live n (by rw[←aHD];exact hn),aGc.nx⟩;obtain⟨_,aPV,aD2,aEc,aFJ,aPU⟩:=hr';have key:(lT s' r [] fun vs=>∃h',h'.le s'.h∧R (iY vs) h' s'.nx)→∃v,(results fn a'.tmps).run P K'.w= .ok v K'.w∧∃K'' v' cv h' nx',K''.w=K'.w∧Ending.returned v= .returned cv∧K.le K''∧VR K'' v' cv∧Rel K'' h'∧(∀n,K''.live n→n<nx'∧(K.live n∨nx≤n))∧nx≤nx'∧R v' h' nx':=by
    intro hq;obtain⟨vs,cvs,g1,g2,g3,g4⟩:=tJ (P:=P) aD2 aEc fn.results.toList r hlr [] [] rfl (fun i hi=>absurd hi Zm) hq;simp only[KS] at g2 g3;have aAe:(results fn a'.tmps).run P K'.w= .ok (if h:cvs.toArray.size=1 then cvs.toArray[0] else .tuple cvs.toArray) K'.w:=by
     unfold results;simp only[KC,Array.mapM_eq_mapM_toList,Sem.run_map];refine Eq.trans (congrArg (fun r:Result (List Value)=>(r.andThen fun a w'=>Result.ok a.toArray w').andThen fun a w'=>Sem.run P (pure (if h:a.size=1 then a[0] else Value.tuple a)) w') g1) ?_;rfl
    obtain⟨h',aD4,g4⟩:=g4;refine⟨_,aAe,K',iY vs,_,h',s'.nx,rfl,rfl,aPV,?_,aEc.weaken aD4,aFJ,aPU,g4⟩;have many:vs.length≠1→VR K' (iY vs) (if h:cvs.toArray.size=1 then cvs.toArray[0] else .tuple cvs.toArray):=by
     intro hne;rw[dif_neg (by simpa [g2] using hne)];have:iY vs= .tup vs:=by
      cases vs with
      |nil=>rfl
      |cons x t=>cases t with
       |nil=>simp at hne
       |cons _ _=>rfl
     rw[this];refine .tup vs cvs.toArray (by simp[g2]) fun i hi=>?_;have:=g3 i hi;simpa [Kd,Kb] using this
    by_cases h1:vs.length=1
    ·obtain⟨v,rfl⟩:∃v,vs=[v]:=by
      cases vs with
      |nil=>simp at h1
      |cons x t=>cases t with
       |nil=>exact⟨x,rfl⟩
       |cons _ _=>simp at h1
     obtain⟨cv,rfl⟩:∃v,cvs=[v]:=by
      cases cvs with
      |nil=>simp at g2
      |cons x t=>cases t with
       |nil=>exact⟨x,rfl⟩
       |cons _ _=>simp at g2
     have:=g3 0 Zm;simpa [iY] using this
    exact many h1
   cases le with
   |exit id=>exact hq.elim
   |normal=>
    show LeavesInM Fence.wide 4 P fn a'.tmps _ a'.defers .returning K1'.w;rw[hd2];exact qF Ds _ hd1 (fun D hD=>(hd3 D hD).2) (by rw[←hKw];exact key hq)
   |ret=>
    show LeavesInM Fence.wide 4 P fn a'.tmps _ a'.defers .returning K1'.w;rw[hd2];exact qF Ds _ hd1 (fun D hD=>(hd3 D hD).2) (by rw[←hKw];exact key hq)
  cases hL
 cases hL
def aW.out(sl:List V)(h:Hp):aW→V
 | .move x=>x.ev sl
 | .pick c a b=>match c.ev sl with
  | .bool t=>Ke t (a.ev sl) (b.ev sl)
  |_=> .undef
 | .load t x=>match x.ev sl with
  | .ptr n _ i o=>match h n with
   |some (.arr _ es)=>bB t o (es.getD i Ka)
   |_=> .undef
  | .ept _ es i o=>bB t o (es.getD i Ka)
  |_=> .undef
 | .nilCheck x=>x.ev sl
 | .bin op x y=>match x.ev sl,y.ev sl with
  | .int k a, .int _ b=>match op with
   | .add=> .int k (k.wrap (a+b))
   | .sub=> .int k (k.wrap (a-b))
   | .mul=> .int k (k.wrap (a*b))
   | .quo=> .int k (k.wrap (a.tdiv b))
   | .rem=> .int k (a.tmod b)
   | .shr=> .int k (a / 2 ^ min b.toNat k.bits)
   | .eql=> .bool (a==b)
   | .neq=> .bool (a != b)
   | .lss=> .bool (decide (a<b))
   | .leq=> .bool (decide (a≤b))
   | .gtr=> .bool (decide (b<a))
   | .geq=> .bool (decide (b≤a))
   |_=> .undef
  | .str s, .str t=>match op with
   | .add=> .str (s++t)
   | .eql=> .bool (s.toList==t.toList)
   | .neq=> .bool (!(s.toList==t.toList))
   | .lss=> .bool (Op.bytesLess s.toList t.toList)
   | .leq=> .bool (Op.bytesLess s.toList t.toList||s.toList==t.toList)
   | .gtr=> .bool (!(Op.bytesLess s.toList t.toList||s.toList==t.toList))
   | .geq=> .bool (!Op.bytesLess s.toList t.toList)
   |_=> .undef
  |_,_=> .undef
 | .eq ng ty x y=> .bool (if ng then !((veq ty (x.ev sl) (y.ev sl)).getD false) else (veq ty (x.ev sl) (y.ev sl)).getD false)
 | .not x=>match x.ev sl with
  | .bool b=> .bool (!b)
  |_=> .undef
 | .neg x=>match x.ev sl with
  | .int k n=> .int k (k.wrap (0-n))
  |_=> .undef
 | .conv k x=>match x.ev sl with
  | .int _ n=> .int k (k.wrap n)
  |_=> .undef
 | .mkif t x=> .iface t (x.ev sl)
 | .mkfn f first cap=> .fn f (first.map (aK.ev sl)) (cap.map (aK.ev sl))
 | .fldA off x=>match x.ev sl with
  | .ptr n k i o=> .ptr n k i (o+off)
  | .ept k es i o=> .ept k es i (o+off)
  |_=> .undef
 | .fld t off x=>match x.ev sl with
  | .agg cs=>bB t off (.agg cs)
  |_=> .undef
 | .idxA k x i=>match x.ev sl,i.ev sl with
  | .sl _ _ es, .int _ j=> .ept k es j.toNat 0
  | .rs n _ off _, .int _ j=> .ptr n k (off+j.toNat) 0
  |_,_=> .undef
 | .idxP _ k x i=>match x.ev sl,i.ev sl with
  | .ptr n k' i' o, .int _ j=> .ptr n k' i' (o+j.toNat*k.size)
  | .ept k' es i' o, .int _ j=> .ept k' es i' (o+j.toNat*k.size)
  |_,_=> .undef
 | .len x=>match x.ev sl with
  | .sl _ _ es=> .int .i64 es.length
  | .rs _ _ _ ln=> .int .i64 ln
  |_=> .undef
 | .slen x=>match x.ev sl with
  | .str s=> .int .i64 s.size
  |_=> .undef
 | .ext x i=>match x.ev sl with
  | .tup vs=>vs.getD i Ka
  |_=> .undef
 | .build z parts=> .agg (ie z (parts.map fun p=>(p.1,(p.2.2.ev sl).cells)))
 | .slc k x lo hi mx=>match x.ev sl with
  | .sl _ own es=> .sl k (aDQ own es (eC sl hi) (eC sl mx)) ((es.take ((cW sl es.length hi).getD 0).toNat).drop ((cW sl 0 lo).getD 0).toNat)
  | .rs n _ off ln=>if mx.isSome=true then .sl k .full [] else if ((cW sl 0 lo).getD 0).toNat=ln∧((cW sl 0 lo).getD 0).toNat≠0 then .sl k .free [] else .rs n k (off+((cW sl 0 lo).getD 0).toNat) (((cW sl ln hi).getD 0).toNat-((cW sl 0 lo).getD 0).toNat)
  |_=> .undef
 | .slcs x lo hi=>match x.ev sl with
  | .str s=> .str (s.extract ((cW sl 0 lo).getD 0).toNat ((cW sl s.size hi).getD 0).toNat)
  |_=> .undef
 | .never=> .undef
 | .capv x=>match x.ev sl with
  | .sl _ .nil _=> .int .i64 0
  | .sl _ .full es=> .int .i64 es.length
  |_=> .undef
 | .mnx mx x y=>match x.ev sl,y.ev sl with
  | .int k a, .int _ b=> .int k (am mx a b)
  |_,_=> .undef
 | .pslc n k x hi=>match x.ev sl with
  | .ept _ (e::_) _ _=> .sl k .free ((qL k n e).take ((cW sl n hi).getD 0).toNat)
  |_=> .undef
 | .sidx n x i=>match n,x.ev sl,i.ev sl with
  |some _, .agg cs, .int _ j=>cs.getD j.toNat Ka
  |none, .str s, .int _ j=> .int .u8 (s.data.toList.getD j.toNat 0).toNat
  |_,_,_=> .undef
 | .asrt t z x=>match x.ev sl with
  | .iface t' v=> .tup [if t'=t then v else z, .bool (decide (t'=t))]
  | .nilIface=> .tup [z, .bool false]
  |_=> .undef
 | .asrq _ x=>match x.ev sl with
  | .iface _ v=>v
  |_=> .undef
 | .mget kS ks z ok x i=>match x.ev sl with
  | .map n=>match h n with
   |some (.mp es _)=>jW ok z es ((bT (.plain kS ks) (i.ev sl) es).getD none)
   |_=> .undef
  |_=>jW ok z [] none
 | .mlen x=>match x.ev sl with
  | .map n=>match h n with
   |some (.mp es _)=> .int .i64 es.length
   |_=> .undef
  |_=> .int .i64 0
def xr(op:BinOp)(x y:V):Prop:=
 match x,y with
 | .int k _, .int k' b=>k=k'∧(match op with
  | .add| .sub| .mul| .eql| .neq| .lss| .leq| .gtr| .geq=>True
  | .quo| .rem=>b≠0
  | .shr=>0≤b
  |_=>False)
 | .str s, .str t=>match op with
  | .add=>((s.size+t.size:Nat):Int)≤9223372036854775807
  | .eql| .neq| .lss| .leq| .gtr| .geq=>True
  |_=>False
 |_,_=>False
def aW.ok(sl:List V)(h:Hp):aW→Prop
 | .move _=>True
 | .pick c _ _=>match c.ev sl with
  | .bool _=>True
  |_=>False
 | .load t x=>match x.ev sl with
  | .ptr n k i o=>match h n with
   |some (.arr k' es)=>k'=k∧i<es.length∧cA k t o
   |_=>False
  | .ept k es i o=>i<es.length∧cA k t o
  |_=>False
 | .nilCheck x=>match x.ev sl with
  | .ptr _ _ _ _=>True
  | .ept _ _ _ _=>True
  |_=>False
 | .bin op x y=>xr op (x.ev sl) (y.ev sl)
 | .eq _ ty x y=>(veq ty (x.ev sl) (y.ev sl)).isSome=true
 | .not x=>match x.ev sl with
  | .bool _=>True
  |_=>False
 | .neg x=>match x.ev sl with
  | .int _ _=>True
  |_=>False
 | .conv _ x=>match x.ev sl with
  | .int _ _=>True
  |_=>False
 | .mkif _ _=>True
 | .mkfn _ _ _=>True
 | .fldA _ x=>match x.ev sl with
  | .ptr _ _ _ _=>True
  | .ept _ _ _ _=>True
  |_=>False
 | .fld t off x=>match x.ev sl with
  | .agg cs=>cA (.agg cs.length) t off∧cs.all V.aAE=true
  |_=>False
 | .idxA k x i=>match x.ev sl,i.ev sl with
  | .sl k' _ es, .int _ j=>k'=k∧0≤j∧j<es.length
  | .rs _ k' _ ln, .int _ j=>k'=k∧0≤j∧j<ln
  |_,_=>False
 | .idxP ln _ x i=>match x.ev sl,i.ev sl with
  | .ptr _ _ _ _, .int _ j=>0≤j∧j<ln
  | .ept _ _ _ _, .int _ j=>0≤j∧j<ln
  |_,_=>False
 | .len x=>match x.ev sl with
  | .sl _ _ _=>True
  | .rs _ _ _ _=>True
  |_=>False
 | .slen x=>match x.ev sl with
  | .str _=>True
  |_=>False
 | .ext x i=>match x.ev sl with
  | .tup vs=>i<vs.length
  |_=>False
 | .build z parts=>∀p∈parts,(p.2.2.ev sl).fits p.2.1=true∧p.1+p.2.1.size≤z.length
 | .slc k x lo hi mx=>match x.ev sl with
  | .sl k' _ es=>match cW sl 0 lo,cW sl es.length hi,cW sl es.length mx with
   |some l,some h',some m=>k'=k∧0≤l∧l≤h'∧h'≤m∧m≤es.length∧(hi.isNone=true→mx.isNone=true)
   |_,_,_=>False
  | .rs _ k' _ ln=>match cW sl 0 lo,cW sl ln hi,mx with
   |some l,some h',none=>k'=k∧0≤l∧l≤h'∧h'≤ln
   |some l,some h',some _=>cW sl ln mx=some 0∧k'=k∧l=0∧h'=0∧hi.isSome=true
   |_,_,_=>False
  |_=>False
 | .slcs x lo hi=>match x.ev sl with
  | .str s=>match cW sl 0 lo,cW sl s.size hi with
   |some l,some h'=>0≤l∧l≤h'∧h'≤s.size
   |_,_=>False
  |_=>False
 | .never=>False
 | .capv x=>match x.ev sl with
  | .sl _ .nil _=>True
  | .sl _ .full _=>True
  |_=>False
 | .mnx _ x y=>match x.ev sl,y.ev sl with
  | .int k _, .int k' _=>k=k'
  |_,_=>False
 | .pslc n k x hi=>match x.ev sl with
  | .ept (.agg m) [e] 0 0=>match cW sl n hi with
   |some h'=>m=n*k.size∧0≤h'∧h'≤n
   |none=>False
  |_=>False
 | .sidx n x i=>match n,x.ev sl,i.ev sl with
  |some n, .agg cs, .int _ j=>0≤j∧(j<n∧j<cs.length)
  |none, .str s, .int _ j=>0≤j∧j<s.size
  |_,_,_=>False
 | .asrt _ _ x=>match x.ev sl with
  | .iface _ _=>True
  | .nilIface=>True
  |_=>False
 | .asrq t x=>match x.ev sl with
  | .iface t' _=>t'=t
  |_=>False
 | .mget kS ks _ _ x i=>(i.ev sl).fits kS=true∧match x.ev sl with
  | .aAG=>True
  | .map n=>match h n with
   |some (.mp es _)=>(bT (.plain kS ks) (i.ev sl) es).isSome=true
   |_=>False
  |_=>False
 | .mlen x=>match x.ev sl with
  | .aAG=>True
  | .map n=>match h n with
   |some (.mp _ _)=>True
   |_=>False
  |_=>False
theorem aW.aAb{sl:List V}{h:Hp}{R:V→Prop}{l:aW}(ho:l.ok sl h)(hR:R (l.out sl h)):l.sem sl h R:=by
 cases l<;>simp only[aW.ok,aW.out,aW.sem] at ho hR⊢;case bin op x y=>
  generalize x.ev sl=v at ho hR⊢;generalize y.ev sl=u at ho hR⊢;cases v<;>try (exact ho.elim)
  ·cases u<;>try (exact ho.elim)
   obtain⟨rfl,ho⟩:=ho;cases op<;>simp only at ho hR<;>first|exact ho.elim|exact⟨rfl,hR⟩|exact⟨rfl,ho,hR⟩
  cases u<;>try (exact ho.elim)
  simp only[xr] at ho;cases op<;>simp only at ho hR<;>first|exact ho.elim|exact hR|exact⟨ho,hR⟩
 case eq ng ty x y=>
  cases hv:veq ty (x.ev sl) (y.ev sl) with
  |none=>simp[hv] at ho
  |some r=>simpa [hv] using hR
 case load t x=>
  generalize x.ev sl=v at ho hR⊢;cases v<;>try (exact ho.elim)
  ·rename_i n k i o;simp only at ho hR⊢;cases hn:h n with
   |none=>rw[hn] at ho;exact ho.elim
   |some b=>cases b with
    |tip=>rw[hn] at ho;exact ho.elim
    |obj o _=>rw[hn] at ho;exact ho.elim
    |mp _ _=>rw[hn] at ho;exact ho.elim
    |mit _ _ _ _=>rw[hn] at ho;exact ho.elim
    |arr k' es=>rw[hn] at ho hR;exact⟨ho.1,ho.2.1,ho.2.2,hR⟩
  exact⟨ho.1,ho.2,hR⟩
 case mget kS ks z ok x i=>
  refine⟨ho.1,?_⟩;have ho:=ho.2;generalize x.ev sl=v at ho hR⊢;cases v<;>try (exact ho.elim)
  ·exact hR
  rename_i n;simp only at ho hR⊢;cases hn:h n with
  |none=>rw[hn] at ho;exact ho.elim
  |some b=>cases b with
   |mp es c=>
    rw[hn] at ho hR;cases hf:bT (.plain kS ks) (i.ev sl) es with
    |none=>simp[hf] at ho
    |some r=>simp only[hf,KR] at hR⊢;exact hR
   |_=>rw[hn] at ho;exact ho.elim
 case mlen x=>
  generalize x.ev sl=v at ho hR⊢;cases v<;>try (exact ho.elim)
  ·exact hR
  rename_i n;simp only at ho hR⊢;cases hn:h n with
  |none=>rw[hn] at ho;exact ho.elim
  |some b=>cases b with
   |mp es c=>rw[hn] at hR;exact hR
   |_=>rw[hn] at ho;exact ho.elim
 case idxA k x i=>
  generalize x.ev sl=v at ho hR⊢;generalize i.ev sl=u at ho hR⊢;cases v<;>try (exact ho.elim)
  ·cases u<;>first|exact ho.elim|exact⟨ho.1,ho.2.1,ho.2.2,hR⟩
  cases u<;>first|exact ho.elim|exact⟨ho.1,ho.2.1,ho.2.2,hR⟩
 case idxP n k x i=>
  generalize x.ev sl=v at ho hR⊢;generalize i.ev sl=u at ho hR⊢;cases v<;>try (exact ho.elim)
  all_goals (cases u<;>first|exact ho.elim|exact⟨ho.1,ho.2,hR⟩)
 case pick c a b=>
  generalize c.ev sl=v at ho hR⊢;cases v<;>first|exact ho.elim|exact hR
 case build z ps=>exact⟨ho,hR⟩
 case slc k x lo hi mx=>
  generalize x.ev sl=v at ho hR⊢;cases v<;>try (exact ho.elim)
  ·rename_i k' own es;simp only at ho hR⊢;generalize eC sl hi=og1 at hR⊢;generalize eC sl mx=og2 at hR⊢;generalize cW sl 0 lo=b1 at ho hR⊢;generalize cW sl es.length hi=b2 at ho hR⊢;generalize cW sl es.length mx=b3 at ho hR⊢;cases b1<;>try (exact ho.elim)
   cases b2<;>try (exact ho.elim)
   cases b3<;>try (exact ho.elim)
   exact⟨ho.1,ho.2.1,ho.2.2.1,ho.2.2.2.1,ho.2.2.2.2.1,ho.2.2.2.2.2,hR⟩
  rename_i n k' off ln;simp only at ho hR⊢;generalize cW sl 0 lo=b1 at ho hR⊢;generalize cW sl ln hi=b2 at ho hR⊢;cases b1<;>try (exact ho.elim)
  cases b2<;>try (exact ho.elim)
  cases mx with
  |none=>exact⟨ho.1,ho.2.1,ho.2.2.1,ho.2.2.2,by simpa using hR⟩
  |some m=>exact⟨ho.1,ho.2.1,ho.2.2.1,ho.2.2.2.1,ho.2.2.2.2,by simpa using hR⟩
 case slcs x lo hi=>
  generalize x.ev sl=v at ho hR⊢;cases v<;>try (exact ho.elim)
  rename_i s;simp only at ho hR⊢;generalize cW sl 0 lo=b1 at ho hR⊢;generalize cW sl s.size hi=b2 at ho hR⊢;cases b1<;>try (exact ho.elim)
  cases b2<;>try (exact ho.elim)
  exact⟨ho.1,ho.2.1,ho.2.2,hR⟩
 case capv x=>
  generalize x.ev sl=v at ho hR⊢;cases v<;>try (exact ho.elim)
  rename_i k own es;cases own<;>first|exact ho.elim|exact hR
 case mnx b x y=>
  generalize x.ev sl=v at ho hR⊢;generalize y.ev sl=u at ho hR⊢;cases v<;>try (exact ho.elim)
  cases u<;>first|exact ho.elim|exact⟨ho,hR⟩
 case pslc n k x hi=>
  generalize x.ev sl=v at ho hR⊢;split at ho
  ·generalize cW sl n hi=b at ho hR⊢;cases b<;>first|exact ho.elim|exact⟨ho.1,ho.2.1,ho.2.2,hR⟩
  exact ho.elim
 case sidx n x y=>
  generalize x.ev sl=v at ho hR⊢;generalize y.ev sl=u at ho hR⊢;cases n<;>cases v<;>try (exact ho.elim)
  all_goals (cases u<;>first|exact ho.elim|exact⟨ho.1,ho.2,hR⟩)
 case asrt t z x=>
  generalize x.ev sl=v at ho hR⊢;cases v<;>first|exact ho.elim|exact hR
 case asrq t x=>
  generalize x.ev sl=v at ho hR⊢;cases v<;>first|exact ho.elim|exact⟨ho,hR⟩
 case move=>exact hR
 case mkif=>exact hR
 case mkfn=>exact hR
 case nilCheck x=>
  generalize x.ev sl=v at ho hR⊢;cases v<;>first|exact ho.elim|exact hR|exact⟨ho,hR⟩|exact⟨ho.1,ho.2,hR⟩
 case not x=>
  generalize x.ev sl=v at ho hR⊢;cases v<;>first|exact ho.elim|exact hR|exact⟨ho,hR⟩|exact⟨ho.1,ho.2,hR⟩
 case neg x=>
  generalize x.ev sl=v at ho hR⊢;cases v<;>first|exact ho.elim|exact hR|exact⟨ho,hR⟩|exact⟨ho.1,ho.2,hR⟩
 case conv k x=>
  generalize x.ev sl=v at ho hR⊢;cases v<;>first|exact ho.elim|exact hR|exact⟨ho,hR⟩|exact⟨ho.1,ho.2,hR⟩
 case fldA o x=>
  generalize x.ev sl=v at ho hR⊢;cases v<;>first|exact ho.elim|exact hR|exact⟨ho,hR⟩|exact⟨ho.1,ho.2,hR⟩
 case fld t o x=>
  generalize x.ev sl=v at ho hR⊢;cases v<;>first|exact ho.elim|exact hR|exact⟨ho,hR⟩|exact⟨ho.1,ho.2,hR⟩
 case len x=>
  generalize x.ev sl=v at ho hR⊢;cases v<;>first|exact ho.elim|exact hR|exact⟨ho,hR⟩|exact⟨ho.1,ho.2,hR⟩
 case slen x=>
  generalize x.ev sl=v at ho hR⊢;cases v<;>first|exact ho.elim|exact hR|exact⟨ho,hR⟩|exact⟨ho.1,ho.2,hR⟩
 case ext x i=>
  generalize x.ev sl=v at ho hR⊢;cases v<;>first|exact ho.elim|exact hR|exact⟨ho,hR⟩|exact⟨ho.1,ho.2,hR⟩
def LOp.aAY:LOp→Bool
 | .call _ _=>true
 | .callv _ _=>true
 | .callw _ _ _=>true
 | .mp _=>true
 |_=>false
def LOp.next(dst:Option Nat)(s:St):LOp→St
 | .val x=>⟨bL s.sl dst (x.out s.sl s.h),s.h,s.nx⟩
 | .box k x=>⟨bL s.sl dst (.ptr s.nx k 0 0),s.h.set s.nx (.arr k [x.ev s.sl]),s.nx+1⟩
 | .bslice k es=>⟨bL s.sl dst (.sl k (.tok s.nx) (es.map (aK.ev s.sl))),s.h.set s.nx .tip,s.nx+1⟩
 | .append k _ x y=>match dQ s.h (y.ev s.sl) with
  |some (_,ys)=>match x.ev s.sl with
   | .sl _ own xs=>⟨bL s.sl dst (.sl k (fB s.nx own ys) (xs++ys)),gC s.h s.nx own ys,s.nx+1⟩
   | .rs n _ _ _=>match s.h n with
    |some (.arr _ es)=>⟨bL s.sl dst (.rs s.nx k 0 (es.length+ys.length)),(s.h.del n).set s.nx (.arr k (es++ys)),s.nx+1⟩
    |_=>s
   |_=>s
  |none=>s
 | .store t x v=>match x.ev s.sl with
  | .ptr n k i o=>match s.h n with
   |some (.arr _ es)=>⟨bL s.sl dst Ka,s.h.set n (.arr k (es.set i (bZ t o (es.getD i Ka) (v.ev s.sl)))),s.nx+1⟩
   |_=>s
  |_=>s
 | .mkz k _ x z=>match x.ev s.sl with
  | .int _ m=>⟨bL s.sl dst (.rs s.nx k 0 (mkN m.toNat z)),s.h.set s.nx (.arr k (mkL m.toNat z)),s.nx+1⟩
  |_=>s
 | .appz k _ _ y z=>match y.ev s.sl with
  | .int _ m=>⟨bL s.sl dst (.rs s.nx k 0 m.toNat),s.h.set s.nx (.arr k (Ks m.toNat z)),s.nx+1⟩
  |_=>s
 | .clear k x z=>match x.ev s.sl with
  | .rs n _ off ln=>match s.h n with
   |some (.arr _ es)=>⟨bL s.sl dst Ka,s.h.set n (.arr k (es.take off++Ks ln z++es.drop (off+ln))),s.nx+1⟩
   |_=>s
  |_=>⟨bL s.sl dst Ka,s.h,s.nx+1⟩
 |_=>s
def LOp.ok(s:St):LOp→Prop
 | .val x=>x.ok s.sl s.h
 | .box k x=>(x.ev s.sl).fits k=true
 | .bslice k es=>∀e∈es,(e.ev s.sl).fits k=true
 | .append k bytes x y=>match dQ s.h (y.ev s.sl) with
  |some (ky,ys)=>ky=k∧match x.ev s.sl with
   | .sl kx own xs=>kx=k∧(xs.length+ys.length)*bytes≤140737488355328∧sG s.h own
   | .rs n kx off len=>match s.h n with
    |some (.arr kb es)=>kx=k∧kb=k∧off=0∧len=es.length∧ys≠ []∧(es.length+ys.length)*bytes≤140737488355328
    |_=>False
   |_=>False
  |none=>False
 | .store t x v=>match x.ev s.sl with
  | .ptr n k i o=>match s.h n with
   |some (.arr k' es)=>k'=k∧i<es.length∧cA k t o∧(v.ev s.sl).fits t=true
   |_=>False
  |_=>False
 | .mkz _ bytes x _=>match x.ev s.sl with
  | .int _ m=>0≤m∧m.toNat*bytes≤140737488355328
  |_=>False
 | .appz k bytes x y _=>match x.ev s.sl,y.ev s.sl with
  | .sl k' .nil [], .int _ m=>k'=k∧0<m∧m.toNat*bytes≤140737488355328
  |_,_=>False
 | .clear k x _=>match x.ev s.sl with
  | .rs n k' off ln=>match s.h n with
   |some (.arr kb es)=>k'=k∧kb=k∧off+ln≤es.length
   |_=>False
  | .sl _ _ []=>True
  |_=>False
 |_=>False
def aA.next(o:aA)(s:St):St:=
 match o.g with
 |none=>o.op.next o.dst s
 |some (t,want)=>match s.sl.getD t Ka with
  | .bool b=>if b=want then o.op.next o.dst s else ⟨bL s.sl o.dst Ka,s.h,s.nx⟩
  |_=>⟨bL s.sl o.dst Ka,s.h,s.nx⟩
def aA.ok(o:aA)(s:St):Prop:=
 match o.g with
 |none=>o.op.ok s
 |some (t,want)=>match s.sl.getD t Ka with
  | .bool b=>b=want→o.op.ok s
  | .tup _=>True
  |_=>False
def jU:List aA→St→St
 | [],s=>s
 |o::r,s=>jU r (o.next s)
def rP:List aA→St→Prop
 | [],_=>True
 |o::r,s=>o.ok s∧rP r (o.next s)
theorem sW{P:Program}{o:aA}{r:List aA}{Q:St→Prop}{s:St}(hc:o.op.aAY=false)(ho:o.ok s)(h:aY P r Q (o.next s)):aY P (o::r) Q s:=by
 have go:o.op.ok s→aY P r Q (o.op.next o.dst s)→o.op.run P s.sl s.h s.nx fun v h' nx'=>aY P r Q ⟨bL s.sl o.dst v,h',nx'⟩:=by
  intro ho h;generalize o.op=op at hc ho h⊢;cases op with
  |val x=>exact aW.aAb (R:=fun v=>aY P r Q ⟨bL s.sl o.dst v,s.h,s.nx⟩) ho h
  |box k x=>exact⟨ho,h⟩
  |bslice k es=>exact⟨ho, .inl h⟩
  |mkz k b x z=>
   simp only[LOp.ok,LOp.next,LOp.run,LOp.sem] at ho h⊢;generalize x.ev s.sl=v at ho h⊢;cases v<;>first|exact ho.elim|exact⟨ho.1,ho.2, .inl h⟩
  |appz k b x y z=>
   simp only[LOp.ok,LOp.next,LOp.run,LOp.sem] at ho h⊢;generalize x.ev s.sl=v at ho h⊢;generalize y.ev s.sl=u at ho h⊢;split at ho
   ·exact⟨ho.1,ho.2.1,ho.2.2,h⟩
   exact ho.elim
  |clear k x z=>
   simp only[LOp.ok,LOp.next,LOp.run,LOp.sem] at ho h⊢;generalize x.ev s.sl=v at ho h⊢;split at ho
   ·rename_i n k' off ln;simp only at h⊢;cases hn:s.h n with
    |none=>rw[hn] at ho;exact ho.elim
    |some b=>cases b with
     |tip=>rw[hn] at ho;exact ho.elim
     |obj o _=>rw[hn] at ho;exact ho.elim
     |mp _ _=>rw[hn] at ho;exact ho.elim
     |mit _ _ _ _=>rw[hn] at ho;exact ho.elim
     |arr k' es=>rw[hn] at ho h;exact⟨ho.1,ho.2.1,ho.2.2,h⟩
   ·exact h
   exact ho.elim
  |callw f a b=>simp[LOp.aAY] at hc
  |mp m=>simp[LOp.aAY] at hc
  |append k b x y=>
   simp only[LOp.ok,LOp.next,LOp.run,LOp.sem] at ho h⊢;generalize x.ev s.sl=v at ho h⊢;generalize dQ s.h (y.ev s.sl)=u at ho h⊢;cases u with
   |none=>exact ho.elim
   |some u=>
    obtain⟨ky,ys⟩:=u;refine⟨ho.1,?_⟩
    replace ho:=ho.2
    cases v<;>try (exact ho.elim)
    ·exact⟨ho.1,ho.2.1, .inl ⟨ho.2.2,h⟩⟩
    rename_i n kx off len;simp only at ho h⊢;cases hn:s.h n with
    |none=>rw[hn] at ho;exact ho.elim
    |some b=>cases b with
     |tip=>rw[hn] at ho;exact ho.elim
     |obj o _=>rw[hn] at ho;exact ho.elim
     |mp _ _=>rw[hn] at ho;exact ho.elim
     |mit _ _ _ _=>rw[hn] at ho;exact ho.elim
     |arr k' es=>
      rw[hn] at ho h;obtain⟨o1,o2,o3,o4,o5,o6⟩:=ho;subst o4;refine⟨o1, .inr ⟨o2,o3,Kq _,o5,o6,?_⟩⟩;simp only[List.take_length];exact h
  |store t x v=>
   simp only[LOp.ok,LOp.next,LOp.run,LOp.sem] at ho h⊢;generalize x.ev s.sl=u at ho h⊢;cases u<;>try (exact ho.elim)
   rename_i n k i o';simp only at ho h⊢;cases hn:s.h n with
   |none=>rw[hn] at ho;exact ho.elim
   |some b=>cases b with
    |tip=>rw[hn] at ho;exact ho.elim
    |obj o _=>rw[hn] at ho;exact ho.elim
    |mp _ _=>rw[hn] at ho;exact ho.elim
    |mit _ _ _ _=>rw[hn] at ho;exact ho.elim
    |arr k' es=>rw[hn] at ho h;exact⟨ho.1,ho.2.1,ho.2.2.1,ho.2.2.2,h⟩
  |call f a=>simp[LOp.aAY] at hc
  |callv x a=>simp[LOp.aAY] at hc
 unfold aY;unfold aA.ok at ho;unfold aA.next at h;cases hg:o.g with
 |none=>rw[hg] at ho h;exact go ho h
 |some p=>
  obtain⟨t,want⟩:=p;rw[hg] at ho h;simp only at ho h⊢
  cases hv:s.sl.getD t Ka<;>rw[hv] at ho h<;>simp only at ho h⊢<;>first
   |exact ho.elim
   |exact h
   |(split at h
     ·rename_i e;rw[if_pos e];exact go (ho e) h
     rename_i e;rw[if_neg e];exact h)
def uW:List aA→List aA
 | []=>[]
 |o::r=>if o.op.aAY=true then [] else o::uW r
def sQ:List aA→List aA
 | []=>[]
 |o::r=>if o.op.aAY=true then o::r else sQ r
theorem uz{P:Program}{Q:St→Prop}:∀(l:List aA) (s:St),rP (uW l) s→aY P (sQ l) Q (jU (uW l) s)→aY P l Q s
 | [],s,_,h=>h
 |o::r,s,ho,h=>by
  by_cases hc:o.op.aAY=true
  ·simp only[uW,sQ,hc,if_true] at ho h;exact h
  simp only[uW,sQ,hc] at ho h;exact sW (by simpa using hc) ho.1 (uz r _ ho.2 h)
theorem ET{P:Program}{Q:St→Prop}(l:List aA)(hl:l.all (fun o=> !o.op.aAY)=true)(s:St)(ho:rP l s)(h:Q (jU l s)):aY P l Q s:=by
 have e1:∀l:List aA,l.all (fun o=> !o.op.aAY)=true→uW l=l∧sQ l=[]:=by
  intro l;induction l with
  |nil=>intro _;exact⟨rfl,rfl⟩
  |cons o r ih=>
   intro h;simp only[List.all_cons,Kc,Bool.not_eq_true'] at h;obtain⟨q1,q2⟩:=ih h.2;constructor
   ·simp only[uW,h.1,q1];rfl
   simp only[sQ,h.1,q2];rfl
 obtain⟨q1,q2⟩:=e1 l hl;refine uz l s (by rw[q1];exact ho) ?_;rw[q1,q2];exact h
abbrev Hp.none:Hp:=fun _=>Option.none
theorem pI{a b c:Hp}(h:Hp.has a b)(h':Hp.has b c):Hp.has a c:=fun n b e hb=>h' n b (h n b e hb) hb
theorem bH(h:Hp):Hp.has Hp.none h:=fun n b e _=>by cases e
theorem aI(h:Hp):Hp.has h h:=fun _ _ e _=>e
theorem aM.mono{P:Program}{f:FuncId}{args:List V}{h h':Hp}{v:V}(p:aM P f args h v)(hh:h.has h'):aM P f args h' v:=fun h'' nx q=>p h'' nx (pI hh q)
theorem jm.mono{P:Program}{f:FuncId}{args:List V}{h h':Hp}{k:Sh}{es:List V}(p:jm P f args h k es)(hh:h.has h'):jm P f args h' k es:=⟨p.1,fun h'' nx q=>p.2 h'' nx (pI hh q)⟩
theorem aJ{P:Program}{f:FuncId}{args:List V}{h:Hp}{v:V}(hv:∀L,v.names L)(hc:∀h' nx,h.has h'→aR P f args h' nx fun v' h'' _=>v'=v∧h''=h'):aM P f args h v:=by
 intro h' nx hh;have c:=hc h' nx hh;refine⟨c.1,fun K cargs hlv hrel aBu=>(c.2 K cargs hlv hrel aBu).mono ?_⟩;rintro e w' ⟨K',v',cv,h'',nx',rfl,he,hle,hvr,aCK,aGe,hnx,rfl,rfl⟩;have aCV:K.le (K'.only fun n=>K'.live n∧n<nx):=⟨fun n hn=>⟨hle.live n hn,hlv n hn⟩,hle.mu,hle.tp,hle.fro,hle.imm,hle.cell,hle.shape,hle.below⟩;exact⟨K'.only fun n=>K'.live n∧n<nx,v',cv,h'',nx,rfl,he,aCV,hvr.only _ (hv _),hrel.back aCK aCV.toV (fun n hn=>⟨hle.live n hn,hlv n hn⟩),fun n hn=>⟨hn.2,(aGe n hn.1).2⟩,Kq _,rfl,rfl,rfl⟩
section
variable{P:Program}{Q:bJ→St→Prop}{s:St}
theorem cE(h:Q .normal s):lwp P .skip Q s:=h
theorem bS{a b:aT}(h:lwp P a (mD (lwp P b) Q) s):lwp P (.seq a b) Q s:=h
theorem bK{id:Nat}{c:aT}(h:lwp P c (fK id Q) s):lwp P (.block id c) Q s:=h
theorem rQ{id:Nat}(h:Q (.exit id) s):lwp P (.exit id) Q s:=h
theorem dM(h:Q .ret s):lwp P .ret Q s:=h
theorem dI{c:aK}{a b:aT}(t:Bool)(hc:c.ev s.sl= .bool t)(ht:t=true→lwp P a Q s)(hf:t=false→lwp P b Q s):lwp P (.cond c a b) Q s:=by
 simp only[lwp,hc];cases t
 ·simpa using hf rfl
 simpa using ht rfl
theorem cG{l:List aA}(h:aY P l (Q .normal) s):lwp P (.ops l) Q s:=h
theorem aX{b:(bJ→St→Prop)→St→Prop}(h:b Q s):mD b Q .normal s:=⟨s,(Wk.refl s).tell,h⟩
theorem wB{b:(bJ→St→Prop)→St→Prop}(s':St)(hw:Wk s s')(h:b Q s'):mD b Q .normal s:=⟨s',hw.tell,h⟩
theorem dA{b:(bJ→St→Prop)→St→Prop}{s':St}(hw:tH s s')(h:mD b Q .normal s'):mD b Q .normal s:=have⟨s2,h2,h3⟩:=h;⟨s2,hw.trans h2,h3⟩
theorem mJ{b:(bJ→St→Prop)→St→Prop}{id:Nat}(h:Q (.exit id) s):mD b Q (.exit id) s:=h
theorem mR{b:(bJ→St→Prop)→St→Prop}(h:Q .ret s):mD b Q .ret s:=h
theorem aU{id:Nat}(h:Q .normal s):fK id Q .normal s:=h
theorem iO{id:Nat}(h:Q .ret s):fK id Q .ret s:=h
theorem dY{id:Nat}(h:Q .normal s):fK id Q (.exit id) s:=by simp only[fK,if_true];exact h
theorem cQ{id id':Nat}(hne:id'≠id)(h:Q (.exit id') s):fK id Q (.exit id') s:=by simp only[fK,if_neg hne];exact h
def pr{ι:Type}(C:ι→Prop)(st:ι→St)(m:ι→Nat)(n:Nat)(Q:bJ→St→Prop):bJ→St→Prop
 | .normal,s=>∃i,C i∧m i<n∧tH s (st i)
 |e,s=>Q e s
theorem oG{ι:Type}{C:ι→Prop}{st:ι→St}{m:ι→Nat}{n:Nat}(i:ι)(hC:C i)(hm:m i<n)(hw:Wk s (st i)):pr C st m n Q .normal s:=⟨i,hC,hm,hw.tell⟩
theorem lE{ι:Type}{C:ι→Prop}{st:ι→St}{m:ι→Nat}{n:Nat}{id:Nat}(h:Q (.exit id) s):pr C st m n Q (.exit id) s:=h
theorem kF{ι:Type}{C:ι→Prop}{st:ι→St}{m:ι→Nat}{n:Nat}(h:Q .ret s):pr C st m n Q .ret s:=h
theorem LOp.aCR{sl:List V}{hp:Hp}{nx:Nat}{R R':V→Hp→Nat→Prop}{o:LOp}(hR:∀v h' nx',R v h' nx'→R' v h' nx')(hx:o.run P sl hp nx R):o.run P sl hp nx R':=by
 have aYr:∀{sl:List V} {hp:Hp} {R R':V→Prop} {x:aW},(∀v,R v→R' v)→x.sem sl hp R→x.sem sl hp R':=fun hR hx=>aW.aAo (fun _ _ e _=>e) hR hx;cases o with
 |val x=>exact aYr (fun v=>hR v hp nx) hx
 |mp m=>exact MOp.aAo (fun v h'=>hR v h' (nx+1)) hx
 |box k x=>exact⟨hx.1,hR _ _ _ hx.2⟩
 |bslice k es=>exact⟨hx.1,hx.2.imp (hR _ _ _) (hR _ _ _)⟩
 |callw f a b=>exact hx.elim
 |mkz k b x z=>
  simp only[LOp.run,LOp.sem] at hx⊢;revert hx;split
  ·rintro⟨a,b,c⟩;exact⟨a,b,c.imp (hR _ _ _) (hR _ _ _)⟩
  exact id
 |appz k b x y z=>
  simp only[LOp.run,LOp.sem] at hx⊢;revert hx;split
  ·rintro⟨a,b,c,d⟩;exact⟨a,b,c,hR _ _ _ d⟩
  exact id
 |clear k x z=>
  simp only[LOp.run,LOp.sem] at hx⊢;revert hx;split
  ·split
   ·rintro⟨a,b,c,d⟩;exact⟨a,b,c,hR _ _ _ d⟩
   exact id
  ·exact hR _ _ _
  exact id
 |append k b x y=>
  simp only[LOp.run,LOp.sem] at hx⊢;revert hx;split
  ·rintro⟨a,hx⟩;refine⟨a,?_⟩;revert hx;split
   ·rintro⟨b,c,⟨d,e⟩|⟨d,e,f,g⟩⟩
    ·exact⟨b,c, .inl ⟨d,hR _ _ _ e⟩⟩
    exact⟨b,c, .inr ⟨d,e,f,hR _ _ _ g⟩⟩
   ·split
    ·rintro⟨b,⟨c,d⟩|⟨c,d,e,f,g,i⟩⟩
     ·exact⟨b, .inl ⟨c,hR _ _ _ d⟩⟩
     exact⟨b, .inr ⟨c,d,e,f,g,hR _ _ _ i⟩⟩
    exact id
   exact id
  exact id
 |store t x v=>
  simp only[LOp.run,LOp.sem] at hx⊢;revert hx;split
  ·split
   ·rintro⟨a,b,c,d,e⟩;exact⟨a,b,c,d,hR _ _ _ e⟩
   exact id
  exact id
 |call f args=>exact aR.mono hx fun v h' nx' _=>hR v h' nx'
 |callv x args=>
  simp only[LOp.run] at hx⊢;revert hx;split
  ·exact fun hx=>aR.mono hx fun v h' nx' _=>hR v h' nx'
  ·exact fun hx=>dX.mono hx fun v h' nx' _=>hR v h' nx'
  exact id
theorem kM{Q Q':St→Prop}(h:∀s,Q s→Q' s):∀(l:List aA) (s:St),aY P l Q s→aY P l Q' s:=by
 intro l;induction l with
 |nil=>exact fun s hs=>h s hs
 |cons o r ih=>
  intro s hs;unfold aY at hs⊢;revert hs;split
  ·exact LOp.aCR fun v h' nx'=>ih _
  split
  ·split
   ·exact LOp.aCR fun v h' nx'=>ih _
   exact ih _
  ·exact ih _
  exact id
theorem og{h0:Hp}{nx0:Nat}{Q Q':List V→List (Option Blk)→List (Option Con)→Prop}(h:∀a b c,Q a b c→Q' a b c):∀(l:List (aA×List Nat)) (sl:List V) (aAK:List (Option Blk)) (cons:List (Option Con)),dJ P h0 nx0 l sl aAK cons Q→dJ P h0 nx0 l sl aAK cons Q'
 | [],sl,aAK,cons,hd=>h _ _ _ hd
 |(o,aAF)::r,sl,aAK,cons,hd=>by
  unfold dJ at hd⊢;obtain⟨d,h1,h2,h3⟩:=oh hd;exact ra h1 ⟨h2,og h r _ _ _ h3⟩
theorem nD{c:aT}:∀{Q Q':bJ→St→Prop} {s:St},(∀e s,Q e s→Q' e s)→lwp P c Q s→lwp P c Q' s:=by
 induction c with
 |skip=>exact fun h hs=>h _ _ hs
 |ops l=>exact fun h hs=>kM (fun s=>h _ s) l _ hs
 |draw n hd tl=>exact fun h hs=>hs.imp (fun hs=>⟨hs.1,og (fun a b c hq=>kM (fun s=>h _ s) tl _ hq) hd _ _ _ hs.2⟩) (fun⟨I,h0,h1,h2⟩=>⟨I,h0,h1,fun D s' hD hI=>kM (fun s=>h _ s) tl _ (h2 D s' hD hI)⟩)
 |seq a b iha ihb=>
  intro Q Q' s h hs;refine iha ?_ hs;intro e s' hq;cases e with
  |normal=>obtain⟨s'',hw,hb⟩:=hq;exact⟨s'',hw,ihb h hb⟩
  |exit id=>exact h _ _ hq
  |ret=>exact h _ _ hq
 |cond c a b iha ihb=>
  intro Q Q' s h hs;simp only[lwp] at hs⊢;revert hs;split
  ·split
   ·exact iha h
   exact ihb h
  exact id
 |block id c ih=>
  intro Q Q' s h hs;refine ih ?_ hs;intro e s' hq;cases e with
  |normal=>exact h _ _ hq
  |exit id'=>
   simp only[fK] at hq⊢;revert hq;split<;>exact h _ _
  |ret=>exact h _ _ hq
 |loop c ih=>
  rintro Q Q' s h ⟨I,m,h0,hr⟩;refine⟨I,m,h0,fun s' hI=>ih ?_ (hr s' hI)⟩;intro e s'' hq;cases e with
  |normal=>exact hq
  |exit id=>exact h _ _ hq
  |ret=>exact h _ _ hq
 |exit id=>exact fun h hs=>h _ _ hs
 |ret=>exact fun h hs=>h _ _ hs
 |range g ps as b iha ihb=>
  intro Q Q' s h hs;simp only[lwp] at hs⊢;revert hs;split
  ·intro hs rcd U hp hY;refine(hs rcd U hp hY).mono ?_;rintro v h' nx' _ (⟨ho,hq⟩|⟨ho,hq⟩|⟨id,ho,hq⟩)
   ·exact .inl ⟨ho,h _ _ hq⟩
   ·exact .inr (.inl ⟨ho,h _ _ hq⟩)
   exact .inr (.inr ⟨id,ho,h _ _ hq⟩)
  exact id
theorem wI{c:aT}{ι:Type}(C:ι→Prop)(st:ι→St)(m:ι→Nat)(i0:ι)(h0:C i0)(hw0:Wk s (st i0))(hr:∀i,C i→lwp P c (pr C st m (m i) Q) (st i)):lwp P (.loop c) Q s:=by
 --the measure of a state is the least that an index of it has
 have least:∀(p:Nat→Prop),(∃n,p n)→∃n,p n∧∀k,p k→n≤k:=by
  intro p ⟨n,hn⟩;induction n using Nat.strongRecOn with
  |_ n ih=>
   by_cases hex:∃k,k<n∧p k
   ·obtain⟨k,hk,hp⟩:=hex;exact ih k hk hp
   exact⟨n,hn,fun k hk=>by
    rcases KG k n with h|h
    ·exact absurd ⟨k,h,hk⟩ hex
    exact h⟩
 refine⟨fun s'=>∃i,C i∧s'=st i,fun s'=>leastOf fun n=>∃i,C i∧s'=st i∧m i=n,⟨st i0,hw0.tell,i0,h0,rfl⟩,?_⟩;rintro s' ⟨i,hi,rfl⟩;have hl:=leastOf_spec (p:=fun n=>∃j,C j∧st i=st j∧m j=n) ⟨m i,i,hi,rfl,rfl⟩;obtain⟨⟨j,hj,hij,hmj⟩,bCV⟩:=hl;rw[hij];refine nD ?_ (hr j hj);intro e s'' hq;cases e with
 |normal=>
  obtain⟨i',hC',hm',hw'⟩:=hq;refine⟨st i',hw',⟨i',hC',rfl⟩,?_⟩;have h2:=(leastOf_spec (p:=fun n=>∃j,C j∧st i'=st j∧m j=n) ⟨m i',i',hC',rfl,rfl⟩).2 (m i') ⟨i',hC',rfl,rfl⟩;have h3:leastOf (fun n=>∃k,C k∧st j=st k∧m k=n)=m j:=by
   rw[←hij,hmj]
  show leastOf (fun n=>∃k,C k∧st i'=st k∧m k=n)<leastOf (fun n=>∃k,C k∧st j=st k∧m k=n);rw[h3];exact Nat.lt_of_le_of_lt h2 hm'
 |exit id=>exact hq
 |ret=>exact hq
variable{Qs:St→Prop}{r:List aA}{dst:Option Nat}{f:FuncId}{args:List aK}
def bW(P:Program)(r:List aA)(Qs:St→Prop)(sl:List V)(dst:Option Nat)(v:V)(h:Hp)(nx:Nat):Prop:=aY P r Qs ⟨bL sl dst v,h,nx⟩
theorem aV(h:aR P f (args.map (aK.ev s.sl)) s.h s.nx (bW P r Qs s.sl dst)):aY P (⟨dst,none, .call f args⟩::r) Qs s:=h
theorem zy{x:aK}{f':Nat}{first cap:List V}(hx:x.ev s.sl= .fn (.func f') first cap)(h:aR P f' (first++args.map (aK.ev s.sl)++cap) s.h s.nx (bW P r Qs s.sl dst)):aY P (⟨dst,none, .callv x args⟩::r) Qs s:=by
 unfold aY;simp only[LOp.run,hx];exact h
theorem dX.weaken{n:Nat}{args:List V}{h h2:Hp}{nx:Nat}{R:V→Hp→Nat→Prop}(c:dX P n args h nx R)(hle:h.le h2):dX P n args h2 nx R:=
 fun m K cargs hl hn hrel hv=>c m K cargs hl hn (hrel.weaken hle) hv
theorem nF{x:aK}{n:Nat}(hx:x.ev s.sl= .yld n)(h:dX P n (args.map (aK.ev s.sl)) s.h s.nx (bW P r Qs s.sl dst)):aY P (⟨dst,none, .callv x args⟩::r) Qs s:=by
 unfold aY;simp only[LOp.run,hx];exact h
theorem aH{h:Hp}{aAZ:List V}{v:V}(hp:aM P f aAZ h v)(ha:args.map (aK.ev s.sl)=aAZ)(hh:h.has s.h)(hq:aY P r Qs ⟨bL s.sl dst v,s.h,s.nx⟩):aY P (⟨dst,none, .call f args⟩::r) Qs s:=by
 refine aV ?_;rw[ha];refine(hp s.h s.nx hh).mono ?_;rintro v' h' nx' _ ⟨rfl,rfl,rfl⟩;exact hq
theorem eA{x:aK}{f':Nat}{first cap:List V}(hx:x.ev s.sl= .fn (.func f') first cap){h:Hp}{aAZ:List V}{v:V}(hp:aM P f' aAZ h v)(ha:first++args.map (aK.ev s.sl)++cap=aAZ)(hh:h.has s.h)(hq:aY P r Qs ⟨bL s.sl dst v,s.h,s.nx⟩):aY P (⟨dst,none, .callv x args⟩::r) Qs s:=by
 refine zy hx ?_;rw[ha];refine(hp s.h s.nx hh).mono ?_;rintro v' h' nx' _ ⟨rfl,rfl,rfl⟩;exact hq
theorem zx{t:Nat}{want b:Bool}{op:LOp}(hb:s.sl.getD t Ka= .bool b)(h1:b=want→aY P (⟨dst,none,op⟩::r) Qs s)(h2:b≠want→aY P r Qs ⟨bL s.sl dst Ka,s.h,s.nx⟩):aY P (⟨dst,some (t,want),op⟩::r) Qs s:=by
 unfold aY;simp only[hb];split
 ·rename_i e;exact h1 e
 rename_i e;exact h2 e
theorem eQ{t:Nat}{want:Bool}{op:LOp}(hb:s.sl.getD t Ka= .tup [])(h2:aY P r Qs ⟨bL s.sl dst Ka,s.h,s.nx⟩):aY P (⟨dst,some (t,want),op⟩::r) Qs s:=by
 unfold aY;simp only[hb];exact h2
end
def LOp.aEH(sl:List V)(h0:Hp)(a:Nat):LOp→fC
 | .mp .mk=>⟨.map a,some (.mp [] 0),none⟩
 | .val x=>⟨x.out sl h0,none,none⟩
 | .box k x=>⟨.ptr a k 0 0,some (.arr k [x.ev sl]),none⟩
 | .bslice k es=>⟨.sl k (.tok a) (es.map (aK.ev sl)),some .tip,none⟩
 | .append k _ x y=>match x.ev sl,y.ev sl with
  | .sl _ .nil xs, .sl _ _ ys=>⟨.sl k (fB a .nil ys) (xs++ys),if ys.isEmpty then none else some .tip,none⟩
  | .sl _ .full xs, .sl _ _ ys=>⟨.sl k (fB a .full ys) (xs++ys),if ys.isEmpty then none else some .tip,none⟩
  | .sl _ (.tok n) xs, .sl _ _ ys=>⟨.sl k (.tok a) (xs++ys),some .tip,some ⟨n, .tip,none⟩⟩
  |_,_=>⟨.undef,none,none⟩
 | .mkz k _ x z=>match x.ev sl with
  | .int _ m=>⟨.rs a k 0 (mkN m.toNat z),some (.arr k (mkL m.toNat z)),none⟩
  |_=>⟨.undef,none,none⟩
 | .appz k _ _ y z=>match y.ev sl with
  | .int _ m=>⟨.rs a k 0 m.toNat,some (.arr k (Ks m.toNat z)),none⟩
  |_=>⟨.undef,none,none⟩
 |_=>⟨.undef,none,none⟩
def LOp.dok(sl:List V)(h0:Hp):LOp→Prop
 | .mp .mk=>True
 | .val x=>x.ok sl h0
 | .box k x=>(x.ev sl).fits k=true
 | .bslice k es=>∀e∈es,(e.ev sl).fits k=true
 | .append k bytes x y=>match x.ev sl,y.ev sl with
  | .sl kx own xs, .sl ky _ ys=>kx=k∧ky=k∧(xs.length+ys.length)*bytes≤140737488355328∧(match own with| .free=>False|_=>True)
  |_,_=>False
 | .mkz _ bytes x _=>match x.ev sl with
  | .int _ m=>0≤m∧m.toNat*bytes≤140737488355328
  |_=>False
 | .appz k bytes x y _=>match x.ev sl,y.ev sl with
  | .sl k' .nil [], .int _ m=>k'=k∧0<m∧m.toNat*bytes≤140737488355328
  |_,_=>False
 |_=>False
def xb(h0:Hp)(nx0:Nat)(aAF:List Nat)(aAK:List (Option Blk))(cons:List (Option Con)):Option Con→Prop
 |none=>True
 |some c=>sC h0 nx0 aAF aAK cons c.n c.old
structure DSt where
 sl:List V
 aAK:List (Option Blk)
 cons:List (Option Con)
def aA.aCv(h0:Hp)(nx0:Nat)(o:aA)(s:DSt):fC:=
 match o.g with
 |none=>o.op.aEH s.sl (lO h0 s.cons) (nx0+s.aAK.length)
 |some (t,want)=>match s.sl.getD t Ka with
  | .bool b=>if b=want then o.op.aEH s.sl (lO h0 s.cons) (nx0+s.aAK.length) else ⟨Ka,none,none⟩
  |_=>⟨Ka,none,none⟩
def aA.dok(h0:Hp)(o:aA)(s:DSt):Prop:=
 match o.g with
 |none=>o.op.dok s.sl (lO h0 s.cons)
 |some (t,want)=>match s.sl.getD t Ka with
  | .bool b=>b=want→o.op.dok s.sl (lO h0 s.cons)
  | .tup _=>True
  |_=>False
def wy(dst:Option Nat)(d:fC)(s:DSt):DSt:=⟨bL s.sl dst d.v,s.aAK++[d.add],s.cons++[d.con]⟩
def iH(h0:Hp)(nx0:Nat):List (aA×List Nat)→DSt→DSt
 | [],s=>s
 |(o,_)::r,s=>iH h0 nx0 r (wy o.dst (o.aCv h0 nx0 s) s)
def yX(h0:Hp)(nx0:Nat):List (aA×List Nat)→DSt→Prop
 | [],_=>True
 |(o,aAF)::r,s=>o.dok h0 s∧xb h0 nx0 aAF s.aAK s.cons (o.aCv h0 nx0 s).con∧yX h0 nx0 r (wy o.dst (o.aCv h0 nx0 s) s)
theorem LOp.aBa{P:Program}{sl:List V}{h0:Hp}{a:Nat}{R:fC→Prop}{l:LOp}(ho:l.dok sl h0)(hR:R (l.aEH sl h0 a)):l.aAd P sl h0 a R:=by
 cases l with
 |val x=>exact aW.aAb (R:=fun v=>R ⟨v,none,none⟩) ho hR
 |box k x=>exact⟨ho,hR⟩
 |bslice k es=>exact⟨ho, .inl hR⟩
 |append k b x y=>
  simp only[LOp.dok,LOp.aEH,LOp.aAd] at ho hR⊢;generalize x.ev sl=v at ho hR⊢;generalize y.ev sl=u at ho hR⊢;cases v<;>try (exact ho.elim)
  cases u<;>try (exact ho.elim)
  rename_i kx own xs ky aPG ys;obtain⟨a,b,c,d⟩:=ho;refine⟨a,b,c,?_⟩;cases own<;>simp only at d hR⊢<;>exact hR
 |store t x v=>exact ho.elim
 |mkz k b x z=>
  simp only[LOp.dok,LOp.aEH,LOp.aAd] at ho hR⊢;generalize x.ev sl=v at ho hR⊢;cases v<;>first|exact ho.elim|exact⟨ho.1,ho.2, .inl hR⟩
 |appz k b x y z=>
  simp only[LOp.dok,LOp.aEH,LOp.aAd] at ho hR⊢;generalize x.ev sl=v at ho hR⊢;generalize y.ev sl=u at ho hR⊢;split at ho
  ·exact⟨ho.1,ho.2.1,ho.2.2,hR⟩
  exact ho.elim
 |clear k x z=>exact ho.elim
 |callw f a b=>exact ho.elim
 |mp m=>cases m<;>first|exact hR|exact ho.elim
 |call f args=>exact ho.elim
 |callv x args=>exact ho.elim
theorem Dp{P:Program}{h0:Hp}{nx0:Nat}{o:aA}{aAF:List Nat}{r:List (aA×List Nat)}{s:DSt}{Q:List V→List (Option Blk)→List (Option Con)→Prop}(ho:o.dok h0 s)(hc:xb h0 nx0 aAF s.aAK s.cons (o.aCv h0 nx0 s).con)
 (h:dJ P h0 nx0 r (wy o.dst (o.aCv h0 nx0 s) s).sl (wy o.dst (o.aCv h0 nx0 s) s).aAK (wy o.dst (o.aCv h0 nx0 s) s).cons Q):dJ P h0 nx0 ((o,aAF)::r) s.sl s.aAK s.cons Q:=by
 have fin:∀{d:fC},d=o.aCv h0 nx0 s→(∀c,d.con=some c→sC h0 nx0 aAF s.aAK s.cons c.n c.old)∧dJ P h0 nx0 r (bL s.sl o.dst d.v) (s.aAK++[d.add]) (s.cons++[d.con]) Q:=by
  rintro d rfl;refine⟨fun n hn=>?_,h⟩;rw[hn] at hc;exact hc
 unfold dJ fQ;unfold aA.dok at ho;unfold aA.aCv at fin;cases hg:o.g with
 |none=>rw[hg] at ho fin;exact LOp.aBa ho (fin rfl)
 |some p=>
  obtain⟨t,want⟩:=p;rw[hg] at ho fin;simp only at ho fin⊢
  cases hv:s.sl.getD t Ka<;>rw[hv] at ho fin<;>simp only at ho fin⊢<;>first
   |exact ho.elim
   |exact fin rfl
   |(split
     ·rename_i e;exact LOp.aBa (ho e) (fin (by rw[if_pos e]))
     rename_i e;exact fin (by rw[if_neg e]))
theorem wz{P:Program}{h0:Hp}{nx0:Nat}{Q:List V→List (Option Blk)→List (Option Con)→Prop}{r:List (aA×List Nat)}:∀(l:List (aA×List Nat)) (s:DSt),yX h0 nx0 l s→
 dJ P h0 nx0 r (iH h0 nx0 l s).sl (iH h0 nx0 l s).aAK (iH h0 nx0 l s).cons Q→dJ P h0 nx0 (l++r) s.sl s.aAK s.cons Q
 | [],_,_,h=>h
 |(o,aAF)::l,s,ho,h=>Dp ho.1 ho.2.1 (wz l _ ho.2.2 h)
section
variable{P:Program}{h0:Hp}{nx0:Nat}{Q:List V→List (Option Blk)→List (Option Con)→Prop}{l:List (aA×List Nat)}{r:List (aA×List Nat)}{sl:List V}{aAK:List (Option Blk)}{cons:List (Option Con)}{dst:Option Nat}{aAF:List Nat}
theorem kA(h:Q sl aAK cons):dJ P h0 nx0 [] sl aAK cons Q:=h
theorem bR{f:FuncId}{args:List aK}{hp:Hp}{aAZ:List V}{v:V}(p:aM P f aAZ hp v)(ha:args.map (aK.ev sl)=aAZ)(hh:Hp.has hp (lO h0 cons))(h:dJ P h0 nx0 r (bL sl dst v) (aAK++[none]) (cons++[none]) Q):dJ P h0 nx0 ((⟨dst,none, .call f args⟩,aAF)::r) sl aAK cons Q:=by
 unfold dJ fQ;exact .inl ⟨v,by rw[ha];exact p.mono hh,(fun n e=>by cases e),h⟩
theorem io{f:FuncId}{args fl:List aK}{hp:Hp}{aAZ:List V}{v:V}(p:aM P f aAZ hp v)(ha:args.map (aK.ev sl)=aAZ)(hh:Hp.has hp (lO h0 cons))(h:dJ P h0 nx0 r (bL sl dst v) (aAK++[none]) (cons++[none]) Q):dJ P h0 nx0 ((⟨dst,none, .callw f args fl⟩,aAF)::r) sl aAK cons Q:=by
 unfold dJ fQ;exact .inl ⟨v,by rw[ha];exact p.mono hh,(fun n e=>by cases e),h⟩
theorem Av{t:Sh}{x v:aK}{n i o:Nat}{k:Sh}{es:List V}(hx:x.ev sl= .ptr n k i o)(hc:sC h0 nx0 aAF aAK cons n (.arr k es))(hi:i<es.length)(hp:cA k t o)(hf:(v.ev sl).fits t=true)
 (h:dJ P h0 nx0 r (bL sl dst Ka) (aAK++[none]) (cons++[some ⟨n, .arr k es,some (.arr k (es.set i (bZ t o (es.getD i Ka) (v.ev sl))))⟩]) Q):dJ P h0 nx0 ((⟨dst,none, .store t x v⟩,aAF)::r) sl aAK cons Q:=by
 unfold dJ fQ;simp only[LOp.aAd,hx];exact⟨es,hi,hp,hf,(fun c e=>by injection e with e;subst e;exact hc),h⟩
theorem ip{x:aK}{args:List aK}{hp:Hp}{aAZ:List V}{v:V}{f':Nat}{first cap:List V}(hx:x.ev sl= .fn (.func f') first cap)(p:aM P f' aAZ hp v)(ha:first++args.map (aK.ev sl)++cap=aAZ)(hh:Hp.has hp (lO h0 cons))(h:dJ P h0 nx0 r (bL sl dst v) (aAK++[none]) (cons++[none]) Q):dJ P h0 nx0 ((⟨dst,none, .callv x args⟩,aAF)::r) sl aAK cons Q:=by
 unfold dJ fQ;simp only[LOp.aAd,hx];exact .inl ⟨v,by rw[ha];exact p.mono hh,(fun n e=>by cases e),h⟩
theorem Aw{t:Nat}{want b:Bool}{op:LOp}(hb:sl.getD t Ka= .bool b)(h1:b=want→dJ P h0 nx0 ((⟨dst,none,op⟩,aAF)::r) sl aAK cons Q)(h2:b≠want→dJ P h0 nx0 r (bL sl dst Ka) (aAK++[none]) (cons++[none]) Q):dJ P h0 nx0 ((⟨dst,some (t,want),op⟩,aAF)::r) sl aAK cons Q:=by
 unfold dJ fQ;simp only[hb];split
 ·rename_i e;have:=h1 e;unfold dJ fQ at this;exact this
 rename_i e;exact⟨(fun n hn=>by cases hn),h2 e⟩
theorem eS{t:Nat}{want:Bool}{op:LOp}(hb:sl.getD t Ka= .tup [])(h2:dJ P h0 nx0 r (bL sl dst Ka) (aAK++[none]) (cons++[none]) Q):dJ P h0 nx0 ((⟨dst,some (t,want),op⟩,aAF)::r) sl aAK cons Q:=by
 unfold dJ fQ;simp only[hb];exact⟨(fun n hn=>by cases hn),h2⟩
theorem sV{l:List aA}{Qs:St→Prop}{s:St}(n:Nat)(hl:(l.take n).all (fun o=> !o.op.aAY)=true)(ho:rP (l.take n) s)(h:aY P (l.drop n) Qs (jU (l.take n) s)):aY P l Qs s:=by
 have:=ET (P:=P) (Q:=fun s=>aY P (l.drop n) Qs s) (l.take n) hl s ho h;have app:∀(a b:List aA) (s:St),aY P a (fun s=>aY P b Qs s) s→aY P (a++b) Qs s:=by
  intro a;induction a with
  |nil=>exact fun b s h=>h
  |cons o a ih=>
   intro b s h;have h':=kM (P:=P) (Q:=fun s=>aY P b Qs s) (Q':=fun s=>aY P b Qs s) (fun _ x=>x) [] s;unfold aY at h;rw[List.cons_append];unfold aY;have runM:=@kM P;revert h;split
   ·rename_i hg;intro h;have:=kM (P:=P) (Q:=fun s'=>aY P a (fun s=>aY P b Qs s) s') (Q':=fun s'=>aY P (a++b) Qs s') (fun s'=>ih b s') [o] s (by unfold aY;rw[hg];exact h);unfold aY at this;rw[hg] at this;exact this
   rename_i t want hg;intro h;have:=kM (P:=P) (Q:=fun s'=>aY P a (fun s=>aY P b Qs s) s') (Q':=fun s'=>aY P (a++b) Qs s') (fun s'=>ih b s') [o] s (by unfold aY;rw[hg];exact h);unfold aY at this;rw[hg] at this;exact this
 have h2:=app _ _ s this;rwa [List.take_append_drop] at h2
def Fo(P:Program)(tl:List aA)(n:Nat)(Q:bJ→St→Prop)(s:St)(sl:List V)(aAK:List (Option Blk))(cons:List (Option Con)):Prop:=aY P tl (Q .normal) ⟨sl,bt (qU s.h s.nx aAK) cons,s.nx+n⟩
theorem lH{n:Nat}{hd:List (aA×List Nat)}{tl:List aA}{Q:bJ→St→Prop}{s:St}(hs:((hd.all fun p=>match p.1.dst with|some d=>decide (d<s.sl.length)|none=>true)&&decide (n=hd.length))=true)(h:dJ P s.h s.nx hd s.sl [] [] (Fo P tl n Q s)):lwp P (.draw n hd tl) Q s:= .inl ⟨hs,h⟩
theorem pE{n:Nat}{hd:List (aA×List Nat)}{tl:List aA}{Q:bJ→St→Prop}{s:St}(h:Bw P hd tl (Q .normal) s):lwp P (.draw n hd tl) Q s:= .inr h
theorem kQ{n:Nat}{Q:bJ→St→Prop}{s:St}(h:Q .normal ⟨sl,bt (qU s.h s.nx aAK) cons,s.nx+n⟩):Fo P [] n Q s sl aAK cons:=h
end
def rM(res:List zF)(R:V→Hp→Nat→Prop):bJ→St→Prop
 | .exit _,_=>False
 |_,s=>lT s res [] fun vs=>∃h',h'.le s.h∧R (iY vs) h' s.nx
theorem aB{P:Program}{f:FuncId}{b:aT}{nt:Nat}{res:List zF}(hL:aE P f=some ⟨b,nt,res⟩){args:List V}{h:Hp}{nx:Nat}{R:V→Hp→Nat→Prop}
 (hw:(∀m b,h m=some b→m<nx)→lwp P b (rM res R) ⟨args++Ks (nt-args.length) Ka,h,nx⟩):aR P f args h nx R:=
 j3 hL fun hd=>nD (fun e s hq=>by cases e<;>exact hq) (hw hd)
theorem aC{t:Nat}{R:V→Hp→Nat→Prop}{s:St}(h':Hp)(hle:h'.le s.h)(hR:R (s.sl.getD t Ka) h' s.nx):rM [.slot t] R .ret s:=⟨h',hle,hR⟩
theorem aN{t u:Nat}{R:V→Hp→Nat→Prop}{s:St}(h':Hp)(hle:h'.le s.h)(hR:R (.tup [s.sl.getD t Ka,s.sl.getD u Ka]) h' s.nx):rM [.slot t, .slot u] R .ret s:=⟨h',hle,hR⟩
theorem mW{t:Nat}{k:Sh}{R:V→Hp→Nat→Prop}{s:St}(ho:(aW.load k (.slot t)).ok s.sl s.h)(h':Hp)(hle:h'.le s.h)(hR:R ((aW.load k (.slot t)).out s.sl s.h) h' s.nx):rM [.cell t k] R .ret s:=by
 have:=aW.aAb (R:=fun v=>∃h',h'.le s.h∧R (iY [v]) h' s.nx) ho ⟨h',hle,by generalize (aW.load k (.slot t)).out s.sl s.h=x at hR;exact hR⟩;exact this
theorem AU{a b:List V}{h h':Hp}{n n':Nat}(hs:WkL a b)(hh:h'.le h)(hn:n≤n'):Wk ⟨a,h,n⟩ ⟨b,h',n'⟩:=⟨hs,hh,hn⟩
def aD:Nat→Nat→List (Nat×V)→List V
 |0,_,_=>[]
 |n+1,i,[]=> .top::aD n (i+1) []
 |n+1,i,(j,v)::r=>if j=i then v::aD n (i+1) r else .top::aD n (i+1) ((j,v)::r)
theorem tC{h0:Hp}(nx0 j:Nat)(aAF:List Nat)(aAK:List (Option Blk))(cons:List (Option Con))(b:Blk):sC h0 nx0 aAF aAK cons (nx0+j) b=(eK (nx0+j) cons∧j∈aAF∧aAK.getD j none=some b):=by
 unfold sC;apply propext;constructor
 ·rintro⟨h1,⟨h2,_⟩|⟨d,h2,h3,h4⟩⟩
  ·omega
  have:d=j:=or;subst this;exact⟨h1,h2,h4⟩
 rintro⟨h1,h2,h3⟩;exact⟨h1, .inr ⟨j,h2,rfl,h3⟩⟩
theorem iu{h0:Hp}(nx0:Nat)(aAF:List Nat)(aAK:List (Option Blk))(cons:List (Option Con))(b:Blk):sC h0 nx0 aAF aAK cons nx0 b=(eK nx0 cons∧0∈aAF∧aAK.getD 0 none=some b):=by
 have:=tC (h0:=h0) nx0 0 aAF aAK cons b;simpa using this
theorem mn{a b:Nat}(h:a≠b):(a=b)=False:=eq_false h
theorem Hi{a k:Nat}:(a=a+(k+1))=False:=mn or
theorem Ep{a k:Nat}:(a+(k+1)=a)=False:=mn or
theorem pB(a b:V):Ke true a b=a:=by unfold Ke;split<;>simp
theorem mY(a b:V):Ke false a b=b:=by unfold Ke;split<;>simp
theorem yI(t x y:Bool):Ke t (.bool x) (.bool y)= .bool (if t then x else y):=rfl
theorem zS{h:Hp}{nx:Nat}(hd:∀m b,h m=some b→m<nx){h':Hp}(hle:h.le h'){n:Nat}(hn:nx≤n)(b:Blk):h.le (h'.set n b):=fun m c e=>by
 have:=hd m c e;unfold Hp.set;rw[if_neg or];exact hle m c e
theorem wO{h:Hp}{nx:Nat}(hd:∀m b,h m=some b→m<nx){h':Hp}(hle:h.le h'){n:Nat}(hn:nx≤n):h.le (h'.del n):=fun m c e=>by
 have:=hd m c e;unfold Hp.del;rw[if_neg or];exact hle m c e
theorem fY{n:Int}(h1:-9223372036854775808≤n)(h2:n≤9223372036854775807):IntKind.i64.wrap n=n:=IntWalk.i64_in n ⟨h1,h2⟩
end Go.Proofs.YtlhedpgobaellaaGreatDoor
