/-
Texts of this proof,one behind the other. No conditions.
-/
import Derived.Test.YtgbiopfghdilnaaGreatDoorKg
import Derived.Test.YtgbiopfghdilnaaGreatDoorKd
import Derived.Test.YtgbiopfghdilnaaGreatDoorKl
import Derived.Test.YtgbiopfghdilnaaGreatDoorKe
open List renaming take_succ_eq_append_getElem→Ka,getD_eq_getElem?_getD→Kb,getElem?_eq_getElem→Kc,take_of_length_le→Kd,map_append→Ke,map_nil→Kg,getElem?_map→Kh,all_eq_true→Kj,getElem_mem→Kk,length_take→Ko,map_cons→Kp,mem_map→Kq
open Nat renaming lt_or_ge→Kf,zero_le→Km
open Bool renaming and_eq_true→Ki
set_option linter.unusedSimpArgs false
set_option linter.unusedVariables false
set_option linter.unusedSectionVars false
set_option maxHeartbeats 8000000
open Nat renaming reduceAdd→jA,reduceSub→jB,reduceLT→jC,reduceLeDiff→jD,reduceEqDiff→jE
open Int renaming reduceToNat→jF,toNat_natCast→jG,natCast_add→jH,natCast_one→jI,natCast_zero→jJ
open List renaming length_map→jK,length_cons→jL,length_nil→jM,replicate_succ→jN,replicate_zero→jO,cons_append→jP,nil_append→jQ
namespace Go.Proofs.YtgbiopfghdilnaaGreatDoor
open Go.RowKit
theorem wE{v:V}(h:v.aAD=true):v.loose.aAD=true:=by
 cases v with
 |sl k o es=>cases o<;>rfl
 |_=>first|exact h|rfl
end Go.Proofs.YtgbiopfghdilnaaGreatDoor
namespace Go.Proofs.YtgbiopfghdilnaaGreatDoor
open Go.RowKit Go.Sort
attribute [local irreducible] IntKind.wrap
set_option maxHeartbeats 4000000
theorem th{k:Sh}{v:V}(h:v.fits k=true):v.loose.fits k=true:=by
 cases k with
 |leaf=>rw[lE] at h⊢;exact wE h
 |agg n=>
  cases v with
  |agg cs=>
   simp only[V.fits,V.loose,Ki,decide_eq_true_eq,jK,Kj,Kq] at h⊢;refine⟨h.1,?_⟩;rintro x ⟨c,hc,rfl⟩;have:=h.2 c hc;split<;>first|rfl|exact this
  |_=>cases h
theorem sw{K:Ker}{k:Sh}{v:V}{cv:Value}{j:Nat}(hf:v.fits k=true)(hj:j<k.size)(h:VR K (v.cell j) cv):VR K (v.loose.cell j) cv:=by
 cases k with
 |leaf=>
  rw[lE] at hf;have hj0:j=0:=by simp[Sh.size] at hj;exact hj
  subst hj0;rw[jY hf] at h;rw[jY (wE hf)];exact h.loose
 |agg n=>
  cases v with
  |agg cs=>
   simp only[V.fits,Ki,decide_eq_true_eq,Kj] at hf;simp only[Sh.size] at hj;have hjc:j<cs.length:=or;show VR K ((cs.map _).getD j V.undef) cv;have h:VR K (cs.getD j V.undef) cv:=h;have hl:=hf.2 (cs.getD j V.undef) (by rw[Kb,Kc hjc];exact Kk _);rw[Kb,Kh,Kc hjc];rw[Kb,Kc hjc] at h hl;simp only[Option.map_some,Option.getD_some] at h hl⊢;generalize cs[j]=c at h hl;cases c with
   |sl k o es=>have:=h.loose;cases o<;>exact this
   |_=>exact h
  |_=>cases hf
theorem mg{sl:List V}{h:Hp}{nx n:Nat}{k:Sh}{es:List V}(hn:h n=some (.arr k es)):tO ⟨sl,h,nx⟩ ⟨sl,h.set n (.arr k (es.map V.loose)),nx⟩:=by
 intro K0 K nx0 a r;refine⟨K,rfl,r.le,r.aAC,?_,r.live,r.nx,r.defers⟩;have hr:=r.rel;have hex:∀m b,(h.set n (.arr k (es.map V.loose))) m=some b→∃b',h m=some b':=fun m b e=>by
  simp only[Hp.set] at e;split at e
  ·rename_i hm;exact⟨_,by rw[hm];exact hn⟩
  exact⟨b,e⟩
 refine⟨fun m b e=>?_,fun m b e=>?_,fun m b e=>?_,fun m m' b b' e e'=>?_,hr.size⟩
 ·obtain⟨b',h'⟩:=hex m b e;exact hr.lt m b' h'
 ·obtain⟨b',h'⟩:=hex m b e;exact hr.base m b' h'
 ·simp only[Hp.set] at e;split at e
  ·rename_i hm;subst hm;cases e;have hb:=hr.blk m _ hn;cases hb with
   |arr _ _ c T hh hsz hi aAJ hv=>
    refine .arr k _ c T hh (by rw[jK];exact hsz) hi (fun e he=>?_) fun i hi j hj=>?_
    ·obtain⟨x,hx,rfl⟩:=Kq.1 he;exact th (aAJ x hx)
    rw[jK] at hi;have h1:=hv i hi j hj;rw[Kb,Kc hi] at h1;rw[Kb (l:=es.map V.loose),Kh,Kc hi];exact sw (aAJ _ (Kk _)) hj h1
  exact hr.blk m b e
 obtain⟨c,h1⟩:=hex m b e;obtain⟨c',h2⟩:=hex m' b' e';exact hr.inj m m' c c' h1 h2
theorem qZ(o o':Own)(a b:List ByteArray)(ha:a.length≤1000000000)(hb:b.length≤1000000000)(h:Hp):aI Tryz.prog 11 [.sl .leaf o (a.map V.str), .sl .leaf o' (b.map V.str)] h (.bool (decide (a=b))):=by
 refine aH (fun L=>trivial) fun h' nx hh=>aC L.g5z fun hd=>?_;simp only[jL,jM,jA,jB,jN,jO,jP,jQ,V.undef];by_cases hl:a.length=b.length
 ·have g1:((a.length:Int) != (b.length:Int))=false:=bnf;refine aue (e2 g1 (@jK ByteArray V)) ?_;refine aO (fun i:Nat=>aD 26 0 [(0, .sl .leaf o (a.map V.str)),(1, .sl .leaf o' (b.map V.str)),(12, .int .i64 a.length),(13, .int .i64 i)]) (fun i hp nx1=>i≤a.length∧hp=h'∧a.take i=b.take i) (fun i=>a.length-i) 0 ⟨Km _,rfl,rfl⟩ (by simp only[WkL,aD,jH,jI,jJ,jK,go_sem,reduceIte,jA,jB,jC,jD,reduceCtorEq,jE,jF]) ?_;rintro i hp nx1 ⟨hi,rfl,hno⟩;generalize hQ:aX _ _ _ _ _=Q0;simp only[aD,go_sem,reduceIte,jA,jB,jC,jD,reduceCtorEq,jE,jF];rcases Kf i a.length with hlt|hge
  ·have hlb:i<b.length:=or;have hc:decide ((i:Int)<(a.length:Int))=true:=dct;have hg:=aM V.str a i hlt;have hg2:=aM V.str b i hlb;have hw:IntKind.i64.wrap ((i:Int)+1)=((i+1:Nat):Int):=wrp;have hbe:=cV a[i] b[i];have t1:a.take (i+1)=a.take i++[a[i]]:=Ka hlt;have t2:b.take (i+1)=b.take i++[b[i]]:=Ka hlb;by_cases k:a[i]=b[i]
   ·rw[decide_eq_true k] at hbe;refine aue (e8 hc hg hg2 hbe hlt hlb (jG i) (e2 hw (@jK ByteArray V))) ?_;rw[←hQ];exact aE (i+1) or ⟨hlt,rfl,by rw[t1,t2,hno,k]⟩ (by simp only[WkL,aD,jH,jI,jJ,go_sem,reduceIte,jA,jB,jC,jD,reduceCtorEq,jE,jF])
   rw[decide_eq_false k] at hbe;refine aue (e8 hc hg hg2 hbe hlt hlb (jG i) (e2 hw (@jK ByteArray V))) ?_;rw[←hQ];refine au ?_;exact aB hp (leo hd) ⟨congrArg V.bool (decide_eq_false fun e=>k (by subst e;rfl)).symm,rfl⟩
  have hc:decide ((i:Int)<(a.length:Int))=false:=dcf;refine aue hc ?_;rw[←hQ];refine au ?_;rw[Kd or,Kd or] at hno;exact aB hp (leo hd) ⟨congrArg V.bool (decide_eq_true hno).symm,rfl⟩
 have g1:((a.length:Int) != (b.length:Int))=true:=bnt;refine aue (e2 g1 (@jK ByteArray V)) ?_;exact aB h' (leo hd) ⟨congrArg V.bool (decide_eq_false fun e=>hl (by rw[e])).symm,rfl⟩
theorem ia(o o':Own)(a b:List Nat)(ha:a.length≤1000000000)(hb:b.length≤1000000000)(h:Hp):aI Tryz.prog 18 [.sl .leaf o (a.map kV), .sl .leaf o' (b.map kV)] h (.bool (decide (a=b))):=by
 refine aH (fun L=>trivial) fun h' nx hh=>aC L.aTx fun hd=>?_;simp only[jL,jM,jA,jB,jN,jO,jP,jQ,V.undef];by_cases hl:a.length=b.length
 ·have g1:((a.length:Int) != (b.length:Int))=false:=bnf;refine aue (e2 g1 (@jK Nat V)) ?_;refine aO (fun i:Nat=>aD 26 0 [(0, .sl .leaf o (a.map kV)),(1, .sl .leaf o' (b.map kV)),(12, .int .i64 a.length),(13, .int .i64 i)]) (fun i hp nx1=>i≤a.length∧hp=h'∧a.take i=b.take i) (fun i=>a.length-i) 0 ⟨Km _,rfl,rfl⟩ (by simp only[WkL,aD,jH,jI,jJ,jK,go_sem,reduceIte,jA,jB,jC,jD,reduceCtorEq,jE,jF]) ?_;rintro i hp nx1 ⟨hi,rfl,hno⟩;generalize hQ:aX _ _ _ _ _=Q0;simp only[aD,go_sem,reduceIte,jA,jB,jC,jD,reduceCtorEq,jE,jF];rcases Kf i a.length with hlt|hge
  ·have hlb:i<b.length:=or;have hc:decide ((i:Int)<(a.length:Int))=true:=dct;have hg:=aM kV a i hlt;have hg2:=aM kV b i hlb;have hw:IntKind.i64.wrap ((i:Int)+1)=((i+1:Nat):Int):=wrp;have hbe:(((a[i]:Nat):Int) != ((b[i]:Nat):Int))= !decide (a[i]=b[i]):=by rw[Bool.eq_iff_iff];simp;omega
   have t1:a.take (i+1)=a.take i++[a[i]]:=Ka hlt;have t2:b.take (i+1)=b.take i++[b[i]]:=Ka hlb;by_cases k:a[i]=b[i]
   ·rw[decide_eq_true k] at hbe;refine aue (e8 hc (show(a.map kV).getD i (.tup [])= .int .i64 a[i] from hg) (show(b.map kV).getD i (.tup [])= .int .i64 b[i] from hg2) hbe hlt hlb (jG i) (e2 hw (@jK Nat V))) ?_;rw[←hQ];exact aE (i+1) or ⟨hlt,rfl,by rw[t1,t2,hno,k]⟩ (by simp only[WkL,aD,jH,jI,jJ,go_sem,reduceIte,jA,jB,jC,jD,reduceCtorEq,jE,jF])
   rw[decide_eq_false k] at hbe;refine aue (e8 hc (show(a.map kV).getD i (.tup [])= .int .i64 a[i] from hg) (show(b.map kV).getD i (.tup [])= .int .i64 b[i] from hg2) hbe hlt hlb (jG i) (e2 hw (@jK Nat V))) ?_;rw[←hQ];refine au ?_;exact aB hp (leo hd) ⟨congrArg V.bool (decide_eq_false fun e=>k (by subst e;rfl)).symm,rfl⟩
  have hc:decide ((i:Int)<(a.length:Int))=false:=dcf;refine aue hc ?_;rw[←hQ];refine au ?_;rw[Kd or,Kd or] at hno;exact aB hp (leo hd) ⟨congrArg V.bool (decide_eq_true hno).symm,rfl⟩
 have g1:((a.length:Int) != (b.length:Int))=true:=bnt;refine aue (e2 g1 (@jK Nat V)) ?_;exact aB h' (leo hd) ⟨congrArg V.bool (decide_eq_false fun e=>hl (by rw[e])).symm,rfl⟩
theorem vw:aF Tryz.prog 39=some (LB.aGZ .leaf 16):=Zz
theorem yz(l:Li)(h:Hp):aI Tryz.prog 38 [l.v] h (.int .i64 (if l.k=1 then 1 else if l.k=2 then 2 else 3)):=by
 refine aH (fun L=>trivial) fun h' nx hh=>aC L.aWj fun hd=>?_;have hf:=Li.aAF l;obtain⟨T,hT,hk⟩:∃T,l.v= .agg T∧T.getD 0 (.tup [])= .int .i64 l.k:=⟨_,rfl,rfl⟩;rw[hT] at hf⊢;simp only[jL,jM,jA,jB,jN,jO,jP,jQ,V.undef];by_cases h1:l.k=1
 ·have g1:(l.k==1)=true:=bqt;refine aue (e3 hf hk g1) ?_;exact aB h' (leo hd) ⟨by rw[if_pos h1];rfl,rfl⟩
 have g1:(l.k==1)=false:=bqf;rw[if_neg h1];by_cases h2:l.k=2
 ·have g2:(l.k==2)=true:=bqt;refine aue (e4 hf hk g1 g2) ?_;exact aB h' (leo hd) ⟨by rw[if_pos h2];rfl,rfl⟩
 have g2:(l.k==2)=false:=bqf;refine aue (e4 hf hk g1 g2) ?_;exact aB h' (leo hd) ⟨by rw[if_neg h2];rfl,rfl⟩
def gH(s:List ByteArray):Nat→List Tr→List Nat
 |_,[]=>[]
 |i,t::r=>if (decide (t.x.size=0)||bB t.x s)=true then i::gH s (i+1) r else gH s (i+1) r
def nS(a:Am)(s:List ByteArray):List Nat:=gH s 0 a.l
theorem tT(s:List ByteArray):∀(a:List Tr) (i:Nat) (t:Tr),gH s i (a++[t])=gH s i a++(if (decide (t.x.size=0)||bB t.x s)=true then [i+a.length] else [])
 | [],i,t=>by simp[gH]
 |x::a,i,t=>by
  have e:i+1+a.length=i+(x::a).length:=by simp only[jL];omega
  simp only[jP,gH,tT s a (i+1) t,e];split<;>simp
theorem pS(s:List ByteArray):∀(a:List Tr) (i:Nat),(gH s i a).length≤a.length
 | [],i=>Nat.le_refl _
 |x::a,i=>by
  have:=pS s a (i+1);unfold gH;split<;>simp only[jL]<;>omega
theorem wy(a:Am)(ha:a.l.length≤1000000)(o:Own)(s:List ByteArray)(hs:s.length≤1000000000)(h:Hp):aI Tryz.prog 42 [a.v, .sl .leaf o (s.map V.str)] h (lst .leaf ((nS a s).map kV)):=by
 refine cP (fun L=>bO (fun L=>aS (f:=kV) (fun _=>trivial) _) L) fun h' nx hh=>aC L.aWZ fun hd=>?_;obtain⟨ar,ao,ts⟩:=a;have ha:ts.length≤1000000:=ha;simp only[jL,jM,jA,jB,jN,jO,jP,jQ,V.undef];have hd:aQ h' nx:=hd;refine aue (e3 Am.v.eq_1 trs.eq_1 (@jK Tr V)) ?_
 refine aO (fun q:Nat×Own×List Nat=>aD 31 0 [(1, .sl .leaf o (s.map V.str)),(5, .sl .leaf q.2.1 (q.2.2.map kV)),(9, .sl (.agg 4) ao (ts.map Tr.v)),(10, .int .i64 ts.length),(11, .int .i64 q.1)])
  (fun q hp nx1=>q.1≤ts.length∧nx+1≤nx1∧aQ hp nx1∧Hp.same nx h' hp∧Acc hp (nx+1) q.2.1 (q.2.2.map kV)∧q.2.2=gH s 0 (ts.take q.1))
  (fun q=>ts.length-q.1) (0, .nil,[]) ⟨Km _,Zw,by exact dmo hd,by exact kep Hp.same.aA0, .inl ⟨rfl,rfl⟩,by simp[gH]⟩ (by simp only[WkL,aD,jH,jI,jJ,jK,Kg,go_sem,reduceIte,jA,jB,jC,jD,reduceCtorEq,jE,jF]) ?_
 rintro⟨i,oo,l⟩ hp nx1 ⟨hi,hnx,hdm,hsm,aAK,hl⟩;generalize hQ:aX _ _ _ _ _=Q0;dsimp only at hi aAK hl;simp only[aD,go_sem,reduceIte,jA,jB,jC,jD,reduceCtorEq,jE,jF];rcases Kf i ts.length with hlt|hge
 ·have hc:decide ((i:Int)<(ts.length:Int))=true:=dct;have hg:=aM Tr.v ts i hlt;have hw:IntKind.i64.wrap ((i:Int)+1)=((i+1:Nat):Int):=wrp;have aAR:gH s 0 (ts.take (i+1))=gH s 0 (ts.take i)++(if (decide (ts[i].x.size=0)||bB ts[i].x s)=true then [i] else []):=by
   rw[Ka hlt,tT,Ko,Nat.min_eq_left or,Nat.zero_add]
  have hlen:l.length≤1000000:=by
   rw[hl];have:=pS s (ts.take i) 0;rw[Ko] at this;omega
  rw[←hl] at aAR;generalize ts[i]=T at hg aAR;have hTf:=Tr.aAF T;have h0:=cd T.x;have C1:∀h:Hp,aI Tryz.prog 41 [.sl .leaf o (s.map V.str), .str T.x] h (.bool (bB T.x s)):=fun h=>fT o s hs T.x h;have hml:(l.map kV).length=l.length:=jK ..;by_cases ht:(decide (T.x.size=0)||bB T.x s)=true
  ·rw[if_pos ht] at aAR;cases h1:decide (T.x.size=0) with
   |true=>
    refine aue (e12 hc hg hlt Tr.v.eq_1 h0 h1 hw (@jK Tr V) jG hTf hlen hml) ?_;rw[←hQ];exact aE (i+1,_,l++[i]) Zw ⟨hlt,or,dmo hdm,rM hsm aAK,by dsimp only;rw[Ke];exact Acc.new _ Zm or,aAR.symm⟩ (by simp only[WkL,aD,jH,jI,jJ,Ke,Kp,Kg,kV,go_sem,reduceIte,jA,jB,jC,jD,reduceCtorEq,jE,jF])
   |false=>
    have h2:bB T.x s=true:=by rw[h1] at ht;simpa using ht
    rw[h2] at C1;refine aue (e12 hc hg hlt Tr.v.eq_1 h0 h1 hw (@jK Tr V) jG hTf hlen hml) ?_;rw[←hQ];exact aE (i+1,_,l++[i]) Zw ⟨hlt,or,dmo hdm,rM hsm aAK,by dsimp only;rw[Ke];exact Acc.new _ Zm or,aAR.symm⟩ (by simp only[WkL,aD,jH,jI,jJ,Ke,Kp,Kg,kV,go_sem,reduceIte,jA,jB,jC,jD,reduceCtorEq,jE,jF])
  rw[if_neg ht,List.append_nil] at aAR;simp only[Bool.or_eq_true,not_or,Bool.not_eq_true] at ht;have h1:=ht.1;rw[ht.2] at C1;refine aue (e12 hc hg hlt Tr.v.eq_1 h0 h1 hw (@jK Tr V) jG hTf hlen hml) ?_;rw[←hQ];exact aE (i+1,oo,l) Zw ⟨hlt,or,dmo hdm,kep hsm,acc aAK hdm,aAR.symm⟩ (by simp only[WkL,aD,jH,jI,jJ,go_sem,reduceIte,jA,jB,jC,jD,reduceCtorEq,jE,jF])
 have hc:decide ((i:Int)<(ts.length:Int))=false:=dcf;refine aue hc ?_;rw[←hQ];refine au ?_;rw[Kd or] at hl;refine aB hp (Hp.le_refl _) ⟨?_,hsm.le hd (Hp.le_refl _)⟩;subst hl;rcases aAK with⟨e,rfl⟩|⟨e,id,_,rfl,_⟩
 ·unfold nS;rw[e];rfl
 unfold nS;cases hm:(gH s 0 ts).map kV with
 |nil=>exact absurd hm e
 |cons a b=>rfl
end Go.Proofs.YtgbiopfghdilnaaGreatDoor
