/-
Texts of this proof,one behind the other. No conditions.
-/
import Derived.Test.YtgbiopfghdilnaaGreatDoorKg
import Derived.Test.YtgbiopfghdilnaaGreatDoorKd
import Derived.Test.YtgbiopfghdilnaaGreatDoorKl
import Derived.Test.YtgbiopfghdilnaaGreatDoorKe
open List renaming getD_eq_getElem?_getD→Ka,getElem?_eq_getElem→Kb,map_append→Kc,map_nil→Kd,getElem?_map→Ke,all_eq_true→Kg,getElem_mem→Kh,length_take→Ki,map_cons→Kj,mem_map→Kk
open Bool renaming and_eq_true→Kf
set_option linter.unusedSimpArgs false
set_option linter.unusedVariables false
set_option linter.unusedSectionVars false
set_option maxHeartbeats 8000000
open Nat renaming reduceAdd→jA,reduceSub→jB,reduceLT→jC,reduceLeDiff→jD,reduceEqDiff→jE
open Int renaming reduceToNat→jF,toNat_natCast→jG,natCast_add→jH,natCast_one→jI,natCast_zero→jJ
open List renaming length_map→jK,length_cons→jL,length_nil→jM,replicate_succ→jN,replicate_zero→jO,cons_append→jP,nil_append→jQ
namespace Go.Proofs.YtgbiopfghdilnaaGreatDoor
open Go.RowKit
theorem vJ{v:V}(h:v.aAE=true):v.loose.aAE=true:=by
 cases v with
 |sl k o es=>cases o<;>rfl
 |_=>first|exact h|rfl
end Go.Proofs.YtgbiopfghdilnaaGreatDoor
namespace Go.Proofs.YtgbiopfghdilnaaGreatDoor
open Go.RowKit Go.Sort
attribute [local irreducible] IntKind.wrap
set_option maxHeartbeats 4000000
theorem rf{k:Sh}{v:V}(h:v.fits k=true):v.loose.fits k=true:=by
 cases k with
 |leaf=>rw[mO] at h⊢;exact vJ h
 |agg n=>
  cases v with
  |agg cs=>
   simp only[V.fits,V.loose,Kf,decide_eq_true_eq,jK,Kg,Kk] at h⊢;refine⟨h.1,?_⟩;rintro x ⟨c,hc,rfl⟩;have:=h.2 c hc;split<;>first|rfl|exact this
  |_=>cases h
theorem qq{K:Ker}{k:Sh}{v:V}{cv:Value}{j:Nat}(hf:v.fits k=true)(hj:j<k.size)(h:VR K (v.cell j) cv):VR K (v.loose.cell j) cv:=by
 cases k with
 |leaf=>
  rw[mO] at hf;have hj0:j=0:=by simp[Sh.size] at hj;exact hj
  subst hj0;rw[jY hf] at h;rw[jY (vJ hf)];exact h.loose
 |agg n=>
  cases v with
  |agg cs=>
   simp only[V.fits,Kf,decide_eq_true_eq,Kg] at hf;simp only[Sh.size] at hj;have hjc:j<cs.length:=or;show VR K ((cs.map _).getD j V.undef) cv;have h:VR K (cs.getD j V.undef) cv:=h;have hl:=hf.2 (cs.getD j V.undef) (by rw[Ka,Kb hjc];exact Kh _);rw[Ka,Ke,Kb hjc];rw[Ka,Kb hjc] at h hl;simp only[Option.map_some,Option.getD_some] at h hl⊢;generalize cs[j]=c at h hl;cases c with
   |sl k o es=>have:=h.loose;cases o<;>exact this
   |_=>exact h
  |_=>cases hf
theorem yg{sl:List V}{h:Hp}{nx n:Nat}{k:Sh}{es:List V}(hn:h n=some (.arr k es)):tA ⟨sl,h,nx⟩ ⟨sl,h.set n (.arr k (es.map V.loose)),nx⟩:=by
 intro K0 K nx0 a r;refine⟨K,rfl,r.le,r.aAC,?_,r.live,r.nx,r.defers⟩;have hr:=r.rel;have hex:∀m b,(h.set n (.arr k (es.map V.loose))) m=some b→∃b',h m=some b':=fun m b e=>by
  simp only[Hp.set] at e;split at e
  ·rename_i hm;exact⟨_,by rw[hm];exact hn⟩
  exact⟨b,e⟩
 refine⟨fun m b e=>?_,fun m b e=>?_,fun m b e=>?_,fun m m' b b' e e'=>?_,hr.size⟩
 ·obtain⟨b',h'⟩:=hex m b e;exact hr.lt m b' h'
 ·obtain⟨b',h'⟩:=hex m b e;exact hr.base m b' h'
 ·simp only[Hp.set] at e;split at e
  ·rename_i hm;subst hm;cases e;have hb:=hr.blk m _ hn;cases hb with
   |arr _ _ c T hh hsz hi aAK hv=>
    refine .arr k _ c T hh (by rw[jK];exact hsz) hi (fun e he=>?_) fun i hi j hj=>?_
    ·obtain⟨x,hx,rfl⟩:=Kk.1 he;exact rf (aAK x hx)
    rw[jK] at hi;have h1:=hv i hi j hj;rw[Ka,Kb hi] at h1;rw[Ka (l:=es.map V.loose),Ke,Kb hi];exact qq (aAK _ (Kh _)) hj h1
  exact hr.blk m b e
 obtain⟨c,h1⟩:=hex m b e;obtain⟨c',h2⟩:=hex m' b' e';exact hr.inj m m' c c' h1 h2
theorem tj:aD Tryz.prog 39=some (LB.aFg .leaf 16):=Zz
theorem wm(l:Li)(h:Hp):aM Tryz.prog 38 [l.v] h (.int .i64 (if l.k=1 then 1 else if l.k=2 then 2 else 3)):=by
 refine aJ (fun L=>trivial) fun h' nx hh=>aB L.aVK fun hd=>?_;have hf:=Li.aAD l;obtain⟨T,hT,hk⟩:∃T,l.v= .agg T∧T.getD 0 (.tup [])= .int .i64 l.k:=⟨_,rfl,rfl⟩;rw[hT] at hf⊢;simp only[jL,jM,jA,jB,jN,jO,jP,jQ,V.undef];by_cases h1:l.k=1
 ·have g1:(l.k==1)=true:=bqt;refine aue (e3 hf hk g1) ?_;exact aC h' (leo hd) ⟨by rw[if_pos h1];rfl,rfl⟩
 have g1:(l.k==1)=false:=bqf;rw[if_neg h1];by_cases h2:l.k=2
 ·have g2:(l.k==2)=true:=bqt;refine aue (e4 hf hk g1 g2) ?_;exact aC h' (leo hd) ⟨by rw[if_pos h2];rfl,rfl⟩
 have g2:(l.k==2)=false:=bqf;refine aue (e4 hf hk g1 g2) ?_;exact aC h' (leo hd) ⟨by rw[if_neg h2];rfl,rfl⟩
def iH(s:List ByteArray):Nat→List Tr→List Nat
 |_,[]=>[]
 |i,t::r=>if (decide (t.x.size=0)||cD t.x s)=true then i::iH s (i+1) r else iH s (i+1) r
def pX(a:Am)(s:List ByteArray):List Nat:=iH s 0 a.l
theorem cn(s:List ByteArray):∀(a:List Tr) (i:Nat) (t:Tr),iH s i (a++[t])=iH s i a++(if (decide (t.x.size=0)||cD t.x s)=true then [i+a.length] else [])
 | [],i,t=>by simp[iH]
 |x::a,i,t=>by
  have e:i+1+a.length=i+(x::a).length:=by simp only[jL];omega
  simp only[jP,iH,cn s a (i+1) t,e];split<;>simp
theorem pD(s:List ByteArray):∀(a:List Tr) (i:Nat),(iH s i a).length≤a.length
 | [],i=>Nat.le_refl _
 |x::a,i=>by
  have:=pD s a (i+1);unfold iH;split<;>simp only[jL]<;>omega
theorem ut(a:Am)(ha:a.l.length≤1000000)(o:Own)(s:List ByteArray)(hs:s.length≤1000000000)(h:Hp):aM Tryz.prog 42 [a.v, .sl .leaf o (s.map V.str)] h (lst .leaf ((pX a s).map kV)):=by
 refine lU (fun L=>cZ (fun L=>bB (f:=kV) (fun _=>trivial) _) L) fun h' nx hh=>aB L.aVI fun hd=>?_;obtain⟨ar,ao,ts⟩:=a;have ha:ts.length≤1000000:=ha;simp only[jL,jM,jA,jB,jN,jO,jP,jQ,V.undef];have hd:aW h' nx:=hd;refine aue (e3 Am.v.eq_1 trs.eq_1 (@jK Tr V)) ?_
 refine aS (fun q:Nat×Own×List Nat=>aF 31 0 [(1, .sl .leaf o (s.map V.str)),(5, .sl .leaf q.2.1 (q.2.2.map kV)),(9, .sl (.agg 4) ao (ts.map Tr.v)),(10, .int .i64 ts.length),(11, .int .i64 q.1)])
  (fun q hp nx1=>q.1≤ts.length∧nx+1≤nx1∧aW hp nx1∧Hp.same nx h' hp∧Acc hp (nx+1) q.2.1 (q.2.2.map kV)∧q.2.2=iH s 0 (ts.take q.1))
  (fun q=>ts.length-q.1) (0, .nil,[]) ⟨Nat.zero_le _,Zw,by exact dmo hd,by exact kep Hp.same.aBb, .inl ⟨rfl,rfl⟩,by simp[iH]⟩ (by simp only[WkL,aF,jH,jI,jJ,jK,Kd,go_sem,reduceIte,jA,jB,jC,jD,reduceCtorEq,jE,jF]) ?_
 rintro⟨i,oo,l⟩ hp nx1 ⟨hi,hnx,hdm,hsm,aAz,hl⟩;generalize hQ:bK _ _ _ _ _=Q0;dsimp only at hi aAz hl;simp only[aF,go_sem,reduceIte,jA,jB,jC,jD,reduceCtorEq,jE,jF];rcases Nat.lt_or_ge i ts.length with hlt|hge
 ·have hc:decide ((i:Int)<(ts.length:Int))=true:=dct;have hg:=aN Tr.v ts i hlt;have hw:IntKind.i64.wrap ((i:Int)+1)=((i+1:Nat):Int):=wrp;have aAZ:iH s 0 (ts.take (i+1))=iH s 0 (ts.take i)++(if (decide (ts[i].x.size=0)||cD ts[i].x s)=true then [i] else []):=by
   rw[List.take_succ_eq_append_getElem hlt,cn,Ki,Nat.min_eq_left or,Nat.zero_add]
  have hlen:l.length≤1000000:=by
   rw[hl];have:=pD s (ts.take i) 0;rw[Ki] at this;omega
  rw[←hl] at aAZ;generalize ts[i]=T at hg aAZ;have hTf:=Tr.aAD T;have h0:=rI T.x;have C1:∀h:Hp,aM Tryz.prog 41 [.sl .leaf o (s.map V.str), .str T.x] h (.bool (cD T.x s)):=fun h=>gP o s hs T.x h;have hml:(l.map kV).length=l.length:=jK ..;by_cases ht:(decide (T.x.size=0)||cD T.x s)=true
  ·rw[if_pos ht] at aAZ;cases h1:decide (T.x.size=0) with
   |true=>
    refine aue (e12 hc hg hlt Tr.v.eq_1 h0 h1 hw (@jK Tr V) jG hTf hlen hml) ?_;rw[←hQ];exact aG (i+1,_,l++[i]) Zw ⟨hlt,or,dmo hdm,zw hsm aAz,by dsimp only;rw[Kc];exact Acc.new _ Zm or,aAZ.symm⟩ (by simp only[WkL,aF,jH,jI,jJ,Kc,Kj,Kd,kV,go_sem,reduceIte,jA,jB,jC,jD,reduceCtorEq,jE,jF])
   |false=>
    have h2:cD T.x s=true:=by rw[h1] at ht;simpa using ht
    rw[h2] at C1;refine aue (e12 hc hg hlt Tr.v.eq_1 h0 h1 hw (@jK Tr V) jG hTf hlen hml) ?_;rw[←hQ];exact aG (i+1,_,l++[i]) Zw ⟨hlt,or,dmo hdm,zw hsm aAz,by dsimp only;rw[Kc];exact Acc.new _ Zm or,aAZ.symm⟩ (by simp only[WkL,aF,jH,jI,jJ,Kc,Kj,Kd,kV,go_sem,reduceIte,jA,jB,jC,jD,reduceCtorEq,jE,jF])
  rw[if_neg ht,List.append_nil] at aAZ;simp only[Bool.or_eq_true,not_or,Bool.not_eq_true] at ht;have h1:=ht.1;rw[ht.2] at C1;refine aue (e12 hc hg hlt Tr.v.eq_1 h0 h1 hw (@jK Tr V) jG hTf hlen hml) ?_;rw[←hQ];exact aG (i+1,oo,l) Zw ⟨hlt,or,dmo hdm,kep hsm,acc aAz hdm,aAZ.symm⟩ (by simp only[WkL,aF,jH,jI,jJ,go_sem,reduceIte,jA,jB,jC,jD,reduceCtorEq,jE,jF])
 have hc:decide ((i:Int)<(ts.length:Int))=false:=dcf;refine aue hc ?_;rw[←hQ];refine au ?_;rw[List.take_of_length_le or] at hl;refine aC hp (Hp.le_refl _) ⟨?_,hsm.le hd (Hp.le_refl _)⟩;subst hl;rcases aAz with⟨e,rfl⟩|⟨e,id,_,rfl,_⟩
 ·unfold pX;rw[e];rfl
 unfold pX;cases hm:(iH s 0 ts).map kV with
 |nil=>exact absurd hm e
 |cons a b=>rfl
end Go.Proofs.YtgbiopfghdilnaaGreatDoor
