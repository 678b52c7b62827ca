/-
Texts of this proof,one behind the other. No conditions.
-/
import Derived.Test.YtemjhgboialjpaaGreatKd
import Derived.Test.YtemjhgboialjpaaGreatKdb
import Derived.WalkKit
open Nat renaming reduceAdd→jA,reduceSub→jB,reduceLT→jC,reduceLeDiff→jD,reduceEqDiff→jE
open Int renaming reduceToNat→jF,toNat_natCast→jG,natCast_add→jH,natCast_one→jI,natCast_zero→jJ
open List renaming length_map→jK,length_cons→jL,length_nil→jM,replicate_succ→jN,replicate_zero→jO,cons_append→jP,nil_append→jQ
set_option linter.unusedSimpArgs false
set_option linter.unusedVariables false
set_option linter.unusedSectionVars false
namespace Go.Proofs.YtemjhgboialjpaaGreat
open Go.RowKit
def lU(a b:Int):Int:=if a<b then-1 else if b<a then 1 else 0
theorem tY{P:Program}{f:Nat}(hL:aH P f=some LB.NaNInt)(a:Int)(h:Hp):bH P f [.int .i64 a] h (.bool false):=by
 refine aT (fun L=>trivial) fun h' nx hh=>aF hL fun hd=>?_
 simp only[jL,jM,jA,jB,jN,jO,jP,jQ,V.undef]
 refine wl ?_
 refine bN (aD h' (Hp.le_refl _) ⟨?_,rfl⟩)
 simp[bne]
theorem sB{P:Program}{f f0:Nat}(hL:aH P f=some (LB.CmpInt f0))(hL0:aH P f0=some LB.NaNInt)(a b:Int)(h:Hp):bH P f [.int .i64 a, .int .i64 b] h (.int .i64 (lU a b)):=by
 refine aT (fun L=>trivial) fun h' nx hh=>aF hL fun hd=>?_
 simp only[jL,jM,jA,jB,jN,jO,jP,jQ,V.undef]
 refine wl ?_
 refine bA (tY hL0 a _) rfl (aV _) ?_
 simp only[ go_sem,reduceIte,jA,jB,jC,jD,reduceCtorEq,jE,jF]
 refine wl ?_
 refine bA (tY hL0 b _) rfl (aV _) ?_
 simp only[ go_sem,reduceIte,jA,jB,jC,jD,reduceCtorEq,jE,jF]
 refine wl ?_
 refine cA _ rfl (fun hc=>?_) (fun hc=>?_)
 ·cases hc
 refine wl ?_
 refine cA _ rfl (fun hc=>?_) (fun hc=>?_)
 ·cases hc
 refine wl ?_
 refine cA _ rfl (fun hc=>?_) (fun hc=>?_)
 ·refine wl ?_
  refine bN ?_
  repeat (first|with_reducible refine eY ?_|with_reducible refine eC ?_|with_reducible refine eS ?_|with_reducible refine dY ?_)
  refine aD h' (Hp.le_refl _) ⟨?_,rfl⟩
  have:a<b:=by simpa using hc
  simp only[lU,if_pos this,go_sem,reduceIte,jA,jB,jC,jD,reduceCtorEq,jE,jF]
 refine wl ?_
 have h1:¬a<b:=by simpa using hc
 refine cA _ rfl (fun hc2=>?_) (fun hc2=>?_)
 ·refine wl ?_
  refine bN ?_
  repeat (first|with_reducible refine eY ?_|with_reducible refine eC ?_|with_reducible refine eS ?_|with_reducible refine dY ?_)
  refine aD h' (Hp.le_refl _) ⟨?_,rfl⟩
  have:b<a:=by simpa using hc2
  simp only[lU,if_neg h1,if_pos this,go_sem,reduceIte,jA,jB,jC,jD,reduceCtorEq,jE,jF]
 refine wl ?_
 have h2:¬b<a:=by simpa using hc2
 refine bN (aD h' (Hp.le_refl _) ⟨?_,rfl⟩)
 simp only[lU,if_neg h1,if_neg h2,go_sem,reduceIte,jA,jB,jC,jD,reduceCtorEq,jE,jF]
def orI:List Int→Int
 | []=>0
 |x::l=>if x=0 then orI l else x
theorem aBj{P:Program}{f:Nat}(hL:aH P f=some LB.OrInt)(own:Own)(l:List Int)(hl:l.length≤1000000000)(h:Hp):bH P f [.sl .leaf own (l.map (V.int .i64))] h (.int .i64 (orI l)):=by
 refine aT (fun L=>trivial) fun h' nx hh=>aF hL fun hd=>?_
 simp only[jL,jM,jA,jB,jN,jO,jP,jQ,V.undef]
 refine wle trivial ?_
 refine kM (fun i:Nat=>i≤l.length∧orI l=orI (l.drop i)) (fun i=>⟨aC 18 0 [(0, .sl .leaf own (l.map (V.int .i64))),(3, .int .i64 0),(6, .sl .leaf own (l.map (V.int .i64))),(7, .int .i64 l.length),(8, .int .i64 i)],h',nx⟩) (fun i=>l.length-i) 0 ⟨Nat.zero_le _,by simp⟩ ?_ ?_
 ·refine pH (by simp only[WkL,aC,jH,jI,jJ,go_sem,reduceIte,jA,jB,jC,jD,reduceCtorEq,jE,jF]) ?_ ?_
  ·exact Hp.le_refl _
  omega
 rintro i ⟨hi,hno⟩
 simp only[aC,go_sem,reduceIte,jA,jB,jC,jD,reduceCtorEq,jE,jF]
 refine wl ?_
 refine cA _ rfl (fun hc=>?_) (fun hc=>?_)
 ·have hlt:i<l.length:=by simpa using hc
  have hg:=aO (V.int .i64) l i hlt
  refine wle hg ?_
  rw[List.drop_eq_getElem_cons hlt] at hno
  refine cA _ rfl (fun hc=>?_) (fun hc=>?_)
  ·refine wl ?_
   refine bN ?_
   repeat (first|with_reducible refine eY ?_|with_reducible refine eC ?_|with_reducible refine eS ?_|with_reducible refine dY ?_)
   refine aD h' (Hp.le_refl _) ⟨?_,rfl⟩
   have:l[i]≠0:=by simpa using hc
   simp only[hno,orI,if_neg this,go_sem,reduceIte,jA,jB,jC,jD,reduceCtorEq,jE,jF]
  refine wl ?_
  have:l[i]=0:=by simpa using hc
  refine fL (i+1) ⟨by omega,by rw[hno];simp[orI,this]⟩ (by omega) ?_
  rw[mY (by omega) (by omega)]
  refine pH (by simp only[WkL,aC,jH,jI,jJ,go_sem,reduceIte,jA,jB,jC,jD,reduceCtorEq,jE,jF]) ?_ ?_
  ·exact Hp.le_refl _
  omega
 have hge:i=l.length:=by have:¬i<l.length:=by simpa using hc
                         omega
 refine kN ?_
 repeat (first|with_reducible refine iL ?_|with_reducible refine gW ?_|with_reducible refine dZ ?_|with_reducible refine cM (by decide) ?_|with_reducible refine eD ?_|with_reducible refine bM ?_)
 refine wl ?_
 refine bN (aD h' (Hp.le_refl _) ⟨?_,rfl⟩)
 simp only[go_sem,reduceIte,jA,jB,jC,jD,reduceCtorEq,jE,jF]
 rw[hno,hge,List.drop_length];rfl
section
variable{P:Program}{k:Sh}{α:Type}(e:α→V)(hfit:∀x,(e x).fits k=true)
include hfit
end
def aDR(k:Sh)(own:Own)(es:List V)(nx:Nat)(h:Hp)(v:V)(h':Hp):Prop:=(own= .nil∧v= .sl k .nil []∧h'=h)∨(own≠ .nil∧∃id,nx≤id∧v= .sl k (.tok id) es∧h'=h.set id .tip)
theorem yJ{P:Program}{k:Sh}{f bs:Nat}(hL:aH P f=some (LB.Clone k bs))(hbs:bs≤140737)(own:Own)(es:List V)(hl:es.length≤1000000000)(hn:own= .nil→es=[])(h:Hp)(nx:Nat):
 aP P f [.sl k own es] h nx fun v h' _=>aDR k own es nx h v h':=by
 refine aF hL fun hd=>?_
 simp only[jL,jM,jA,jB,jN,jO,jP,jQ,V.undef]
 refine wl ?_
 by_cases ho:own= .nil
 ·subst ho
  refine cA _ rfl (fun hc=>?_) (fun hc=>?_)
  ·refine wl ?_
   refine bN ?_
   repeat (first|with_reducible refine eY ?_|with_reducible refine eC ?_|with_reducible refine eS ?_|with_reducible refine dY ?_)
   refine aD h (Hp.le_refl _) (.inl ⟨rfl,?_,rfl⟩)
   simp only[go_sem,reduceIte,jA,jB,jC,jD,reduceCtorEq,jE,jF]
  cases hc
 refine cA _ rfl (fun hc=>?_) (fun hc=>?_)
 ·exact absurd (by simpa using hc) ho
 have hb1:es.length*bs≤140737488355328:=lQ hl hbs
 repeat (first|with_reducible refine dR ?_|with_reducible refine cU ?_|with_reducible refine fC ?_|with_reducible refine bM ?_|with_reducible refine bI ?_|with_reducible refine dS ?_|(refine fE rfl (by simp only[dW,hb1,go_sem,reduceIte,jA,jB,jC,jD,reduceCtorEq,jE,jF];try omega) ?_;simp only[dW,hb1,go_sem,reduceIte,jA,jB,jC,jD,reduceCtorEq,jE,jF])|(with_reducible refine dN ?_))
 refine bN (aD (h.set (nx+1) .tip) ?_ (.inr ⟨ho,nx+1,by omega,?_,rfl⟩))
 ·intro m b e
  have hm:∀b,h m=some b→m<nx:=fun b hb=>hd m b hb
  simp only[Hp.set_app,Hp.del_app] at e⊢
  split at e
  ·rename_i e1;rw[if_pos e1];exact e
  rename_i e1
  have:=hm _ e
  rw[if_neg e1,if_neg (by omega),if_neg (by omega)];exact e
 simp only[go_sem,reduceIte,jA,jB,jC,jD,reduceCtorEq,jE,jF]
theorem aAr{P:Program}{k:Sh}{f bs:Nat}(hL:aH P f=some (LB.Clone k bs))(hbs:bs≤140737)(own:Own)(es:List V)(hl:es.length≤1000000000)(hn:own= .nil→es=[])(hnm:∀L,bQ L es)(h:Hp):
 bH P f [.sl k own es] h (V.sl k own es).loose:=by
 refine iC (fun L=>by cases own<;>simp[V.loose,V.names,hnm L,bQ]) fun h' nx hh=>?_
 have c:=yJ hL hbs own es hl hn h' nx
 refine⟨c.1,fun K cargs hlv hr hv=>((c.mono (R':=fun v' h'' _=>v'.loose=(V.sl k own es).loose∧h'.le h'') ?_).2 K cargs hlv hr hv)⟩
 rintro v h'' nx' hnx (⟨rfl,rfl,rfl⟩|⟨ho,id,hid,rfl,rfl⟩)
 ·have he:=hn rfl
  subst he
  exact⟨rfl,Hp.le_refl _⟩
 refine⟨(by cases own<;>first|exact absurd rfl ho|rfl),fT (Hp.le_refl _) (aX.none (fun m b hm=>hlv m (hr.lt m b hm)) hid) _⟩
end Go.Proofs.YtemjhgboialjpaaGreat
namespace Go.Proofs.YtemjhgboialjpaaGreat
open Go.RowKit
theorem mU{K:Ker}{h:Hp}(hr:Rel K h){n a:Nat}{k:Sh}{es:List V}{off len:Nat}{cv:Value}(hn:h n=some (.arr k es))(ha:¬K.live a)(hb0:off+len≤es.length)(hv:VR K (.rs n k off len) cv):
 ∃K',K'.w=K.w∧K.le K'∧(∀m,K'.live m→K.live m∨m=a)∧VR K' (.sl k .free ((es.drop off).take len)) cv∧Rel K' (h.del n):=by
 have hb:=hr.blk n _ hn
 cases hb with
 |arr _ _ c T hh hcs himm hfit hcv=>
  cases hv with
  |rs _ _ _ _ cap hl hcap hm=>
   obtain⟨T',m,hm1,hm2⟩:=hm
   have hcm:m=c.size:=by simp[World.shape?,hh] at hm1;exact hm1.2.symm
   subst hcm
   have hblk:K.mu n<K.w.heap.size:=by
    rcases Nat.lt_or_ge (K.mu n) K.w.heap.size with hlt|hge
    ·exact hlt
    rw[Array.getElem?_eq_none hge] at hh;exact absurd hh (by simp)
   have hle:K.le (K.claim a (K.mu n) (es.length*k.size)):=K.le_claim ha (by rw[himm];exact Nat.zero_le _)
   have hmu:(K.claim a (K.mu n) (es.length*k.size)).mu a=K.mu n:=by simp[Ker.claim]
   have hrel:Rel (K.claim a (K.mu n) (es.length*k.size)) ((h.del n).set a .tip):=hr.claim hn ha (by rw[himm];exact Nat.zero_le _) (.tip c T (by rw[hmu];exact hh) (by simp[Ker.claim]) (by simp only[Ker.claim,if_true];exact hcs))
   have hlen:((es.drop off).take len).length=len:=by simp;omega
   have hsz:(off+len)*k.size≤es.length*k.size:=Nat.mul_le_mul_right _ hb0
   rw[Nat.add_mul] at hsz
   have hget:∀i,i<len→((es.drop off).take len).getD i V.undef=es.getD (off+i) V.undef:=fun i hi=>by
    rw[List.getD_eq_getElem?_getD,List.getD_eq_getElem?_getD,List.getElem?_take_of_lt hi,List.getElem?_drop]
   refine⟨K.claim a (K.mu n) (es.length*k.size),rfl,hle,fun m hm=>hm.symm,?_,hrel.weaken fun m b e=>?_⟩
   ·have:=VR.sl (K:=K.claim a (K.mu n) (es.length*k.size)) k .free ((es.drop off).take len) (K.mu n) (off*k.size) cap (fun j=>c.getD (off*k.size+j) Go.undef) hblk (fun e he=>hfit e (List.mem_of_mem_drop (List.mem_of_mem_take he)))
     (fun j hj=>by
       rw[hlen] at hj
       show K.w.cell? _=_
       simp only[World.cell?,hh]
       rw[Array.getD_eq_getD_getElem?,Array.getElem?_eq_getElem (by omega)]
       rfl)
     (fun j hj=> .inr (by rw[hlen] at hj;simp only[Ker.claim,if_true];omega))
     (fun i hi j hj=>by
       rw[hlen] at hi
       rw[hget i hi]
       have:=(hcv (off+i) (by omega) j hj).mono hle
       rwa [Nat.add_mul,Nat.add_assoc] at this) (by rw[hlen];exact hcap) (by simp) (by simp)
     (fun m hm=>by cases hm)
    rw[hlen] at this
    exact this
   unfold Hp.del at e
   unfold Hp.set Hp.del
   by_cases e1:m=n
   ·rw[if_pos e1] at e;cases e
   rw[if_neg e1] at e
   have hma:m≠a:=fun e2=>ha (e2▸hr.lt m b e)
   rw[if_neg hma,if_neg e1];exact e
theorem oG{P:Program}{f:FuncId}{args:List V}{h:Hp}{nx n:Nat}{k:Sh}{G:List V→Prop}
 (c:aP P f args h nx fun v h' _=>∃off len es,v= .rs n k off len∧off+len≤es.length∧h'=h.set n (.arr k es)∧G ((es.drop off).take len)):
 aP P f args h nx fun v h' _=>∃es,v= .sl k .free es∧h'=h.del n∧G es:=by
 refine⟨c.1,fun K cargs hl hr hv=>(c.2 K cargs hl hr hv).mono ?_⟩
 rintro e w' ⟨K',v,cv,h',nx',rfl,he,hle,hvr,hrel,hlv,hnx,off,len,es,rfl,hb,rfl,hG⟩
 have hfr:¬K'.live nx':=fun hh=>Nat.lt_irrefl _ (hlv nx' hh).1
 have hset:(h.set n (.arr k es)) n=some (.arr k es):=by simp[Hp.set]
 obtain⟨K'',q1,q2,q3,q4,q5⟩:=mU hrel hset hfr hb hvr
 have hh:(h.set n (.arr k es)).del n=h.del n:=by
  funext x
  unfold Hp.set Hp.del
  by_cases e1:x=n
  ·simp[e1]
  simp[e1]
 rw[hh] at q5
 refine⟨K'',_,cv,_,nx'+1,q1,he,hle.trans q2,q4,q5,fun m hm=>?_,by omega,_,rfl,rfl,hG⟩
 rcases q3 m hm with hm|rfl
 ·exact⟨by have:=(hlv m hm).1;omega,(hlv m hm).2⟩
 exact⟨by omega, .inr hnx⟩
def aEl(k:Sh)(m:Nat)(l:List V):V:=if l.isEmpty=true then .sl k .nil [] else .rs m k 0 l.length
structure aEw(h:Hp)(O:Nat)(k:Sh)(ν:Nat→Nat)(ls:List (List V))(j:Nat)(es:List V):Prop where
 blk:h O=some (.arr .leaf es)
 len:es.length=ls.length
 old:∀i (hi:i<ls.length) (hi':i<es.length),i<j→es[i]=lst k ls[i]
 new:∀i (hi:i<ls.length) (hi':i<es.length),j≤i→es[i]=aEl k (ν i) ls[i]
 mem:∀i (hi:i<ls.length),j≤i→ls[i]≠ []→h (ν i)=some (.arr k ls[i])∧ν i≠O
 apart:∀i i' (hi:i<ls.length) (hi':i'<ls.length),j≤i→i<i'→ls[i]≠ []→ls[i']≠ []→ν i≠ν i'
def V.loose2:V→V
 | .tup vs=> .tup (vs.map V.loose)
 |v=>v.loose
theorem VR.loose2{K:Ker}{v:V}{cv:Value}(r:VR K v cv):VR K v.loose2 cv:=by
 cases v with
 |tup vs=>
  cases r with
  |tup _ ccs hl hv=>
   refine .tup _ ccs (by simpa using hl) fun i hi=>?_
   have hi':i<vs.length:=by simpa using hi
   have:=hv i hi'
   simp only[List.getD_eq_getElem?_getD,List.getElem?_map,List.getElem?_eq_getElem hi',Option.map_some,Option.getD_some] at this⊢
   exact this.loose
 |_=>exact r.loose
theorem aP.conv2{P:Program}{f:FuncId}{args:List V}{h:Hp}{nx:Nat}{R R':V→Hp→Nat→Prop}(c:aP P f args h nx R)(hc:∀v h' nx',nx≤nx'→aX h' nx'→R v h' nx'→∃h2,h2.le h'∧R' v.loose2 h2 nx'):aP P f args h nx R':=by
 refine⟨c.1,fun K cargs hl hr hv=>(c.2 K cargs hl hr hv).mono ?_⟩
 rintro e w' ⟨K',v,cv,h',nx',rfl,he,hle,hvr,hrel,hlv,hnx,hR⟩
 obtain⟨h2,q1,q2⟩:=hc v h' nx' hnx (fun m b hm=>(hlv m (hrel.lt m b hm)).1) hR
 exact⟨K',v.loose2,cv,h2,nx',rfl,he,hle,hvr.loose2,hrel.weaken q1,hlv,hnx,q2⟩
theorem qL{P:Program}{f:FuncId}{args:List V}{h:Hp}{v:V}(hv:∀L,v.names L)(hc:∀h' nx,h.has h'→aP P f args h' nx fun v' h'' _=>v'.loose2=v∧h'.le h''):bH P f args h v:=
 aT hv fun h' nx hh=>(hc h' nx hh).conv2 fun v' h'' nx' _ _ hq=>⟨h',hq.2,hq.1,rfl⟩
theorem cW.set{K:Ker}{sl:List V}{a:Act}(r:cW K sl a){t:Nat}{v:V}(hv:VR K v (a.tmps.getD t Go.undef)):cW K (sl.set t v) a:=by
 refine⟨by rw[List.length_set];exact r.1,fun u=>?_⟩
 by_cases e:u=t
 ·subst e
  by_cases hl:u<sl.length
  ·rw[List.getD_eq_getElem?_getD,List.getElem?_set_self hl];exact hv
  have:=r.2 u
  rw[List.set_eq_of_length_le (by omega)];exact this
 have:=r.2 u
 rw[List.getD_eq_getElem?_getD] at this⊢
 rw[List.getElem?_set_ne (fun h=>e h.symm)];exact this
theorem gU{sl:List V}{h:Hp}{nx t n off len:Nat}{k:Sh}{es:List V}(ht:sl.getD t V.undef= .rs n k off len)(hn:h n=some (.arr k es))(hb:off+len≤es.length):
 oI ⟨sl,h,nx⟩ ⟨sl.set t (.sl k .free ((es.drop off).take len)),h.del n,nx+1⟩:=by
 intro K0 K nx0 a r
 have hv:=r.slots.2 t
 rw[ht] at hv
 have hfr:¬K.live nx:=fun hh=>Nat.lt_irrefl _ (r.live nx hh).1
 obtain⟨K',q1,q2,q3,q4,q5⟩:=mU r.rel hn hfr hb hv
 refine⟨K',q1,r.le.trans q2,(r.slots.mono q2).set q4,q5,fun m hm=>?_,Nat.le_succ_of_le r.nx,by rw[q1];exact r.defers⟩
 rcases q3 m hm with hm|rfl
 ·have:=r.live m hm;exact⟨Nat.lt_succ_of_lt this.1,this.2⟩
 exact⟨Nat.lt_succ_self _, .inr r.nx⟩
end Go.Proofs.YtemjhgboialjpaaGreat
namespace Go.Proofs.YtemjhgboialjpaaGreat
inductive iH{α:Type}(E:α→α→Prop):α→α→Prop where
 |one {a b:α}:E a b→iH E a b
 |cons {a b c:α}:E a b→iH E b c→iH E a c
namespace iH
variable{α:Type}{E F:α→α→Prop}
theorem trans{a b c:α}(h:iH E a b)(k:iH E b c):iH E a c:=by
 induction h with
 |one e=>exact .cons e k
 |cons e _ ih=>exact .cons e (ih k)
theorem snoc{a b c:α}(h:iH E a b)(e:E b c):iH E a c:=h.trans (.one e)
theorem mono(hs:∀a b,E a b→F a b){a b:α}(h:iH E a b):iH F a b:=by
 induction h with
 |one e=>exact .one (hs _ _ e)
 |cons e _ ih=>exact .cons (hs _ _ e) ih
theorem last{a b:α}(h:iH E a b):∃c,E c b∧(c=a∨iH E a c):=by
 induction h with
 |one e=>exact⟨_,e, .inl rfl⟩
 |cons e k ih=>
  obtain⟨c,hc,hh⟩:=ih
  rcases hh with rfl|hh
  ·exact⟨_,hc, .inr (.one e)⟩
  exact⟨c,hc, .inr (.cons e hh)⟩
theorem closed{S:α→Prop}(hS:∀a b,S a→E a b→S b){a b:α}(h:iH E a b)(ha:S a):S b:=by
 induction h with
 |one e=>exact hS _ _ ha e
 |cons e _ ih=>exact ih (hS _ _ ha e)
end iH
structure aDx(n:Nat)(E:List (Nat×Nat))(i:Nat)(cB:List Int)(row:List Nat):Prop where
 len:cB.length=n
 nd:row.Nodup
 lt:∀x∈row,x<n
 cnt:∀j,j<n→cB.getD j 0=((E.filter fun e=>decide (e.2=j)&& !((row.take i).contains e.1)).length:Int)
 iff:∀j,j<n→(j∈row↔cB.getD j 0=0)
 back:∀m (h:m<row.length),∀y,(y,row[m])∈E→y∈row.take m
structure KIn(n:Nat)(E D R:List (Nat×Nat))(i k:Nat)(cB:List Int)(row:List Nat):Prop where
 eq:E=D++R
 hk:row[i]?=some k
 len:cB.length=n
 nd:row.Nodup
 lt:∀x∈row,x<n
 cnt:∀j,j<n→cB.getD j 0+((D.filter fun e=>decide (e.2=j)&&decide (e.1=k)).length:Int)=((E.filter fun e=>decide (e.2=j)&& !((row.take i).contains e.1)).length:Int)
 iff:∀j,j<n→(j∈row↔cB.getD j 0=0)
 back:∀m (h:m<row.length),∀y,(y,row[m])∈E→y∈row.take m
theorem aDx.start{n:Nat}{E:List (Nat×Nat)}{i k:Nat}{cB:List Int}{row:List Nat}(K:aDx n E i cB row)(hk:row[i]?=some k):KIn n E [] E i k cB row:=
 ⟨rfl,hk,K.len,K.nd,K.lt,fun j hj=>by simpa using K.cnt j hj,K.iff,K.back⟩
theorem zM{row:List Nat}{i k:Nat}(hn:row.Nodup)(hk:row[i]?=some k):k∉row.take i:=by
 intro h
 obtain⟨m,hm,e⟩:=List.getElem_of_mem h
 obtain⟨hi,e2⟩:=List.getElem?_eq_some_iff.1 hk
 have hm':m<i∧m<row.length:=by simp at hm;omega
 rw[List.getElem_take] at e
 have hp:=List.pairwise_iff_getElem.1 hn m i hm'.2 hi hm'.1
 exact hp (e.trans e2.symm)
theorem aCF(l:List Int)(i j:Nat)(v:Int)(h:i<l.length):(l.set i v).getD j 0=if j=i then v else l.getD j 0:=by
 rw[List.getD_eq_getElem?_getD,List.getD_eq_getElem?_getD]
 by_cases e:j=i
 ·subst e;simp[h]
 rw[List.getElem?_set_ne (by omega)];simp[e]
theorem KIn.one{n:Nat}{E D R:List (Nat×Nat)}{i k x:Nat}{cB:List Int}{row:List Nat}(K:KIn n E D ((k,x)::R) i k cB row)(hx:x<n):
 1≤cB.getD x 0∧KIn n E (D++[(k,x)]) R i k (cB.set x (cB.getD x 0-1)) (if cB.getD x 0-1=0 then row++[x] else row):=by
 obtain⟨hi,hik⟩:=List.getElem?_eq_some_iff.1 K.hk
 have hnk:=zM K.nd K.hk
 have hcx:=K.cnt x hx
 --ways to x from k are among those that count
 have sub:∀l:List (Nat×Nat),((l.filter fun e=>decide (e.2=x)&&decide (e.1=k)).length:Int)≤((l.filter fun e=>decide (e.2=x)&& !((row.take i).contains e.1)).length:Int):=by
  intro l
  induction l with
  |nil=>simp
  |cons e l ih=>
   simp only[List.filter_cons,List.contains_eq_mem,List.mem_append,List.mem_singleton] at ih⊢
   by_cases h1:e.2=x
   ·by_cases h2:e.1=k
    ·simp only[h1,h2,hnk,List.contains_eq_mem,decide_true,decide_false,Bool.not_false,Bool.and_self,if_true,List.length_cons]
     omega
    simp only[h1,h2,decide_true,decide_false,Bool.and_false,Bool.false_eq_true,if_false,Bool.true_and]
    split<;>(try simp only[List.length_cons])<;>omega
   simp only[h1,decide_false,Bool.false_and,Bool.false_eq_true,if_false]
   exact ih
 have s1:=sub E
 have s2:((E.filter fun e=>decide (e.2=x)&&decide (e.1=k)).length:Int)=((D.filter fun e=>decide (e.2=x)&&decide (e.1=k)).length:Int)+1+((R.filter fun e=>decide (e.2=x)&&decide (e.1=k)).length:Int):=by
  rw[K.eq,List.filter_append,List.filter_cons]
  simp
  omega
 have hge:1≤cB.getD x 0:=by omega
 refine⟨hge,?_⟩
 have hxr:x∉row:=fun h=>by have:=(K.iff x hx).1 h;omega
 have hset:∀j,(cB.set x (cB.getD x 0-1)).getD j 0=if j=x then cB.getD x 0-1 else cB.getD j 0:=fun j=>aCF _ _ _ _ (by rw[K.len];exact hx)
 have hcnt:∀row':List Nat,row'.take i=row.take i→∀j,j<n→(cB.set x (cB.getD x 0-1)).getD j 0+(((D++[(k,x)]).filter fun e=>decide (e.2=j)&&decide (e.1=k)).length:Int)=((E.filter fun e=>decide (e.2=j)&& !((row'.take i).contains e.1)).length:Int):=by
  intro row' hr j hj
  rw[hr,hset,←K.cnt j hj,List.filter_append]
  by_cases e:j=x
  ·subst e;simp;omega
  have e':¬x=j:=fun h=>e h.symm
  simp[e,e']
 split
 ·rename_i h0
  have htk:(row++[x]).take i=row.take i:=by rw[List.take_append_of_le_length (by omega)]
  refine⟨by rw[K.eq];simp,by rw[List.getElem?_append_left hi];exact K.hk,by simp[K.len],?_,?_,hcnt _ htk,?_,?_⟩
  ·exact List.nodup_append.2 ⟨K.nd,by simp,fun a ha b hb=>by
    rintro rfl
    simp at hb
    subst hb
    exact hxr ha⟩
  ·intro y hy
   rcases List.mem_append.1 hy with h|h
   ·exact K.lt y h
   simp at h;omega
  ·intro j hj
   rw[hset,List.mem_append,List.mem_singleton]
   by_cases e:j=x
   ·simp only[e,or_true,if_true,true_iff];exact h0
   simp only[e,or_false,if_false];exact K.iff j hj
  intro m hm y hy
  by_cases hml:m<row.length
  ·rw[List.getElem_append_left hml] at hy
   rw[List.take_append_of_le_length (by omega)]
   exact K.back m hml y hy
  have hme:m=row.length:=by simp at hm;omega
  subst hme
  have hyx:(y,x)∈E:=by simpa using hy
  rw[List.take_append_of_le_length (by omega),List.take_length]
  --all ways to x that count come from k
  refine Classical.byContradiction fun hny=>?_
  have hyk:y≠k:=fun e=>hny (by rw[e,←hik];exact List.getElem_mem hi)
  have hyt:y∉row.take i:=fun h=>hny (List.mem_of_mem_take h)
  have strict:∀l:List (Nat×Nat),(y,x)∈l→((l.filter fun e=>decide (e.2=x)&&decide (e.1=k)).length:Int)+1≤((l.filter fun e=>decide (e.2=x)&& !((row.take i).contains e.1)).length:Int):=by
   intro l hl
   obtain⟨a,b,hab⟩:=List.append_of_mem hl
   subst hab
   have subg:∀l:List (Nat×Nat),((l.filter fun e=>decide (e.2=x)&&decide (e.1=k)).length:Int)≤((l.filter fun e=>decide (e.2=x)&& !((row.take i).contains e.1)).length:Int):=sub
   have ha:=subg a
   have hb:=subg b
   rw[List.filter_append,List.filter_append,List.filter_cons,List.filter_cons]
   simp only[hyk,hyt,List.contains_eq_mem,decide_true,decide_false,Bool.not_false,Bool.and_self,Bool.and_false,Bool.false_eq_true,if_false,if_true,List.length_append,List.length_cons] at ha hb⊢
   omega
  have:=strict E hyx
  omega
 rename_i h0
 refine⟨by rw[K.eq];simp,K.hk,by simp[K.len],K.nd,K.lt,hcnt _ rfl,?_,K.back⟩
 intro j hj
 rw[hset]
 by_cases e:j=x
 ·simp only[e,if_true,hxr,false_iff];exact h0
 simp only[e,if_false];exact K.iff j hj
theorem aDx.first{n:Nat}{E:List (Nat×Nat)}{cB:List Int}(hl:cB.length=n)(hc:∀j,j<n→cB.getD j 0=((E.filter fun e=>decide (e.2=j)).length:Int)):
 aDx n E 0 cB ((List.range n).filter fun j=>decide (cB.getD j 0=0)):=by
 refine⟨hl,List.nodup_range.filter _,fun x hx=>by simpa using(List.mem_filter.1 hx).1,fun j hj=>by simpa using hc j hj,fun j hj=>by simp[hj],?_⟩
 intro m hm y hy
 exfalso
 have hmem:((List.range n).filter fun j=>decide (cB.getD j 0=0))[m]∈(List.range n).filter fun j=>decide (cB.getD j 0=0):=List.getElem_mem hm
 generalize ((List.range n).filter fun j=>decide (cB.getD j 0=0))[m]=z at hmem hy
 obtain⟨h1,h2⟩:=List.mem_filter.1 hmem
 have h1':z<n:=by simpa using h1
 have h2':cB.getD z 0=0:=by simpa using h2
 rw[hc z h1'] at h2'
 have hne:(E.filter fun e=>decide (e.2=z))≠ []:=List.ne_nil_of_mem (List.mem_filter.2 ⟨hy,by simp⟩)
 have:=List.length_pos_iff.2 hne
 omega
def Via(E:Nat→Nat→Prop):Nat→Nat→Nat→Prop
 |0,i,j=>E i j
 |k+1,i,j=>Via E k i j∨(Via E k i k∧Via E k k j)
theorem Via.up{E:Nat→Nat→Prop}:∀{k:Nat} {i j:Nat},E i j→Via E k i j
 |0,_,_,h=>h
 |_+1,_,_,h=> .inl (Via.up h)
theorem Via.sound{E:Nat→Nat→Prop}:∀(k:Nat) {i j:Nat},Via E k i j→iH E i j
 |0,_,_,h=> .one h
 |k+1,_,_,h=>by
  rcases h with h|⟨h1,h2⟩
  ·exact Via.sound k h
  exact(Via.sound k h1).trans (Via.sound k h2)
theorem Via.join{E:Nat→Nat→Prop}:∀(k:Nat) {i l j:Nat},l<k→Via E k i l→Via E k l j→Via E k i j
 |0,_,_,_,hl,_,_=>by omega
 |k+1,i,l,j,hl,h1,h2=>by
  by_cases e:l=k
  ·subst e
   have a:Via E l i l:=by rcases h1 with h|⟨h,_⟩<;>exact h
   have b:Via E l l j:=by rcases h2 with h|⟨_,h⟩<;>exact h
   exact .inr ⟨a,b⟩
  have hl':l<k:=by omega
  rcases h1 with h1|⟨h1,h1'⟩<;>rcases h2 with h2|⟨h2,h2'⟩
  ·exact .inl (Via.join k hl' h1 h2)
  ·exact .inr ⟨Via.join k hl' h1 h2,h2'⟩
  ·exact .inr ⟨h1,Via.join k hl' h1' h2⟩
  exact .inr ⟨h1,h2'⟩
theorem Via.iff{E:Nat→Nat→Prop}{n:Nat}(hE:∀i j,E i j→i<n∧j<n)(i j:Nat):Via E n i j↔iH E i j:=by
 constructor
 ·exact Via.sound n
 intro h
 induction h with
 |one e=>exact Via.up e
 |cons e _ ih=>exact Via.join n (hE _ _ e).2 (Via.up e) ih
structure Bfs(n:Nat)(E:Nat→Nat→Prop)(a b:Nat)(seen:List Bool)(todo:List Nat):Prop where
 len:seen.length=n
 lt:∀x∈todo,x<n
 from':∀x,(x∈todo∨seen.getD x false=true)→x=a∨iH E a x
 start:a∈todo∨(a≠b∧∀y,E a y→seen.getD y false=true)
 on:∀x,seen.getD x false=true→x∈todo∨(x≠b∧∀y,E x y→seen.getD y false=true)
structure aCZ(n:Nat)(E:Nat→Nat→Prop)(a b k:Nat)(D:Nat→Prop)(seen:List Bool)(todo:List Nat):Prop where
 len:seen.length=n
 lt:∀x∈todo,x<n
 kf:k=a∨iH E a k
 kb:k≠b
 got:∀y,D y→seen.getD y false=true
 from':∀x,(x∈todo∨seen.getD x false=true)→x=a∨iH E a x
 start:a=k∨a∈todo∨(a≠b∧∀y,E a y→seen.getD y false=true)
 on:∀x,seen.getD x false=true→x=k∨x∈todo∨(x≠b∧∀y,E x y→seen.getD y false=true)
theorem aBC(l:List Bool)(i j:Nat)(v:Bool)(h:i<l.length):(l.set i v).getD j false=if j=i then v else l.getD j false:=by
 rw[List.getD_eq_getElem?_getD,List.getD_eq_getElem?_getD]
 by_cases e:j=i
 ·subst e;simp[h]
 rw[List.getElem?_set_ne (by omega)];simp[e]
theorem Bfs.first{n:Nat}{E:Nat→Nat→Prop}{a b:Nat}(ha:a<n):Bfs n E a b (List.replicate n false) [a]:=by
 have hf:∀x,(List.replicate n false).getD x false=false:=fun x=>by
  rw[List.getD_eq_getElem?_getD,List.getElem?_replicate];split<;>rfl
 refine⟨by simp,by simpa using ha,fun x hx=>?_, .inl (by simp),fun x hx=>by rw[hf x] at hx;cases hx⟩
 rcases hx with hx|hx
 ·exact .inl (by simpa using hx)
 rw[hf x] at hx;cases hx
theorem aCZ.one{n:Nat}{E:Nat→Nat→Prop}{a b k x:Nat}{D:Nat→Prop}{seen:List Bool}{todo:List Nat}(B:aCZ n E a b k D seen todo)(hx:x<n)(he:E k x):aCZ n E a b k (fun y=>D y∨y=x) (seen.set x true) (todo++[x]):=by
 have hset:∀j,(seen.set x true).getD j false=if j=x then true else seen.getD j false:=fun j=>aBC _ _ _ _ (by rw[B.len];exact hx)
 have up:∀y,seen.getD y false=true→(seen.set x true).getD y false=true:=fun y hy=>by rw[hset];split<;>simp_all
 have hfx:x=a∨iH E a x:=by
  rcases B.kf with h|h
  ·rw[←h];exact .inr (.one he)
  exact .inr (h.snoc he)
 refine⟨by simp[B.len],?_,B.kf,B.kb,?_,?_,?_,?_⟩
 ·intro y hy
  rcases List.mem_append.1 hy with h|h
  ·exact B.lt y h
  simp at h;omega
 ·rintro y (hy|rfl)
  ·exact up y (B.got y hy)
  rw[hset,if_pos rfl]
 ·intro y hy
  by_cases e:y=x
  ·rw[e];exact hfx
  rw[hset,if_neg e] at hy
  refine B.from' y (hy.imp (fun h=>?_) id)
  rcases List.mem_append.1 h with h|h
  ·exact h
  exact absurd (by simpa using h) e
 ·rcases B.start with h|h|⟨h1,h2⟩
  ·exact .inl h
  ·exact .inr (.inl (by simp[h]))
  exact .inr (.inr ⟨h1,fun y hy=>up y (h2 y hy)⟩)
 intro y hy
 by_cases e:y=x
 ·exact .inr (.inl (by simp[e]))
 rw[hset,if_neg e] at hy
 rcases B.on y hy with h|h|⟨h1,h2⟩
 ·exact .inl h
 ·exact .inr (.inl (by simp[h]))
 exact .inr (.inr ⟨h1,fun z hz=>up z (h2 z hz)⟩)
structure Pa where
 n:Bool
 a:Int
 deriving DecidableEq,Inhabited
def Pa.ok(p:Pa):Bool:=decide (0≤p.a)&&decide (p.a≤1048576)
def Pa.le(p q:Pa):Bool:=(p.n|| !q.n)&&decide (p.a≤q.a)
def Pa.thn(p q:Pa):Option Pa:=
 if (!p.ok|| !q.ok)=true then none
 else if q.n=true then some q
 else if Pa.ok ⟨p.n,p.a+q.a⟩=false then none else some ⟨p.n,p.a+q.a⟩
theorem Pa.le_refl(p:Pa):p.le p=true:=by cases p with|mk n a=>cases n<;>simp[Pa.le]
theorem Pa.thn_ok{p q r:Pa}(h:p.thn q=some r):r.ok=true∧q.ok=true∧p.ok=true:=by
 unfold Pa.thn at h
 split at h
 ·cases h
 rename_i h0
 simp only[Bool.or_eq_true,Bool.not_eq_true',not_or,Bool.not_eq_false] at h0
 split at h
 ·injection h with h;subst h;exact⟨h0.2,h0.2,h0.1⟩
 split at h
 ·cases h
 rename_i h1
 injection h with h;subst h
 exact⟨by simpa using h1,h0.2,h0.1⟩
structure We where
 f:Nat
 t:Nat
 p:Pa
 deriving DecidableEq,Inhabited
def Walk(ws:List We):Nat→List We→Nat→Prop
 |a,[],k=>a=k
 |a,w::l,k=>w∈ws∧w.f=a∧Walk ws w.t l k
def run:Pa→List We→Option Pa
 |p,[]=>some p
 |p,w::l=>(p.thn w.p).bind fun q=>run q l
def Pa.nought:Pa:=⟨false,0⟩
def Val(ws:List We)(a k:Nat)(p:Pa):Prop:=∃l,Walk ws a l k∧run Pa.nought l=some p
theorem aCf:∀(l:List We) {p q:Pa},p.ok=true→run p l=some q→q.ok=true
 | [],p,q,hp,h=>by have h:some p=some q:=h;injection h with h;subst h;exact hp
 |w::l,p,q,hp,h=>by
  have h:((p.thn w.p).bind fun q=>run q l)=some q:=h
  cases e:p.thn w.p with
  |none=>rw[e] at h;cases h
  |some r=>rw[e] at h;exact aCf l (Pa.thn_ok e).1 h
theorem Walk.split{ws:List We}:∀{l m:List We} {a c:Nat},Walk ws a (l++m) c→∃b,Walk ws a l b∧Walk ws b m c
 | [],_,a,_,h=>⟨a,rfl,h⟩
 |w::l,_,_,_,⟨h1,h2,h3⟩=>by
  obtain⟨b,h4,h5⟩:=Walk.split h3
  exact⟨b,⟨h1,h2,h4⟩,h5⟩
def Can(l:List Pa):Prop:=l.Pairwise fun p q=>p.n=false∧q.n=true∧p.a<q.a
def aAl(l:List Pa)(p:Pa):Prop:=∃q∈l,q.le p=true
def aEc(l:List Pa):Nat:=l.foldr (fun p m=>min p.a.toNat m) 1048577
def co(l:List Pa):Nat:=aEc l+aEc (l.filter fun p=>p.n)
theorem Val.ok{ws:List We}{a k:Nat}{p:Pa}(h:Val ws a k p):p.ok=true:=by
 obtain⟨l,_,hr⟩:=h
 exact aCf l (by rfl) hr
theorem Val.nought(ws:List We)(a:Nat):Val ws a a Pa.nought:=⟨[],rfl,rfl⟩
def aCY(ws:List We)(out:List (List Pa))(k:Nat):Prop:=∀p∈out.getD k [],∀w∈ws,w.f=k→∀r,p.thn w.p=some r→aAl (out.getD w.t []) r
structure aEn(ws:List We)(n a:Nat)(out:List (List Pa))(todo:List Nat):Prop where
 len:out.length=n
 can:∀k,Can (out.getD k [])
 val:∀k,∀p∈out.getD k [],Val ws a k p
 start:aAl (out.getD a []) Pa.nought
 lt:∀x∈todo,x<n
 clo:∀k,k<n→k∉todo→aCY ws out k
structure aEu(ws:List We)(n a k:Nat)(paths:List Pa)(D:We→Pa→Prop)(out:List (List Pa))(todo:List Nat):Prop where
 len:out.length=n
 can:∀k,Can (out.getD k [])
 val:∀k,∀p∈out.getD k [],Val ws a k p
 start:aAl (out.getD a []) Pa.nought
 lt:∀x∈todo,x<n
 clo:∀j,j<n→j∉todo→j≠k→aCY ws out j
 pv:∀p∈paths,Val ws a k p
 me:k∈todo∨(out.getD k []=paths∧∀w∈ws,∀p∈paths,D w p→w.f=k→∀r,p.thn w.p=some r→aAl (out.getD w.t []) r)
theorem tZ{α:Type}(l:List α)(i j:Nat)(v d:α)(h:i<l.length):(l.set i v).getD j d=if j=i then v else l.getD j d:=by
 rw[List.getD_eq_getElem?_getD,List.getD_eq_getElem?_getD]
 by_cases e:j=i
 ·subst e;simp[h]
 rw[List.getElem?_set_ne (by omega)];simp[e]
structure aEp(ws:List We)(a k:Nat)(l:List Pa):Prop where
 can:Can l
 val:∀p∈l,Val ws a k p
 dom:∀p,Val ws a k p→aAl l p
structure aCV(ws:List We)(n a r:Nat)(at':List (List Pa)):Prop where
 len:at'.length=n
 can:∀k,k<n→Can (at'.getD k [])
 val:∀k,k<n→∀p∈at'.getD k [],Val ws a k p
 dom:∀k,k<n→∀l p,l.length≤r→Walk ws a l k→run Pa.nought l=some p→aAl (at'.getD k []) p
structure aEx(l m:List Pa):Prop where
 can:Can m
 sub:∀p∈m,p∈l
 dom:∀p∈l,aAl m p
theorem aCV.first{ws:List We}{n a:Nat}(ha:a<n):aCV ws n a 0 ((List.replicate n []).set a [Pa.nought]):=by
 have hset:∀j,((List.replicate n ([]:List Pa)).set a [Pa.nought]).getD j []=if j=a then [Pa.nought] else []:=fun j=>by
  rw[tZ _ _ _ _ _ (by simpa using ha)]
  split
  ·rfl
  rw[List.getD_eq_getElem?_getD,List.getElem?_replicate];split<;>rfl
 refine⟨by simp,fun k _=>?_,fun k _ p hp=>?_,fun k _ l p hl hw hr=>?_⟩
 ·rw[hset];split<;>simp[Can]
 ·rw[hset] at hp
  split at hp
  ·rename_i e
   simp at hp
   subst e hp
   exact Val.nought ws k
  cases hp
 have e:l=[]:=List.length_eq_zero_iff.1 (by omega)
 subst e
 have hw:a=k:=hw
 have hr:some Pa.nought=some p:=hr
 injection hr with hr
 subst hw hr
 rw[hset,if_pos rfl]
 exact⟨Pa.nought,by simp,Pa.le_refl _⟩
theorem aEn.first{ws:List We}{n a:Nat}(ha:a<n):aEn ws n a ((List.replicate n []).set a [Pa.nought]) [a]:=by
 have hset:∀j,((List.replicate n ([]:List Pa)).set a [Pa.nought]).getD j []=if j=a then [Pa.nought] else []:=fun j=>by
  rw[tZ _ _ _ _ _ (by simpa using ha)]
  split
  ·rfl
  rw[List.getD_eq_getElem?_getD,List.getElem?_replicate];split<;>rfl
 refine⟨by simp,fun k=>?_,fun k p hp=>?_,?_,by simpa using ha,fun k hk hn p hp=>?_⟩
 ·rw[hset];split<;>simp[Can]
 ·rw[hset] at hp
  split at hp
  ·rename_i e
   simp at hp
   subst e hp
   exact Val.nought ws k
  cases hp
 ·rw[hset,if_pos rfl]
  exact⟨Pa.nought,by simp,Pa.le_refl _⟩
 rw[hset,if_neg (by simpa using hn)] at hp
 cases hp
section
variable{α:Type} [DecidableEq α]{lt:α→α→Bool}
structure Ord(lt:α→α→Bool):Prop where
 irr:∀x,lt x x=false
 trans:∀x y z,lt x y=true→lt y z=true→lt x z=true
 tot:∀x y,lt x y=false→lt y x=false→x=y
def csT(out:List α)(x:α):List α:=if out.getLast?=some x then out else out++[x]
def cs(l:List α):List α:=l.foldl csT []
end
end Go.Proofs.YtemjhgboialjpaaGreat
