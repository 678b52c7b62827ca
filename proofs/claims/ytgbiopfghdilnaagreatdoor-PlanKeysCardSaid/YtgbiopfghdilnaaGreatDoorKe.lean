/-
Texts of this proof,one behind the other. No conditions.
-/
import Derived.Test.YtgbiopfghdilnaaGreatDoorKd
import Derived.Test.YtgbiopfghdilnaaGreatDoorKdb
import Derived.Shelf.GgClosure.StringsIndexFunc
open Go.Proofs.YtgbiopfghdilnaaGreatDoor.Hp renaming le_refl→Ka
open Bool renaming and_eq_true→Kb,not_eq_true'→Ke,or_eq_true→Kh
open Nat renaming le_refl→Kc,zero_le→Kf,eq_zero_or_pos→Kk,add_zero→Kt,lt_or_ge→Ku
open List renaming mem_cons_self→Kd,mem_cons_of_mem→Kg,getD_eq_getElem?_getD→Ki,mem_singleton→Km,foldl_append→Ko,length_cons→Kq,mem_cons→Ks
open Array renaming getElem?_toList→Kj,toList_inj→Kp
open Int renaming le_refl→Kv
open Nat renaming reduceAdd→jA,reduceSub→jB,reduceLT→jC,reduceLeDiff→jD,reduceEqDiff→jE
open Int renaming reduceToNat→jF,natCast_add→jH,natCast_one→jI,natCast_zero→jJ
open List renaming length_cons→jL,length_nil→jM,replicate_succ→jN,replicate_zero→jO,cons_append→jP,nil_append→jQ
set_option linter.unusedSimpArgs false
set_option linter.unusedVariables false
set_option linter.unusedSectionVars false
set_option maxHeartbeats 8000000
namespace Go.Proofs.YtgbiopfghdilnaaGreatDoor
open Go.RowKit
def qY(a b:Int):Int:=if a<b then-1 else if b<a then 1 else 0
theorem fa{P:Program}{f:Nat}(hL:aD P f=some LB.aCG)(a:Int)(h:Hp):aM P f [.int .i64 a] h (.bool false):=by
 refine aJ (fun L=>trivial) fun h' nx hh=>aB hL fun hd=>?_;simp only[jL,jM,jA,jB,jN,jO,jP,jQ,V.undef];refine wl ?_;refine cT (aC h' (Ka _) ⟨?_,rfl⟩);simp[bne]
theorem zU{P:Program}{f f0:Nat}(hL:aD P f=some (LB.aDS f0))(hL0:aD P f0=some LB.aCG)(a b:Int)(h:Hp):aM P f [.int .i64 a, .int .i64 b] h (.int .i64 (qY a b)):=by
 refine aJ (fun L=>trivial) fun h' nx hh=>aB hL fun hd=>?_;simp only[jL,jM,jA,jB,jN,jO,jP,jQ,V.undef];refine wl ?_;refine aH (fa hL0 a _) rfl (aK _) ?_;refine Zn ?_;refine wl ?_;refine aH (fa hL0 b _) rfl (aK _) ?_;refine Zn ?_;refine wl ?_;refine cQ _ rfl (fun hc=>?_) (fun hc=>?_)
 ·cases hc
 refine wl ?_;refine cQ _ rfl (fun hc=>?_) (fun hc=>?_)
 ·cases hc
 refine wl ?_;refine cQ _ rfl (fun hc=>?_) (fun hc=>?_)
 ·refine wl ?_;refine cT ?_;repeat (first|with_reducible refine kC ?_|with_reducible refine gA ?_|with_reducible refine gU ?_|with_reducible refine gV ?_)
  refine aC h' (Ka _) ⟨?_,rfl⟩;have:a<b:=by simpa using hc
  simp only[qY,if_pos this,go_sem,reduceIte,jA,jB,jC,jD,reduceCtorEq,jE,jF]
 refine wl ?_;have h1:¬a<b:=by simpa using hc
 refine cQ _ rfl (fun hc2=>?_) (fun hc2=>?_)
 ·refine wl ?_;refine cT ?_;repeat (first|with_reducible refine kC ?_|with_reducible refine gA ?_|with_reducible refine gU ?_|with_reducible refine gV ?_)
  refine aC h' (Ka _) ⟨?_,rfl⟩;have:b<a:=by simpa using hc2
  simp only[qY,if_neg h1,if_pos this,go_sem,reduceIte,jA,jB,jC,jD,reduceCtorEq,jE,jF]
 refine wl ?_;have h2:¬b<a:=by simpa using hc2
 refine cT (aC h' (Ka _) ⟨?_,rfl⟩);simp only[qY,if_neg h1,if_neg h2,go_sem,reduceIte,jA,jB,jC,jD,reduceCtorEq,jE,jF]
def orI:List Int→Int
 | []=>0
 |x::l=>if x=0 then orI l else x
theorem vf{P:Program}{f:Nat}(hL:aD P f=some LB.aME)(own:Own)(l:List Int)(hl:l.length≤1000000000)(h:Hp):aM P f [.sl .leaf own (l.map (V.int .i64))] h (.int .i64 (orI l)):=by
 refine aJ (fun L=>trivial) fun h' nx hh=>aB hL fun hd=>?_;simp only[jL,jM,jA,jB,jN,jO,jP,jQ,V.undef];refine wle trivial ?_;refine sA (fun i:Nat=>i≤l.length∧orI l=orI (l.drop i)) (fun i=>⟨aF 18 0 [(0, .sl .leaf own (l.map (V.int .i64))),(3, .int .i64 0),(6, .sl .leaf own (l.map (V.int .i64))),(7, .int .i64 l.length),(8, .int .i64 i)],h',nx⟩) (fun i=>l.length-i) 0 ⟨Kf _,Zm⟩ ?_ ?_
 ·refine sm (by simp only[WkL,aF,jH,jI,jJ,go_sem,reduceIte,jA,jB,jC,jD,reduceCtorEq,jE,jF]) ?_ ?_
  ·exact Ka _
  omega
 rintro i ⟨hi,hno⟩;simp only[aF,go_sem,reduceIte,jA,jB,jC,jD,reduceCtorEq,jE,jF];refine wl ?_;refine cQ _ rfl (fun hc=>?_) (fun hc=>?_)
 ·have hlt:i<l.length:=by simpa using hc
  have hg:=aN (V.int .i64) l i hlt;refine wle hg ?_;rw[List.drop_eq_getElem_cons hlt] at hno;refine cQ _ rfl (fun hc=>?_) (fun hc=>?_)
  ·refine wl ?_;refine cT ?_;repeat (first|with_reducible refine kC ?_|with_reducible refine gA ?_|with_reducible refine gU ?_|with_reducible refine gV ?_)
   refine aC h' (Ka _) ⟨?_,rfl⟩;have:l[i]≠0:=by simpa using hc
   simp only[hno,orI,if_neg this,go_sem,reduceIte,jA,jB,jC,jD,reduceCtorEq,jE,jF]
  refine wl ?_;have:l[i]=0:=by simpa using hc
  refine lQ (i+1) ⟨or,by rw[hno];simp[orI,this]⟩ or ?_;rw[eR or or];refine sm (by simp only[WkL,aF,jH,jI,jJ,go_sem,reduceIte,jA,jB,jC,jD,reduceCtorEq,jE,jF]) ?_ ?_
  ·exact Ka _
  omega
 have hge:i=l.length:=by have:¬i<l.length:=by simpa using hc
                         omega
 refine oJ ?_;repeat (first|with_reducible refine jX ?_|with_reducible refine iK ?_|with_reducible refine iL ?_|with_reducible refine cA ZM ?_|with_reducible refine gD ?_|with_reducible refine aP ?_)
 refine wl ?_;refine cT (aC h' (Ka _) ⟨?_,rfl⟩);refine Zn ?_;rw[hno,hge,List.drop_length];rfl
section
variable{P:Program}{k:Sh}{α:Type}(e:α→V)(aAK:∀x,(e x).fits k=true)
include aAK
end
def sh(k:Sh)(own:Own)(es:List V)(nx:Nat)(h:Hp)(v:V)(h':Hp):Prop:=(own= .nil∧v= .sl k .nil []∧h'=h)∨(own≠ .nil∧∃id,nx≤id∧v= .sl k (.tok id) es∧h'=h.set id .tip)
theorem vR{P:Program}{k:Sh}{f bs:Nat}(hL:aD P f=some (LB.aFg k bs))(hbs:bs≤140737)(own:Own)(es:List V)(hl:es.length≤1000000000)(hn:own= .nil→es=[])(h:Hp)(nx:Nat):
 aQ P f [.sl k own es] h nx fun v h' _=>sh k own es nx h v h':=by
 refine aB hL fun hd=>?_;simp only[jL,jM,jA,jB,jN,jO,jP,jQ,V.undef];refine wl ?_;by_cases ho:own= .nil
 ·subst ho;refine cQ _ rfl (fun hc=>?_) (fun hc=>?_)
  ·refine wl ?_;refine cT ?_;repeat (first|with_reducible refine kC ?_|with_reducible refine gA ?_|with_reducible refine gU ?_|with_reducible refine gV ?_)
   refine aC h (Ka _) (.inl ⟨rfl,?_,rfl⟩);simp only[go_sem,reduceIte,jA,jB,jC,jD,reduceCtorEq,jE,jF]
  cases hc
 refine cQ _ rfl (fun hc=>?_) (fun hc=>?_)
 ·exact absurd (by simpa using hc) ho
 have hb1:es.length*bs≤140737488355328:=pS hl hbs;repeat (first|with_reducible refine bQ ?_|with_reducible refine bA ?_|with_reducible refine bS ?_|with_reducible refine aP ?_|with_reducible refine aO ?_|with_reducible refine bZ ?_|(refine bT rfl (by simp only[dA,hb1,go_sem,reduceIte,jA,jB,jC,jD,reduceCtorEq,jE,jF];try omega) ?_;simp only[dA,hb1,go_sem,reduceIte,jA,jB,jC,jD,reduceCtorEq,jE,jF])|(with_reducible refine bM ?_))
 refine cT (aC (h.set (nx+1) .tip) ?_ (.inr ⟨ho,nx+1,or,?_,rfl⟩))
 ·intro m b e;have hm:∀b,h m=some b→m<nx:=fun b hb=>hd m b hb;simp only[Hp.aAN,Hp.aAx] at e⊢;split at e
  ·rename_i e1;rw[if_pos e1];exact e
  rename_i e1;have:=hm _ e;rw[if_neg e1,if_neg or,if_neg or];exact e
 simp only[go_sem,reduceIte,jA,jB,jC,jD,reduceCtorEq,jE,jF]
theorem r8{P:Program}{k:Sh}{f bs:Nat}(hL:aD P f=some (LB.aFg k bs))(hbs:bs≤140737)(own:Own)(es:List V)(hl:es.length≤1000000000)(hn:own= .nil→es=[])(hnm:∀L,bD L es)(h:Hp):
 aM P f [.sl k own es] h (V.sl k own es).loose:=by
 refine lU (fun L=>by cases own<;>simp[V.loose,V.names,hnm L,bD]) fun h' nx hh=>?_;have c:=vR hL hbs own es hl hn h' nx;refine⟨c.1,fun K cargs hlv hr hv=>((c.mono (R':=fun v' h'' _=>v'.loose=(V.sl k own es).loose∧h'.le h'') ?_).2 K cargs hlv hr hv)⟩;rintro v h'' nx' hnx (⟨rfl,rfl,rfl⟩|⟨ho,id,hid,rfl,rfl⟩)
 ·have he:=hn rfl;subst he;exact⟨rfl,Ka _⟩
 refine⟨(by cases own<;>first|exact absurd rfl ho|rfl),fY (Ka _) (aW.none (fun m b hm=>hlv m (hr.lt m b hm)) hid) _⟩
end Go.Proofs.YtgbiopfghdilnaaGreatDoor
namespace Go.Proofs.YtgbiopfghdilnaaGreatDoor
open Go.RowKit Go.Sort
structure C3{α:Type}(c:α→α→Int):Prop where
 eq:∀x y,c x y=0↔x=y
 aMD:∀x y,c x y<0↔0<c y x
 trans:∀x y z,c x y<0→c y z<0→c x z<0
section
variable{α β:Type}
def orC(a b:Int):Int:=if a=0 then b else a
theorem C3.self{c:α→α→Int}(h:C3 c)(x:α):c x x=0:=(h.eq x x).2 rfl
theorem C3.lex{c:α→α→Int}{d:β→β→Int}(hc:C3 c)(hd:C3 d):C3 fun x y:α×β=>orC (c x.1 y.1) (d x.2 y.2) where
 eq x y:=by
  unfold orC;split
  ·rename_i h;rw[hd.eq,Prod.ext_iff,(hc.eq _ _).1 h];simp
  rename_i h;refine⟨fun e=>absurd e h,fun e=>absurd ((hc.eq _ _).2 (by rw[e])) h⟩
 aMD x y:=by
  unfold orC;by_cases h:c x.1 y.1=0
  ·have e:=(hc.eq _ _).1 h;rw[if_pos h,if_pos (by rw[e];exact hc.self _)];exact hd.aMD _ _
  have e:c y.1 x.1≠0:=fun e=>h ((hc.eq _ _).2 ((hc.eq _ _).1 e).symm);rw[if_neg h,if_neg e];exact hc.aMD _ _
 trans x y z:=by
  unfold orC;by_cases h:c x.1 y.1=0
  ·rw[if_pos h,(hc.eq _ _).1 h];by_cases h2:c y.1 z.1=0
   ·rw[if_pos h2,if_pos h2];exact hd.trans _ _ _
   rw[if_neg h2,if_neg h2];exact fun _ h=>h
  rw[if_neg h];intro h1;by_cases h2:c y.1 z.1=0
  ·rw[if_pos h2];intro _;have e:=(hc.eq _ _).1 h2;rw[←e,if_neg h];exact h1
  rw[if_neg h2];intro h3;have:=hc.trans _ _ _ h1 h3;rw[if_neg or];exact this
theorem C3.on{c:β→β→Int}(hc:C3 c){f:α→β}(hf:∀x y,f x=f y→x=y):C3 fun x y=>c (f x) (f y):=
 ⟨fun x y=>(hc.eq _ _).trans ⟨hf x y,fun e=>by rw[e]⟩,fun x y=>hc.aMD _ _,fun x y z=>hc.trans _ _ _⟩
def dZ(c:α→α→Int):List α→List α→Int
 | [],[]=>0
 | [],_::_=>-1
 |_::_,[]=>1
 |a::x,b::y=>orC (c a b) (dZ c x y)
theorem uc{c:α→α→Int}(h:C3 c):∀x y,dZ c x y=0↔x=y
 | [],[]=>by simp[dZ]
 | [],_::_=>by simp[dZ]
 |_::_,[]=>by simp[dZ]
 |a::x,b::y=>by
  unfold dZ orC;split
  ·rename_i e;rw[uc h x y,(h.eq _ _).1 e];simp
  rename_i e;refine⟨fun k=>absurd k e,fun k=>absurd ((h.eq _ _).2 (by injection k)) e⟩
theorem fj{c:α→α→Int}(h:C3 c):∀x y,dZ c x y<0↔0<dZ c y x
 | [],[]=>by simp[dZ]
 | [],_::_=>by simp[dZ]
 |_::_,[]=>by simp[dZ]
 |a::x,b::y=>by
  unfold dZ orC;by_cases k:c a b=0
  ·have e:=(h.eq _ _).1 k;rw[if_pos k,if_pos (by rw[e];exact h.self _)];exact fj h x y
  rw[if_neg k,if_neg fun e=>k ((h.eq _ _).2 ((h.eq _ _).1 e).symm)];exact h.aMD _ _
theorem zT{c:α→α→Int}(h:C3 c):∀x y z,dZ c x y<0→dZ c y z<0→dZ c x z<0
 | [],[],_=>by simp[dZ]
 |_::_,[],_=>by simp[dZ]
 | [],_::_,[]=>by simp[dZ]
 | [],_::_,_::_=>by simp[dZ]
 |_::_,_::_,[]=>by simp[dZ]
 |a::x,b::y,d::z=>by
  unfold dZ orC;by_cases k:c a b=0
  ·rw[if_pos k,(h.eq _ _).1 k];by_cases k2:c b d=0
   ·rw[if_pos k2,if_pos k2];exact zT h x y z
   rw[if_neg k2,if_neg k2];exact fun _ h=>h
  rw[if_neg k];intro h1;by_cases h2:c b d=0
  ·rw[if_pos h2];intro _;rw[←(h.eq _ _).1 h2,if_neg k];exact h1
  rw[if_neg h2];intro h3;have:=h.trans _ _ _ h1 h3;rw[if_neg or];exact this
theorem C3.list{c:α→α→Int}(h:C3 c):C3 (dZ c):=⟨uc h,fj h,zT h⟩
end
structure Vl where
 k:Int
 n:Int
 s:ByteArray
 deriving DecidableEq
instance:Inhabited Vl:=⟨0,0,⟨#[]⟩⟩
def Vl.v(x:Vl):V:= .agg [.int .i64 x.k, .int .i64 x.n, .str x.s]
theorem Vl.aAQ(L:Nat→Prop)(x:Vl):x.v.names L:=by simp[Vl.v,V.names,bD]
theorem Vl.aAD(x:Vl):x.v.fits (.agg 3)=true:=rfl
def zS(a b:UInt8):Int:=qY a.toNat b.toNat
def r7(a b:ByteArray):Int:=dZ zS a.toList b.toList
def r5(a b:Vl):Int:=orC (qY a.k b.k) (orC (qY a.n b.n) (r7 a.s b.s))
abbrev qX:List Vl→List Vl→Int:=dZ r5
theorem c3I:C3 qY:=by
 refine⟨fun x y=>?_,fun x y=>?_,fun x y z=>?_⟩;all_goals unfold qY;repeat' split
 all_goals omega
theorem fo{a b:ByteArray}(h:a.toList=b.toList):a=b:=by
 rw[ByteArray.toList_eq,ByteArray.toList_eq] at h;cases a;cases b;congr 1;exact Kp.1 h
theorem c3S:C3 r7:=((c3I.on (f:=fun u:UInt8=>(u.toNat:Int)) fun x y e=>UInt8.toNat_inj.1 (by exact_mod_cast e)).list).on fun x y=>fo
theorem c3V:C3 r5:=(c3I.lex (c3I.lex c3S)).on (f:=fun x:Vl=>(x.k,x.n,x.s)) fun x y e=>by
 cases x;cases y;simpa using e
theorem c3T:C3 qX:=c3V.list
theorem ny:∀x y:List UInt8,Op.bytesLess x y=decide (dZ zS x y<0)
 | [],[]=>by simp[Op.bytesLess,dZ]
 |_::_,[]=>by simp[Op.bytesLess,dZ]
 | [],_::_=>by simp[Op.bytesLess,dZ]
 |a::x,b::y=>by
  have e:(a<b)=(a.toNat<b.toNat):=rfl;simp only[Op.bytesLess,ny x y,dZ,orC,zS,qY,e];by_cases h1:a.toNat<b.toNat
  ·have:(a.toNat:Int)<b.toNat:=or;simp[h1,this]
  by_cases h2:b.toNat<a.toNat
  ·have h3:(b.toNat:Int)<a.toNat:=or;have h4:a≠b:=fun e=>by rw[e] at h2;omega
   have h5:¬(a.toNat:Int)<b.toNat:=or;simp[h1,h3,h4,h5]
  have h3:a=b:=UInt8.toNat_inj.1 or;subst h3;simp
theorem eN(a b:ByteArray):(a.toList==b.toList)=decide (a=b):=by
 by_cases h:a=b
 ·subst h;simp
 have:a.toList≠b.toList:=fun e=>h (fo e);simp[h,this]
def byt(s:ByteArray)(i:Nat):Nat:=(s.data.toList.getD i 0).toNat
theorem ud(s:ByteArray)(i:Nat):(s.get! i).toNat=byt s i:=by
 cases s with
 |mk d=>
 show(d[i]!).toNat=(d.toList.getD i 0).toNat
 rw[Ki,Kj,getElem!_def];cases d[i]?<;>rfl
theorem iw(s:ByteArray)(i:Nat)(h:byt s i<128):Utf8.decode s i=(byt s i,1):=by
 unfold Utf8.decode;simp only[Kt,ud];rw[if_pos h]
theorem rx(s:ByteArray)(i:Nat)(h:128≤byt s i):128≤(Utf8.decode s i).1:=by
 unfold Utf8.decode;simp only[Kt,ud];rw[if_neg or];repeat' split
 all_goals simp only[Utf8.runeError]
 all_goals (try simp only[ge_iff_le,Kb,decide_eq_true_eq] at*)
 all_goals omega
theorem tz(p:Nat→Bool)(hp:∀x,128≤x→p x=true)(s:ByteArray):∀f pos,s.size≤pos+f→(0≤Lib.idxFuncFrom p true s f pos↔∃i,pos≤i∧i<s.size∧p (byt s i)=true)
 |0,pos,h=>by
  simp only[Lib.idxFuncFrom];refine⟨fun k=>absurd k or,fun⟨i,h1,h2,_⟩=>or⟩
 |f+1,pos,h=>by
  simp only[Lib.idxFuncFrom];by_cases hps:pos<s.size
  ·rw[if_pos hps];by_cases hb:byt s pos<128
   ·rw[iw s pos hb];by_cases hq:p (byt s pos)=true
    ·rw[if_pos hq];exact⟨fun _=>⟨pos,Kc _,hps,hq⟩,fun _=>or⟩
    rw[if_neg hq,tz p hp s f (pos+1) or];constructor
    ·rintro⟨i,h1,h2⟩;exact⟨i,or,h2⟩
    rintro⟨i,h1,h2,h3⟩;refine⟨i,?_,h2,h3⟩;by_cases e:i=pos
    ·subst e;exact absurd h3 hq
    omega
   have h1:=hp _ (rx s pos or);rw[if_pos h1];exact⟨fun _=>⟨pos,Kc _,hps,hp _ or⟩,fun _=>or⟩
  rw[if_neg hps];refine⟨fun k=>absurd k or,fun⟨i,h1,h2,_⟩=>or⟩
def fU(c:Nat):Bool:=decide (97≤c∧c≤122)
def qE(c:Nat):Bool:=decide ((97≤c∧c≤122)∨(48≤c∧c≤57)∨c=95)
def iZ(c:Nat):Bool:= !qE c
theorem jw(x:Nat)(h:128≤x):iZ x=true:=by
 simp only[iZ,qE,Ke,decide_eq_false_iff_not];omega
def lG(s:ByteArray):Bool:=decide (1≤s.size∧s.size≤32∧fU (byt s 0)=true∧∀i,i<s.size→qE (byt s i)=true)
theorem jx(s:ByteArray):decide (0≤Lib.idxFunc iZ true s)= !decide (∀i,i<s.size→qE (byt s i)=true):=by
 have:=tz iZ jw s s.size 0 or;unfold Lib.idxFunc;by_cases h:∀i,i<s.size→qE (byt s i)=true
 ·rw[decide_eq_true h];simp only[Bool.not_true,decide_eq_false_iff_not,this];rintro⟨i,_,h2,h3⟩;simp[iZ,h i h2] at h3
 rw[decide_eq_false h];simp only[Bool.not_false,decide_eq_true_eq,this]
 false_or_by_contra
 rename_i k;refine h fun i hi=>?_;by_cases e:qE (byt s i)=true
 ·exact e
 exact absurd ⟨i,Kf _,hi,by simp[iZ,e]⟩ k
def uV(n:Int):Bool:=decide (-2147483647≤n∧n≤2147483647)
def cC(x:Vl):Bool:=(decide (x.k=1)&&(decide (x.s.size=0)&&uV x.n))||(decide (x.k=2)&&(decide (x.n=0)&&lG x.s))
theorem gz{x:Vl}(h:cC x=true):-2147483647≤x.n∧x.n≤2147483647:=by
 simp only[cC,uV,Kh,Kb,decide_eq_true_eq] at h;omega
section
variable{α:Type}{c:α→α→Int}
end
def gR:Vl:=⟨0,0,⟨#[]⟩⟩
def ofV(n:Int):Vl×Int:=if uV n=true then (⟨1,n,⟨#[]⟩⟩,0) else (gR,10)
def fZ(c:Nat):Bool:=decide (65≤c∧c≤90)
def rg(c:Nat):Bool:=decide (48≤c∧c≤57)
def iV(c:Nat):Bool:=fU c||fZ c||rg c||decide (c=95)
def oX(c:Nat):Bool:=decide (c=9∨c=10∨c=13∨c=32)
def lO(p:Nat→Bool)(s:ByteArray):Nat→Nat→Nat
 |0,i=>i
 |f+1,i=>if i<s.size∧p (byt s i)=true then lO p s f (i+1) else i
def iY(p:Nat→Bool)(s:ByteArray)(i:Nat):Nat:=lO p s (s.size-i) i
theorem jo(p:Nat→Bool)(s:ByteArray):∀(f i j:Nat),i≤j→j≤s.size→s.size≤i+f→(∀k,i≤k→k<j→p (byt s k)=true)→(j=s.size∨p (byt s j)=false)→lO p s f i=j
 |0,i,j,h1,h2,h3,_,_=>by show i=j;omega
 |f+1,i,j,h1,h2,h3,h4,h5=>by
  unfold lO;by_cases e:i=j
  ·subst e;rw[if_neg];rintro⟨q1,q2⟩;rcases h5 with h5|h5
   ·omega
   rw[q2] at h5;cases h5
  rw[if_pos ⟨or,h4 i (Kc _) or⟩];exact jo p s f (i+1) j or h2 or (fun k hk=>h4 k or) h5
theorem rG{p:Nat→Bool}{s:ByteArray}{i j:Nat}(h1:i≤j)(h2:j≤s.size)(h4:∀k,i≤k→k<j→p (byt s k)=true)(h5:j=s.size∨p (byt s j)=false):iY p s i=j:=
 jo p s _ i j h1 h2 or h4 h5
theorem xC(p:Nat→Bool)(s:ByteArray):∀(f i:Nat),i≤s.size→s.size≤i+f→i≤lO p s f i∧lO p s f i≤s.size∧(∀k,i≤k→k<lO p s f i→p (byt s k)=true)∧(lO p s f i=s.size∨p (byt s (lO p s f i))=false)
 |0,i,h1,h2=>⟨Kc _,h1,fun k a b=>absurd b (by show¬k<i;omega), .inl (by show i=_;omega)⟩
 |f+1,i,h1,h2=>by
  unfold lO;split
  ·rename_i h;obtain⟨a,b,c,d⟩:=xC p s f (i+1) or or;exact⟨or,b,fun k h3 h4=>by
    by_cases e:k=i
    ·subst e;exact h.2
    exact c k or h4,d⟩
  rename_i h;refine⟨Kc _,h1,fun k a b=>absurd b or,?_⟩;by_cases e:i<s.size
  ·right;cases hp:p (byt s i) with
   |false=>rfl
   |true=>exact absurd ⟨e,hp⟩ h
  left;omega
theorem mF(p:Nat→Bool)(s:ByteArray)(i:Nat)(h:i≤s.size):i≤iY p s i∧iY p s i≤s.size∧(∀k,i≤k→k<iY p s i→p (byt s k)=true)∧(iY p s i=s.size∨p (byt s (iY p s i))=false):=
 xC p s _ i h or
def kB(s:ByteArray):Nat→Nat→Nat
 |0,i=>i
 |f+1,i=>if i<s.size then if oX (byt s i)=true then kB s f (i+1) else if byt s i=37 then kB s f (iY (fun c=>decide (c≠10)) s i) else i else i
def bY(s:ByteArray)(i:Nat):Nat:=kB s (s.size-i) i
theorem wN{s:ByteArray}{i:Nat}(h:i<s.size)(hp:byt s i=37):i<iY (fun c=>decide (c≠10)) s i∧iY (fun c=>decide (c≠10)) s i≤s.size:=by
 obtain⟨a,b,c,d⟩:=mF (fun c=>decide (c≠10)) s i or;refine⟨?_,b⟩;rcases Ku i (iY (fun c=>decide (c≠10)) s i) with k|k
 ·exact k
 have e:iY (fun c=>decide (c≠10)) s i=i:=or;rw[e] at d;rcases d with d|d
 ·omega
 rw[hp] at d;cases d
theorem mU(s:ByteArray):∀(f g i:Nat),s.size≤i+f→s.size≤i+g→kB s f i=kB s g i
 |0,0,_,_,_=>rfl
 |0,g+1,i,h,_=>by unfold kB;rw[if_neg or]
 |f+1,0,i,_,h=>by unfold kB;rw[if_neg or]
 |f+1,g+1,i,h1,h2=>by
  unfold kB;by_cases h:i<s.size
  ·rw[if_pos h,if_pos h];split
   ·exact mU s f g _ or or
   split
   ·rename_i hp;have:=wN h hp;exact mU s f g _ or or
   rfl
  rw[if_neg h,if_neg h]
theorem pE{s:ByteArray}{i:Nat}(h:s.size≤i):bY s i=i:=by
 unfold bY;cases s.size-i with
 |zero=>rfl
 |succ n=>unfold kB;rw[if_neg or]
theorem j2{s:ByteArray}{i:Nat}(h:i<s.size)(hb:oX (byt s i)=true):bY s i=bY s (i+1):=by
 unfold bY;obtain⟨n,hn⟩:∃n,s.size-i=n+1:=⟨s.size-i-1,or⟩;rw[hn,kB,if_pos h,if_pos hb];exact mU s _ _ _ or or
theorem pm{s:ByteArray}{i:Nat}(h:i<s.size)(hb:oX (byt s i)=false)(hp:byt s i=37):bY s i=bY s (iY (fun c=>decide (c≠10)) s i):=by
 unfold bY;obtain⟨n,hn⟩:∃n,s.size-i=n+1:=⟨s.size-i-1,or⟩;rw[hn,kB,if_pos h,hb,if_neg Zm,if_pos hp];have:=wN h hp;exact mU s _ _ _ or or
theorem xK{s:ByteArray}{i:Nat}(h:i<s.size)(hb:oX (byt s i)=false)(hp:byt s i≠37):bY s i=i:=by
 unfold bY;obtain⟨n,hn⟩:∃n,s.size-i=n+1:=⟨s.size-i-1,or⟩;rw[hn,kB,if_pos h,hb,if_neg Zm,if_neg hp]
theorem rL(s:ByteArray):∀(f i:Nat),i≤kB s f i∧(i≤s.size→kB s f i≤s.size)
 |0,i=>⟨Kc _,id⟩
 |f+1,i=>by
  unfold kB;split
  ·rename_i h;split
   ·have:=rL s f (i+1);exact⟨or,fun _=>this.2 or⟩
   split
   ·rename_i hp;have h1:=wN h hp;have:=rL s f (iY (fun c=>decide (c≠10)) s i);exact⟨or,fun _=>this.2 h1.2⟩
   exact⟨Kc _,id⟩
  exact⟨Kc _,id⟩
theorem rM(s:ByteArray)(i:Nat):i≤bY s i:=(rL s _ i).1
theorem j1{s:ByteArray}{i:Nat}(h:i≤s.size):bY s i≤s.size:=(rL s _ i).2 h
structure Tk where
 k:Int
 t:ByteArray
 a:Nat
 deriving Inhabited
def mi:List ByteArray:=[⟨[114,101,108].toArray⟩,⟨[105,110,116].toArray⟩,⟨[115,121,109].toArray⟩,⟨[110,111,116].toArray⟩,⟨[99,111,117,110,116].toArray⟩,⟨[115,117,109].toArray⟩,⟨[109,105,110].toArray⟩,⟨[109,97,120].toArray⟩]
def eF:List ByteArray:=[⟨[58,45].toArray⟩,⟨[33,61].toArray⟩,⟨[60,61].toArray⟩,⟨[62,61].toArray⟩,⟨[40].toArray⟩,⟨[41].toArray⟩,⟨[44].toArray⟩,⟨[46].toArray⟩,⟨[61].toArray⟩,⟨[60].toArray⟩,⟨[62].toArray⟩,⟨[43].toArray⟩,⟨[45].toArray⟩,⟨[42].toArray⟩]
def qw(w:ByteArray):Bool:=mi.any fun t=>t.data.toList==w.data.toList
theorem mj(w:ByteArray):qw w=true↔w∈mi:=by
 simp only[qw,List.any_eq_true,beq_iff_eq];constructor
 ·rintro⟨t,h1,h2⟩;have:t=w:=by
   cases t;cases w;simp only[Kp] at h2;rw[h2]
  exact this▸h1
 exact fun h=>⟨w,h,rfl⟩
def gH(κ:ByteArray→Int)(w:ByteArray):Int:=
 if qw w=true then 1 else if lG w=true then 2 else if fZ (byt w 0)=true∧w.size≤32 then 3 else κ w
def qR(s t:ByteArray):Bool:=t.data.toList.isPrefixOf s.data.toList
def mV(s:ByteArray):Nat:=iY iV s 0
def rN(r:ByteArray):Int×ByteArray:=match eF.find? (qR r) with
 |some t=>(5,t)
 |none=>(0,⟨#[]⟩)
def eX(κ:ByteArray→Int)(r:ByteArray):Int×ByteArray:=
 if 0<mV r∧byt r 0≠95 then (gH κ (r.extract 0 (mV r)),r.extract 0 (mV r)) else rN r
def yQ(κ:ByteArray→Int)(s:ByteArray):Nat→Nat→List Tk×Option Nat
 |0,_=>([],none)
 |f+1,i=>if i<s.size then
  if (eX κ (s.extract i s.size)).1=0 then ([],some i)
  else (⟨(eX κ (s.extract i s.size)).1,(eX κ (s.extract i s.size)).2,i⟩::(yQ κ s f (bY s (i+(eX κ (s.extract i s.size)).2.size))).1,(yQ κ s f (bY s (i+(eX κ (s.extract i s.size)).2.size))).2)
  else ([],none)
def hP(κ:ByteArray→Int)(s:ByteArray)(i:Nat):List Tk×Option Nat:=yQ κ s (s.size-i) i
def ur(s:ByteArray):Bool:=decide (1≤s.size∧s.size≤32∧fZ (byt s 0)=true∧∀i,i<s.size→iV (byt s i)=true)
def yq(s:ByteArray):Bool:=decide (lG s=true∧qw s=false)
theorem eM(s:ByteArray)(i j:Nat):(s.extract i j).size=min j s.size-i:=by
 rw[←ByteArray.size_data,ByteArray.data_extract,Array.size_extract,ByteArray.size_data]
theorem sN(s:ByteArray):s.extract 0 s.size=s:=by
 apply ByteArray.ext;rw[ByteArray.data_extract,←ByteArray.size_data];exact Array.extract_size
theorem ue{s:ByteArray}{i j k:Nat}(h:i+k<j)(h2:j≤s.size):byt (s.extract i j) k=byt s (i+k):=by
 unfold byt;rw[ByteArray.data_extract];have h2:j≤s.data.size:=h2;congr 1;simp only[Ki,Kj];rw[Array.getElem?_extract,if_pos or]
theorem gw(s:ByteArray):mV s≤s.size:=(mF iV s 0 (Kf _)).2.1
theorem xL(r:ByteArray):rN r=(0,⟨#[]⟩)∨∃t,rN r=(5,t)∧t∈eF∧qR r t=true:=by
 unfold rN;cases h:eF.find? (qR r) with
 |none=>exact .inl rfl
 |some t=>exact .inr ⟨t,rfl,List.mem_of_find?_eq_some h,List.find?_some h⟩
theorem pn:∀t∈eF,0<t.size:=by decide+kernel
theorem u6{r t:ByteArray}(h:qR r t=true):t.size≤r.size:=by
 have:=(List.isPrefixOf_iff_prefix.1 h).length_le;simpa only[Array.length_toList,ByteArray.size_data] using this
theorem kJ{κ:ByteArray→Int}{r:ByteArray}(h:(eX κ r).1≠0):0<(eX κ r).2.size∧(eX κ r).2.size≤r.size:=by
 unfold eX at h⊢;split
 ·rename_i c;have:=gw r;show 0<(r.extract 0 (mV r)).size∧(r.extract 0 (mV r)).size≤r.size;rw[eM];omega
 rename_i c;rw[if_neg c] at h;rcases xL r with e|⟨t,e,h1,h2⟩
 ·rw[e] at h;exact absurd rfl h
 rw[e];exact⟨pn t h1,u6 h2⟩
theorem d9(κ:ByteArray→Int)(s:ByteArray):∀(f g i:Nat),s.size≤i+f→s.size≤i+g→yQ κ s f i=yQ κ s g i
 |0,0,_,_,_=>rfl
 |0,g+1,i,h,_=>by unfold yQ;rw[if_neg or]
 |f+1,0,i,_,h=>by unfold yQ;rw[if_neg or]
 |f+1,g+1,i,h1,h2=>by
  unfold yQ;by_cases h:i<s.size
  ·rw[if_pos h,if_pos h];split
   ·rfl
   rename_i h0;have h3:=(kJ h0).1;have h4:=rM s (i+(eX κ (s.extract i s.size)).2.size);rw[d9 κ s f g _ or or]
  rw[if_neg h,if_neg h]
theorem kQ{κ:ByteArray→Int}{s:ByteArray}{i:Nat}(h:s.size≤i):hP κ s i=([],none):=by
 unfold hP;cases s.size-i with
 |zero=>rfl
 |succ n=>unfold yQ;rw[if_neg or]
theorem yR{κ:ByteArray→Int}{s:ByteArray}{i:Nat}(h:i<s.size)(h0:(eX κ (s.extract i s.size)).1=0):hP κ s i=([],some i):=by
 unfold hP;obtain⟨n,hn⟩:∃n,s.size-i=n+1:=⟨s.size-i-1,or⟩;rw[hn,yQ,if_pos h,if_pos h0]
theorem pM{κ:ByteArray→Int}{s:ByteArray}{i:Nat}{k:Int}{t:ByteArray}(h:i<s.size)(hn:eX κ (s.extract i s.size)=(k,t))(h0:k≠0):
 hP κ s i=(⟨k,t,i⟩::(hP κ s (bY s (i+t.size))).1,(hP κ s (bY s (i+t.size))).2):=by
 have h1:=kJ (κ:=κ) (r:=s.extract i s.size) (by rw[hn];exact h0);rw[hn] at h1;dsimp only at h1;have h4:=rM s (i+t.size);unfold hP;obtain⟨n,hn'⟩:∃n,s.size-i=n+1:=⟨s.size-i-1,or⟩;rw[hn',yQ,if_pos h,hn,if_neg h0];dsimp only;rw[d9 κ s n (s.size-bY s (i+t.size)) _ or or]
theorem qu:∀t∈mi,fU (byt t 0)=true:=by decide+kernel
theorem vO{c:Nat}(h:fZ c=true):fU c=false:=by
 simp only[fZ,fU,decide_eq_true_eq,decide_eq_false_iff_not] at*;omega
theorem wy{c:Nat}(h:qE c=true):iV c=true:=by
 simp only[qE,iV,fU,fZ,rg,decide_eq_true_eq,Kh] at*;omega
theorem yd{κ:ByteArray→Int}{s:ByteArray}(h:ur s=true):gH κ s=3:=by
 obtain⟨h1,h2,h3,h4⟩:=of_decide_eq_true h;unfold gH;rw[if_neg (fun k=>by have:=qu s ((mj s).1 k);rw[vO h3] at this;cases this),if_neg (fun k=>by have:=(of_decide_eq_true k).2.2.1;rw[vO h3] at this;cases this),if_pos ⟨h3,h2⟩]
theorem yp{κ:ByteArray→Int}{s:ByteArray}(h:yq s=true):gH κ s=2:=by
 obtain⟨h1,h2⟩:=of_decide_eq_true h;unfold gH;rw[if_neg (by rw[h2];simp),if_pos h1]
theorem tv{κ:ByteArray→Int}{s:ByteArray}(h1:1≤s.size)(h2:∀i,i<s.size→iV (byt s i)=true)(h3:byt s 0≠95)(h0:gH κ s≠0):hP κ s (bY s 0)=([⟨gH κ s,s,0⟩],none):=by
 have hw:=h2 0 or;have hb:oX (byt s 0)=false:=by
  simp only[iV,fU,fZ,rg,oX,Kh,decide_eq_true_eq,decide_eq_false_iff_not] at*;omega
 have hp:byt s 0≠37:=by
  simp only[iV,fU,fZ,rg,Kh,decide_eq_true_eq] at hw;omega
 rw[xK or hb hp];have hr:mV s=s.size:=rG (Kf _) (Kc _) (fun k _ hk=>h2 k hk) (.inl rfl);have hn:eX κ (s.extract 0 s.size)=(gH κ s,s):=by
  rw[sN];unfold eX;rw[hr,if_pos ⟨or,h3⟩,sN]
 rw[pM or hn h0,pE or,kQ or]
theorem l9{κ:ByteArray→Int}{s:ByteArray}{k:Int}{l:List Tk}{b:Option Nat}{t:Tk}(h:hP κ s (bY s 0)=(t::l,b))(hk:t.k=k)(h5:k≠5)(ht:t.t=s)(hs:0<s.size):
 t.a=0∧gH κ s=k∧byt s 0≠95∧∀i,i<s.size→iV (byt s i)=true:=by
 rcases Ku (bY s 0) s.size with hi|hi
 ·obtain⟨k',t',hn⟩:∃k' t',eX κ (s.extract (bY s 0) s.size)=(k',t'):=⟨_,_,rfl⟩;by_cases h0:k'=0
  ·rw[yR hi (by rw[hn];exact h0)] at h;cases h
  have hz:=kJ (κ:=κ) (r:=s.extract (bY s 0) s.size) (by rw[hn];exact h0);rw[pM hi hn h0] at h;injection h with h _;injection h with h _;subst h;simp only at ht hk;subst ht hk;rw[hn,eM] at hz;have h00:bY t' 0=0:=by simp only at hz;omega
  rw[h00,sN] at hn;unfold eX at hn;split at hn
  ·rename_i c;injection hn with e1 e2;have hr:mV t'=t'.size:=by
    have:=gw t';have:=congrArg ByteArray.size e2;rw[eM] at this;omega
   rw[hr,sN] at e1;obtain⟨_,_,q,_⟩:=mF iV t' 0 (Kf _);exact⟨h00,e1,c.2,fun i hi=>q i (Kf _) (by show i<mV t';omega)⟩
  rcases xL t' with e|⟨t2,e,_⟩
  ·rw[e] at hn;injection hn with e1;exact absurd e1.symm h0
  rw[e] at hn;injection hn with e1;exact absurd e1.symm h5
 rw[kQ hi] at h;cases h
theorem AU{κ:ByteArray→Int}(hκ:∀w,κ w=0∨κ w=4)(s:ByteArray):hP κ s (bY s 0)=([⟨3,s,0⟩],none)↔ur s=true:=by
 constructor
 ·intro h;have hs:0<s.size:=by
   rcases Kk s.size with e|e
   ·rw[pE or,kQ or] at h;cases h
   exact e
  obtain⟨_,hw,_,aAj⟩:=l9 h rfl Zm rfl hs;dsimp only at hw;refine decide_eq_true ?_;unfold gH at hw;split at hw
  ·cases hw
  split at hw
  ·cases hw
  split at hw
  ·rename_i c;exact⟨or,c.2,c.1,aAj⟩
  have:=hκ s;omega
 intro h;have hv:=yd (κ:=κ) h;obtain⟨h1,h2,h3,h4⟩:=of_decide_eq_true h;have:=tv (κ:=κ) h1 h4 (by simp only[fZ,decide_eq_true_eq] at h3;omega) (by rw[hv];decide);rw[hv] at this;exact this
theorem AV{κ:ByteArray→Int}(hκ:∀w,κ w=0∨κ w=4)(s:ByteArray):hP κ s (bY s 0)=([⟨2,s,0⟩],none)↔yq s=true:=by
 constructor
 ·intro h;have hs:0<s.size:=by
   rcases Kk s.size with e|e
   ·rw[pE or,kQ or] at h;cases h
   exact e
  obtain⟨_,hw,_,aAj⟩:=l9 h rfl Zm rfl hs;dsimp only at hw;refine decide_eq_true ?_;unfold gH at hw;split at hw
  ·cases hw
  split at hw
  ·rename_i c1 c2;exact⟨c2,by simpa using c1⟩
  split at hw
  ·cases hw
  have:=hκ s;omega
 intro h;have hv:=yp (κ:=κ) h;obtain⟨h1,h2⟩:=of_decide_eq_true h;obtain⟨g1,g2,g3,g4⟩:=of_decide_eq_true h1;have:=tv (κ:=κ) g1 (fun i hi=>wy (g4 i hi)) (by simp only[fU,decide_eq_true_eq] at g3;omega) (by rw[hv];decide);rw[hv] at this;exact this
structure Tr where
 x:ByteArray
 w:Vl
 deriving DecidableEq
instance:Inhabited Tr:=⟨⟨#[]⟩,default⟩
def Tr.cs(t:Tr):List V:=[.str t.x, .int .i64 t.w.k, .int .i64 t.w.n, .str t.w.s]
def Tr.v(t:Tr):V:= .agg [.str t.x, .int .i64 t.w.k, .int .i64 t.w.n, .str t.w.s]
theorem Tr.aAD(t:Tr):t.v.fits (.agg 4)=true:=rfl
theorem Tr.aAQ(L:Nat→Prop)(t:Tr):t.v.names L:=by simp[Tr.v,V.names,bD]
abbrev trs(o:Own)(l:List Tr):V:= .sl (.agg 4) o (l.map Tr.v)
def sk:Tr:=⟨⟨#[]⟩,gR⟩
inductive Ex where
 |mk (op:Int) (t:Tr) (o:Own) (kids:List Ex)
mutual
def Ex.v:Ex→V
 | .mk op t o ks=> .agg [.int .i64 op, .str t.x, .int .i64 t.w.k, .int .i64 t.w.n, .str t.w.s, .sl (.agg 6) o (Ex.vs ks)]
def Ex.vs:List Ex→List V
 | []=>[]
 |e::r=>e.v::Ex.vs r
end
instance:Inhabited Ex:=⟨.mk 0 sk .nil []⟩
theorem Ex.aD1:∀l:List Ex,Ex.vs l=l.map Ex.v
 | []=>rfl
 |e::r=>by rw[Ex.vs,Ex.aD1 r];rfl
theorem Ex.aAD(e:Ex):e.v.fits (.agg 6)=true:=by cases e;rfl
def Ex.op:Ex→Int| .mk op _ _ _=>op
def Ex.t:Ex→Tr| .mk _ t _ _=>t
def Ex.o:Ex→Own| .mk _ _ o _=>o
def Ex.kids:Ex→List Ex| .mk _ _ _ ks=>ks
def Ex.cs(e:Ex):List V:=[.int .i64 e.op, .str e.t.x, .int .i64 e.t.w.k, .int .i64 e.t.w.n, .str e.t.w.s, .sl (.agg 6) e.o (e.kids.map Ex.v)]
theorem Ex.aAs(e:Ex):e.v= .agg e.cs:=by cases e;simp[Ex.v,Ex.cs,Ex.aD1,Ex.op,Ex.t,Ex.o,Ex.kids]
structure Am where
 r:ByteArray
 o:Own
 l:List Tr
def Am.v(a:Am):V:= .agg [.str a.r,trs a.o a.l]
structure Li where
 k:Int
 a:Am
 op:Int
 x:Ex
 y:Ex
 at_:Int
def Li.v(l:Li):V:= .agg ([.int .i64 l.k, .str l.a.r,trs l.a.o l.a.l, .int .i64 l.op]++l.x.cs++l.y.cs++[.int .i64 l.at_])
theorem Li.aAD(l:Li):l.v.fits (.agg 17)=true:=rfl
structure Ru where
 h:Am
 g:Int
 c:Int
 o:Own
 b:List Li
 at_:Int
def Ru.v(r:Ru):V:= .agg [.str r.h.r,trs r.h.o r.h.l, .int .i64 r.g, .int .i64 r.c, .sl (.agg 17) r.o (r.b.map Li.v), .int .i64 r.at_]
def qK(t:Tr):Bool:=decide (t.x.size=0∧t.w.k=0∧t.w.n=0∧t.w.s.size=0)
def oz(w:Vl):Bool:=decide (w.k=0∧w.n=0∧w.s.size=0)
def fV(t:Tr):Bool:=if t.x.size=0 then cC t.w else ur t.x&&oz t.w
def eD:Nat→Ex→Int
 |0, .mk op t _ ks=>if op=0∧ks=[]∧fV t=true then 0 else-1
 |n+1, .mk op t _ ks=>if op=0∧ks=[]∧fV t=true then 0 else
  match ks with
  | [a,b]=>if 1≤op∧op≤3∧qK t=true then (if eD n a<0∨eD n b<0 then-1 else 1+bd true (eD n a) (eD n b)) else-1
  |_=>-1
def eW:Nat→Ex→Bool
 |0, .mk op t _ ks=>decide (op=0∧ks=[]∧fV t=true)
 |n+1, .mk op t _ ks=>if op=0 then decide (ks=[]∧fV t=true) else
  match ks with
  | [a,b]=>decide (1≤op∧op≤3∧qK t=true∧eW n a=true∧eW n b=true)
  |_=>false
theorem mQ:∀(n:Nat) (e:Ex),-1≤eD n e∧eD n e≤n
 |0, .mk op t o ks=>by unfold eD;split<;>omega
 |n+1, .mk op t o ks=>by
  unfold eD;split
  ·omega
  split
  ·rename_i a b _;have h1:=mQ n a;have h2:=mQ n b;split
   ·split
    ·omega
    unfold bd;rw[if_pos rfl];split<;>omega
   omega
  omega
theorem tZ:∀(n:Nat) (e:Ex),0≤eD n e↔eW n e=true
 |0, .mk op t o ks=>by
  unfold eD eW;split
  ·rename_i h;simpa using h
  rename_i h;simpa using h
 |n+1, .mk op t o ks=>by
  unfold eD eW;by_cases h0:op=0
  ·by_cases h1:ks=[]∧fV t=true
   ·rw[if_pos ⟨h0,h1⟩,if_pos h0];simpa using h1
   rw[if_neg (fun h=>h1 h.2),if_pos h0,decide_eq_false h1];split
   ·rw[if_neg or];simp
   simp
  rw[if_neg (fun h=>h0 h.1),if_neg h0];split
  ·rename_i a b;have h1:=tZ n a;have h2:=tZ n b;have g1:=mQ n a;have g2:=mQ n b;rw[decide_eq_true_eq,←h1,←h2];split
   ·rename_i c;split
    ·constructor
     ·intro h;omega
     intro h;omega
    unfold bd;rw[if_pos rfl];exact⟨fun _=>⟨c.1,c.2.1,c.2.2,or,or⟩,fun _=>by split<;>omega⟩
   rename_i c;exact⟨fun h=>or,fun h=>absurd ⟨h.1,h.2.1,h.2.2.1⟩ c⟩
  simp
def qP(e:Ex):Bool:=eW 20 e
def lR(a:Am):Bool:=yq a.r&&decide (a.l.length≤6)&&a.l.all fV
def uY(e:Ex):Bool:=decide (e.op=0∧e.kids=[])&&qK e.t
def cF(l:Li):Bool:=
 if l.k=1∨l.k=2 then lR l.a&&decide (l.op=0)&&uY l.x&&uY l.y
 else decide (l.k=3∧l.a.r.size=0∧l.a.l=[]∧1≤l.op∧l.op≤6)&&qP l.x&&qP l.y
def Bs(r:Ru):Bool:=
 if r.g=0 then decide (r.c=0) else decide (0≤r.g∧r.g≤4∧0≤r.c∧r.c<r.h.l.length∧(r.h.l.getD r.c.toNat sk).x.size≠0)
def eQ(r:Ru):Bool:=lR r.h&&Bs r&&decide (r.b.length≤8)&&r.b.all cF
def kY:Nat:=140737488351232
def Tr.s47(t:Tr):Prop:=t.x.size≤kY∧t.w.s.size≤kY
mutual
def Ex.s47:Ex→Prop
 | .mk _ t _ ks=>t.s47∧Ex.aFh ks
def Ex.aFh:List Ex→Prop
 | []=>True
 |e::r=>e.s47∧Ex.aFh r
end
theorem Ex.aA5:∀{l:List Ex},Ex.aFh l↔∀e∈l,e.s47
 | []=>by simp[Ex.aFh]
 |e::r=>by simp[Ex.aFh,Ex.aA5 (l:=r)]
def Am.s47(a:Am):Prop:=a.r.size≤kY∧∀t∈a.l,t.s47
def Li.s47(l:Li):Prop:=l.a.s47∧l.x.s47∧l.y.s47
def Ru.s47(r:Ru):Prop:=r.h.s47∧∀l∈r.b,l.s47
def dY(t:Tr):Int:=1+((t.x.size+t.w.s.size)/ 50:Nat)
theorem sR{t:Tr}(h:t.s47):1≤dY t∧dY t≤5629499534050:=by
 obtain⟨h1,h2⟩:=h;unfold kY at h1 h2;unfold dY;omega
mutual
def kZ:Ex→Int→Int
 | .mk _ t _ ks,l=>iP ks (l-dY t)
def iP:List Ex→Int→Int
 | [],l=>l
 |k::r,l=>if l<0 then-1 else iP r (kZ k l)
end
def iQ:List Tr→Int→Int
 | [],l=>l
 |t::r,l=>if l-dY t<0 then-1 else iQ r (l-dY t)
def fI(a:Am)(l:Int):Int:=iQ a.l (l-(1+(a.r.size / 50:Nat)))
def wi(b:Li)(l:Int):Int:=kZ b.y (kZ b.x (fI b.a l))
def yP:List Li→Int→Int
 | [],l=>l
 |b::r,l=>if l<0 then-1 else yP r (wi b l)
def ym(r:Ru):Int:=yP r.b (fI r.h 300)
theorem il:∀(n:Nat) (e:Ex),SizeOf.sizeOf e≤n→e.s47→∀l:Int,(if l<0 then l else 0)-5629499534050≤kZ e l∧(kZ e l≤l-1∨kZ e l=-1)
 |0, .mk op t o ks,h,_,l=>by simp at h
 |n+1, .mk op t o ks,h,hs,l=>by
  have hc:=sR hs.1;have key:∀(r:List Ex),(∀e∈r,SizeOf.sizeOf e≤n∧e.s47)→∀l:Int,((if l<0 then l else-5629499534050)≤iP r l)∧(iP r l≤l∨iP r l=-1):=by
   intro r;induction r with
   |nil=>intro _ l;unfold iP;refine⟨?_, .inl (Kv _)⟩;split<;>omega
   |cons k r ih=>
    intro hr l;unfold iP;by_cases h0:l<0
    ·rw[if_pos h0,if_pos h0];exact⟨or, .inr rfl⟩
    rw[if_neg h0,if_neg h0];obtain⟨a,b⟩:=il n k (hr k Kd).1 (hr k Kd).2 l;rw[if_neg h0] at a;obtain⟨c,d⟩:=ih (fun e he=>hr e (Kg _ he)) (kZ k l);generalize iP r (kZ k l)=z at c d;generalize kZ k l=y at a b c d;split at c
    ·omega
    omega
  have hk:∀e∈ks,SizeOf.sizeOf e≤n∧e.s47:=fun e he=>by
   refine⟨?_,Ex.aA5.1 hs.2 e he⟩;have:=List.sizeOf_lt_of_mem he;simp only[Ex.mk.sizeOf_spec] at h;omega
  obtain⟨a,b⟩:=key ks hk (l-dY t);unfold kZ;generalize iP ks (l-dY t)=z at a b;split at a<;>split<;>omega
mutual
def Ex.few:Ex→Prop
 | .mk _ _ _ ks=>ks.length≤300∧Ex.aSx ks
def Ex.aSx:List Ex→Prop
 | []=>True
 |e::r=>e.few∧Ex.aSx r
end
theorem jt:∀(r:List Tr),(∀t∈r,t.s47)→∀l:Int,(if l<0 then l-5629499534050 else-5629499534050)≤iQ r l∧(iQ r l≤l∨iQ r l=-1)
 | [],_,l=>by unfold iQ;refine⟨?_, .inl (Kv _)⟩;split<;>omega
 |t::r,h,l=>by
  have hc:=sR (h t Kd);unfold iQ;by_cases q:l-dY t<0
  ·rw[if_pos q];refine⟨?_, .inr rfl⟩;split<;>omega
  rw[if_neg q];obtain⟨a,b⟩:=jt r (fun t ht=>h t (Kg _ ht)) (l-dY t);rw[if_neg q] at a;refine⟨?_,or⟩;split<;>omega
theorem k8{a:Am}(h:a.s47):(0:Int)≤(a.r.size / 50:Nat)∧((a.r.size / 50:Nat):Int)≤2814749767024:=by
 have:=h.1;unfold kY at this;omega
theorem ug{a:Am}(h:a.s47)(l:Int):(if l<0 then l else 0)-11258999068100≤fI a l∧(fI a l≤l-1∨fI a l=-1):=by
 have hn:=k8 h;obtain⟨x,y⟩:=jt a.l h.2 (l-(1+(a.r.size / 50:Nat)));unfold fI;split at x<;>split<;>omega
mutual
def Ex.ts:Ex→List Tr
 | .mk _ t _ ks=>if ks.isEmpty then [t] else Ex.tss ks
def Ex.tss:List Ex→List Tr
 | []=>[]
 |e::r=>e.ts++Ex.tss r
end
theorem Ex.aCc:∀l:List Ex,Ex.tss l=l.flatMap Ex.ts
 | []=>rfl
 |e::r=>by rw[Ex.tss,Ex.aCc r];rfl
theorem Ex.aFv(e:Ex):e.ts=if e.kids=[] then [e.t] else e.kids.flatMap Ex.ts:=by
 obtain⟨op,t,o,ks⟩:=e;rw[Ex.ts,Ex.aCc];cases ks<;>rfl
def zZ:Nat→Ex→Bool
 |0, .mk _ _ _ ks=>ks.isEmpty
 |n+1, .mk _ _ _ ks=>match ks with
  | []=>true
  | [a,b]=>zZ n a&&zZ n b
  |_=>false
theorem iz:∀(n:Nat) (e:Ex),eW n e=true→zZ n e=true
 |0, .mk op t o ks,h=>by
  unfold eW at h;obtain⟨_,rfl,_⟩:=of_decide_eq_true h;rfl
 |n+1, .mk op t o ks,h=>by
  unfold eW at h;split at h
  ·obtain⟨rfl,_⟩:=of_decide_eq_true h;rfl
  split at h
  ·rename_i a b;obtain⟨_,_,_,h1,h2⟩:=of_decide_eq_true h;simp only[zZ,iz n a h1,iz n b h2,Bool.and_true]
  cases h
theorem iy:∀(n:Nat) (e:Ex),zZ n e=true→e.ts.length≤2 ^ n
 |0, .mk op t o ks,h=>by
  cases ks with
  |nil=>simp[Ex.ts]
  |cons a r=>cases h
 |n+1, .mk op t o ks,h=>by
  have hp:1≤2 ^ n:=Nat.one_le_two_pow;match ks,h with
  | [],_=>simp[Ex.ts];omega
  | [a,b],h=>
   simp only[zZ,Kb] at h;have g1:=iy n a h.1;have g2:=iy n b h.2;simp[Ex.ts,Ex.tss,Nat.pow_succ];omega
theorem xp{m:Nat}{op:Int}{t:Tr}{o:Own}{ks:List Ex}(h:zZ m (.mk op t o ks)=true):ks.length≤2∧∀e∈ks,∃m,zZ m e=true:=by
 cases m with
 |zero=>
  cases ks with
  |nil=>simp
  |cons a r=>cases h
 |succ m=>
  match ks,h with
  | [],_=>simp
  | [a,b],h=>
   simp only[zZ,Kb] at h;refine⟨Zm,fun e he=>⟨m,?_⟩⟩;simp only[Ks,List.not_mem_nil,or_false] at he;rcases he with rfl|rfl
   ·exact h.1
   exact h.2
abbrev oh(e:Ex):Bool:=zZ 20 e
theorem uf{e:Ex}(h:qP e=true):oh e=true:=iz 20 e h
theorem lK{e:Ex}(h:oh e=true):e.ts.length≤1048576:=iy 20 e h
theorem br{e:Ex}(h:uY e=true):oh e=true:=by
 unfold uY at h;simp only[Kb,decide_eq_true_eq] at h;obtain⟨op,t,o,ks⟩:=e;have:ks=[]:=h.1.2;subst this;rfl
def cD(x:ByteArray)(l:List ByteArray):Bool:=l.any fun y=>decide (x=y)
theorem gN{x:ByteArray}{l:List ByteArray}:cD x l=true↔x∈l:=by simp[cD]
theorem iO{x:ByteArray}{l:List ByteArray}:cD x l=false↔x∉l:=by rw[←gN,Bool.not_eq_true]
def nmT(l:List ByteArray)(t:Tr):List ByteArray:=if (!decide (t.x.size=0)&& !cD t.x l)=true then l++[t.x] else l
def nmL(l:List ByteArray)(ts:List Tr):List ByteArray:=ts.foldl nmT l
def Li.ts(l:Li):List Tr:=l.a.l++(l.x.ts++l.y.ts)
def Li.vars(l:Li):List ByteArray:=nmL [] l.ts
def Ru.vars(r:Ru):List ByteArray:=r.b.foldl (fun o l=>nmL o l.ts) (nmL [] r.h.l)
theorem AY(l:List ByteArray)(a b:List Tr):nmL l (a++b)=nmL (nmL l a) b:=Ko ..
theorem AX(l:List ByteArray)(t:Tr):(nmT l t).length≤l.length+1:=by
 unfold nmT;split<;>simp
theorem lE:∀(ts:List Tr) (l:List ByteArray),(nmL l ts).length≤l.length+ts.length
 | [],l=>Kc _
 |t::r,l=>by
  have h1:=lE r (nmT l t);have h2:=AX l t;show(nmL (nmT l t) r).length≤_;simp only[Kq];omega
theorem A1{x:ByteArray}{l:List ByteArray}{t:Tr}:x∈nmT l t↔x∈l∨(t.x=x∧t.x.size≠0):=by
 unfold nmT;split
 ·rename_i h;simp only[Kb,Ke,decide_eq_false_iff_not] at h;rw[List.mem_append,Km];exact⟨fun e=>e.imp_right fun e=>⟨e.symm,h.1⟩,fun e=>e.imp_right fun e=>e.1.symm⟩
 rename_i h;refine⟨.inl,fun e=>e.elim id fun e=>?_⟩;simp only[Kb,Ke,decide_eq_false_iff_not,not_and,Bool.not_eq_false] at h;rw[←e.1];exact gN.1 (h e.2)
theorem td{x:ByteArray}:∀{ts:List Tr} {l:List ByteArray},x∈nmL l ts↔x∈l∨∃t∈ts,t.x=x∧t.x.size≠0
 | [],l=>by simp[nmL]
 |t::r,l=>by
  show x∈nmL (nmT l t) r↔_;rw[td (ts:=r),A1];simp only[Ks];constructor
  ·rintro((h|h)|⟨u,h1,h2⟩)
   ·exact .inl h
   ·exact .inr ⟨t, .inl rfl,h⟩
   exact .inr ⟨u, .inr h1,h2⟩
  rintro(h|⟨u,rfl|h1,h2⟩)
  ·exact .inl (.inl h)
  ·exact .inl (.inr h2)
  exact .inr ⟨u,h1,h2⟩
theorem vj{l:List ByteArray}{t:Tr}(h:l.Nodup):(nmT l t).Nodup:=by
 unfold nmT;split
 ·rename_i e;simp only[Kb,Ke,decide_eq_false_iff_not] at e;exact List.nodup_append.2 ⟨h,Zm,fun a ha b hb=>by rw[Km] at hb;subst hb;rintro rfl;exact iO.1 e.2 ha⟩
 exact h
theorem dm:∀{ts:List Tr} {l:List ByteArray},l.Nodup→(nmL l ts).Nodup
 | [],l,h=>h
 |t::r,l,h=>dm (ts:=r) (vj h)
theorem s9:∀(ts:List Tr) (l:List ByteArray),∃m,nmL l ts=l++m
 | [],l=>⟨[],by simp[nmL]⟩
 |t::r,l=>by
  obtain⟨m,h⟩:=s9 r (nmT l t);show∃m,nmL (nmT l t) r=_;rw[h];unfold nmT;split
  ·exact⟨_,List.append_assoc ..⟩
  exact⟨_,rfl⟩
theorem kE{l:Li}(h:cF l=true):l.a.l.length≤6∧oh l.x=true∧oh l.y=true:=by
 unfold cF at h;split at h
 ·simp only[Kb] at h;obtain⟨⟨⟨h1,_⟩,h2⟩,h3⟩:=h;unfold lR at h1;simp only[Kb,decide_eq_true_eq] at h1;exact⟨h1.1.2,br h2,br h3⟩
 simp only[Kb,decide_eq_true_eq] at h;exact⟨by rw[h.1.1.2.2.1];simp,uf h.1.2,uf h.2⟩
theorem gW{l:Li}(h:cF l=true):l.ts.length≤2097158:=by
 obtain⟨h1,h2,h3⟩:=kE h;have e2:=lK h2;have e3:=lK h3;simp only[Li.ts,List.length_append];omega
theorem dI{r:Ru}(h:eQ r=true):r.h.l.length≤6∧r.b.length≤8∧(∀l∈r.b,cF l=true):=by
 unfold eQ lR at h;simp only[Kb,decide_eq_true_eq,List.all_eq_true] at h;exact⟨h.1.1.1.1.2,h.1.2,h.2⟩
def vA(b:List Li)(o:List ByteArray):List ByteArray:=b.foldl (fun o l=>nmL o l.ts) o
theorem cd:∀(b:List Li) (o:List ByteArray),(∀l∈b,cF l=true)→(vA b o).length≤o.length+b.length*2097158
 | [],o,_=>by simp[vA]
 |l::b,o,h=>by
  have h1:=cd b (nmL o l.ts) fun x hx=>h x (Kg _ hx);have h2:=lE l.ts o;have h3:=gW (h l Kd);show(vA b (nmL o l.ts)).length≤_;simp only[Kq,Nat.add_mul,Nat.one_mul];omega
theorem pd(b:List Li)(o:List ByteArray)(i:Nat)(h:i<b.length):vA (b.take (i+1)) o=nmL (vA (b.take i) o) b[i].ts:=by
 unfold vA;rw[List.take_succ_eq_append_getElem h,Ko];rfl
theorem jn{r:Ru}(h:eQ r=true)(i:Nat):(vA (r.b.take i) (nmL [] r.h.l)).length≤16777270:=by
 obtain⟨h1,h2,h3⟩:=dI h;have a:=cd (r.b.take i) (nmL [] r.h.l) fun l hl=>h3 l (List.mem_of_mem_take hl);have b:=lE r.h.l [];have c:(r.b.take i).length≤8:=by rw[List.length_take];omega
 simp only[List.length_nil] at b;have d:=Nat.mul_le_mul_right 2097158 c;omega
end Go.Proofs.YtgbiopfghdilnaaGreatDoor
