/-
Texts of this proof,one behind the other. No conditions.
-/
import Derived.Test.YtgbiopfghdilnaaGreatDoorKd
import Derived.Test.YtgbiopfghdilnaaGreatDoorKdb
import Derived.Shelf.GgClosure.StringsIndexFunc
open Go.Proofs.YtgbiopfghdilnaaGreatDoor.Hp renaming le_refl→Ka
open Bool renaming and_eq_true→Kb,not_eq_true'→Ke,or_eq_true→Ki
open Nat renaming le_refl→Kc,zero_le→Kf,eq_zero_or_pos→Kk,add_zero→Kt,lt_or_ge→Ku
open List renaming mem_cons_self→Kd,mem_cons_of_mem→Kg,getD_eq_getElem?_getD→Kh,mem_singleton→Km,foldl_append→Ko,length_cons→Kq,mem_cons→Ks
open Array renaming getElem?_toList→Kj,toList_inj→Kp
open Int renaming le_refl→Kv
open Nat renaming reduceAdd→jA,reduceSub→jB,reduceLT→jC,reduceLeDiff→jD,reduceEqDiff→jE
open Int renaming reduceToNat→jF,natCast_add→jH,natCast_one→jI,natCast_zero→jJ
open List renaming length_cons→jL,length_nil→jM,replicate_succ→jN,replicate_zero→jO,cons_append→jP,nil_append→jQ
set_option linter.unusedSimpArgs false
set_option linter.unusedVariables false
set_option linter.unusedSectionVars false
set_option maxHeartbeats 8000000
namespace Go.Proofs.YtgbiopfghdilnaaGreatDoor
open Go.RowKit
def pK(a b:Int):Int:=if a<b then-1 else if b<a then 1 else 0
theorem bd{P:Program}{f:Nat}(hL:aE P f=some LB.aB9)(a:Int)(h:Hp):aL P f [.int .i64 a] h (.bool false):=by
 refine aJ (fun L=>trivial) fun h' nx hh=>aC hL fun hd=>?_;simp only[jL,jM,jA,jB,jN,jO,jP,jQ,V.undef];refine wl ?_;refine cP (aB h' (Ka _) ⟨?_,rfl⟩);simp[bne]
theorem xV{P:Program}{f f0:Nat}(hL:aE P f=some (LB.aDG f0))(hL0:aE P f0=some LB.aB9)(a b:Int)(h:Hp):aL P f [.int .i64 a, .int .i64 b] h (.int .i64 (pK a b)):=by
 refine aJ (fun L=>trivial) fun h' nx hh=>aC hL fun hd=>?_;simp only[jL,jM,jA,jB,jN,jO,jP,jQ,V.undef];refine wl ?_;refine aK (bd hL0 a _) rfl (aM _) ?_;refine Zn ?_;refine wl ?_;refine aK (bd hL0 b _) rfl (aM _) ?_;refine Zn ?_;refine wl ?_;refine cK _ rfl (fun hc=>?_) (fun hc=>?_)
 ·cases hc
 refine wl ?_;refine cK _ rfl (fun hc=>?_) (fun hc=>?_)
 ·cases hc
 refine wl ?_;refine cK _ rfl (fun hc=>?_) (fun hc=>?_)
 ·refine wl ?_;refine cP ?_;repeat (first|with_reducible refine iU ?_|with_reducible refine fN ?_|with_reducible refine gH ?_|with_reducible refine gI ?_)
  refine aB h' (Ka _) ⟨?_,rfl⟩;have:a<b:=by simpa using hc
  simp only[pK,if_pos this,go_sem,reduceIte,jA,jB,jC,jD,reduceCtorEq,jE,jF]
 refine wl ?_;have h1:¬a<b:=by simpa using hc
 refine cK _ rfl (fun hc2=>?_) (fun hc2=>?_)
 ·refine wl ?_;refine cP ?_;repeat (first|with_reducible refine iU ?_|with_reducible refine fN ?_|with_reducible refine gH ?_|with_reducible refine gI ?_)
  refine aB h' (Ka _) ⟨?_,rfl⟩;have:b<a:=by simpa using hc2
  simp only[pK,if_neg h1,if_pos this,go_sem,reduceIte,jA,jB,jC,jD,reduceCtorEq,jE,jF]
 refine wl ?_;have h2:¬b<a:=by simpa using hc2
 refine cP (aB h' (Ka _) ⟨?_,rfl⟩);simp only[pK,if_neg h1,if_neg h2,go_sem,reduceIte,jA,jB,jC,jD,reduceCtorEq,jE,jF]
def orI:List Int→Int
 | []=>0
 |x::l=>if x=0 then orI l else x
theorem qo{P:Program}{f:Nat}(hL:aE P f=some LB.aJ3)(own:Own)(l:List Int)(hl:l.length≤1000000000)(h:Hp):aL P f [.sl .leaf own (l.map (V.int .i64))] h (.int .i64 (orI l)):=by
 refine aJ (fun L=>trivial) fun h' nx hh=>aC hL fun hd=>?_;simp only[jL,jM,jA,jB,jN,jO,jP,jQ,V.undef];refine wle trivial ?_;refine qK (fun i:Nat=>i≤l.length∧orI l=orI (l.drop i)) (fun i=>⟨aF 18 0 [(0, .sl .leaf own (l.map (V.int .i64))),(3, .int .i64 0),(6, .sl .leaf own (l.map (V.int .i64))),(7, .int .i64 l.length),(8, .int .i64 i)],h',nx⟩) (fun i=>l.length-i) 0 ⟨Kf _,Zm⟩ ?_ ?_
 ·refine oq (by simp only[WkL,aF,jH,jI,jJ,go_sem,reduceIte,jA,jB,jC,jD,reduceCtorEq,jE,jF]) ?_ ?_
  ·exact Ka _
  omega
 rintro i ⟨hi,hno⟩;simp only[aF,go_sem,reduceIte,jA,jB,jC,jD,reduceCtorEq,jE,jF];refine wl ?_;refine cK _ rfl (fun hc=>?_) (fun hc=>?_)
 ·have hlt:i<l.length:=by simpa using hc
  have hg:=aS (V.int .i64) l i hlt;refine wle hg ?_;rw[List.drop_eq_getElem_cons hlt] at hno;refine cK _ rfl (fun hc=>?_) (fun hc=>?_)
  ·refine wl ?_;refine cP ?_;repeat (first|with_reducible refine iU ?_|with_reducible refine fN ?_|with_reducible refine gH ?_|with_reducible refine gI ?_)
   refine aB h' (Ka _) ⟨?_,rfl⟩;have:l[i]≠0:=by simpa using hc
   simp only[hno,orI,if_neg this,go_sem,reduceIte,jA,jB,jC,jD,reduceCtorEq,jE,jF]
  refine wl ?_;have:l[i]=0:=by simpa using hc
  refine kN (i+1) ⟨or,by rw[hno];simp[orI,this]⟩ or ?_;rw[eH or or];refine oq (by simp only[WkL,aF,jH,jI,jJ,go_sem,reduceIte,jA,jB,jC,jD,reduceCtorEq,jE,jF]) ?_ ?_
  ·exact Ka _
  omega
 have hge:i=l.length:=by have:¬i<l.length:=by simpa using hc
                         omega
 refine nD ?_;repeat (first|with_reducible refine iQ ?_|with_reducible refine gW ?_|with_reducible refine gX ?_|with_reducible refine bN ZM ?_|with_reducible refine fP ?_|with_reducible refine aP ?_)
 refine wl ?_;refine cP (aB h' (Ka _) ⟨?_,rfl⟩);refine Zn ?_;rw[hno,hge,List.drop_length];rfl
section
variable{P:Program}{k:Sh}{α:Type}(e:α→V)(aAI:∀x,(e x).fits k=true)
include aAI
end
def oh(k:Sh)(own:Own)(es:List V)(nx:Nat)(h:Hp)(v:V)(h':Hp):Prop:=(own= .nil∧v= .sl k .nil []∧h'=h)∨(own≠ .nil∧∃id,nx≤id∧v= .sl k (.tok id) es∧h'=h.set id .tip)
theorem tI{P:Program}{k:Sh}{f bs:Nat}(hL:aE P f=some (LB.aFB k bs))(hbs:bs≤140737)(own:Own)(es:List V)(hl:es.length≤1000000000)(hn:own= .nil→es=[])(h:Hp)(nx:Nat):
 aQ P f [.sl k own es] h nx fun v h' _=>oh k own es nx h v h':=by
 refine aC hL fun hd=>?_;simp only[jL,jM,jA,jB,jN,jO,jP,jQ,V.undef];refine wl ?_;by_cases ho:own= .nil
 ·subst ho;refine cK _ rfl (fun hc=>?_) (fun hc=>?_)
  ·refine wl ?_;refine cP ?_;repeat (first|with_reducible refine iU ?_|with_reducible refine fN ?_|with_reducible refine gH ?_|with_reducible refine gI ?_)
   refine aB h (Ka _) (.inl ⟨rfl,?_,rfl⟩);simp only[go_sem,reduceIte,jA,jB,jC,jD,reduceCtorEq,jE,jF]
  cases hc
 refine cK _ rfl (fun hc=>?_) (fun hc=>?_)
 ·exact absurd (by simpa using hc) ho
 have hb1:es.length*bs≤140737488355328:=oH hl hbs;repeat (first|with_reducible refine bH ?_|with_reducible refine aX ?_|with_reducible refine bL ?_|with_reducible refine aP ?_|with_reducible refine aN ?_|with_reducible refine bU ?_|(refine bM rfl (by simp only[cR,hb1,go_sem,reduceIte,jA,jB,jC,jD,reduceCtorEq,jE,jF];try omega) ?_;simp only[cR,hb1,go_sem,reduceIte,jA,jB,jC,jD,reduceCtorEq,jE,jF])|(with_reducible refine bE ?_))
 refine cP (aB (h.set (nx+1) .tip) ?_ (.inr ⟨ho,nx+1,or,?_,rfl⟩))
 ·intro m b e;have hm:∀b,h m=some b→m<nx:=fun b hb=>hd m b hb;simp only[Hp.aAN,Hp.aAs] at e⊢;split at e
  ·rename_i e1;rw[if_pos e1];exact e
  rename_i e1;have:=hm _ e;rw[if_neg e1,if_neg or,if_neg or];exact e
 simp only[go_sem,reduceIte,jA,jB,jC,jD,reduceCtorEq,jE,jF]
theorem n6{P:Program}{k:Sh}{f bs:Nat}(hL:aE P f=some (LB.aFB k bs))(hbs:bs≤140737)(own:Own)(es:List V)(hl:es.length≤1000000000)(hn:own= .nil→es=[])(hnm:∀L,bD L es)(h:Hp):
 aL P f [.sl k own es] h (V.sl k own es).loose:=by
 refine kT (fun L=>by cases own<;>simp[V.loose,V.names,hnm L,bD]) fun h' nx hh=>?_;have c:=tI hL hbs own es hl hn h' nx;refine⟨c.1,fun K cargs hlv hr hv=>((c.mono (R':=fun v' h'' _=>v'.loose=(V.sl k own es).loose∧h'.le h'') ?_).2 K cargs hlv hr hv)⟩;rintro v h'' nx' hnx (⟨rfl,rfl,rfl⟩|⟨ho,id,hid,rfl,rfl⟩)
 ·have he:=hn rfl;subst he;exact⟨rfl,Ka _⟩
 refine⟨(by cases own<;>first|exact absurd rfl ho|rfl),fK (Ka _) (aV.none (fun m b hm=>hlv m (hr.lt m b hm)) hid) _⟩
end Go.Proofs.YtgbiopfghdilnaaGreatDoor
namespace Go.Proofs.YtgbiopfghdilnaaGreatDoor
open Go.RowKit Go.Sort
structure C3{α:Type}(c:α→α→Int):Prop where
 eq:∀x y,c x y=0↔x=y
 aNY:∀x y,c x y<0↔0<c y x
 trans:∀x y z,c x y<0→c y z<0→c x z<0
section
variable{α β:Type}
def orC(a b:Int):Int:=if a=0 then b else a
theorem C3.self{c:α→α→Int}(h:C3 c)(x:α):c x x=0:=(h.eq x x).2 rfl
theorem C3.on{c:β→β→Int}(hc:C3 c){f:α→β}(hf:∀x y,f x=f y→x=y):C3 fun x y=>c (f x) (f y):=
 ⟨fun x y=>(hc.eq _ _).trans ⟨hf x y,fun e=>by rw[e]⟩,fun x y=>hc.aNY _ _,fun x y z=>hc.trans _ _ _⟩
def eK(c:α→α→Int):List α→List α→Int
 | [],[]=>0
 | [],_::_=>-1
 |_::_,[]=>1
 |a::x,b::y=>orC (c a b) (eK c x y)
theorem pq{c:α→α→Int}(h:C3 c):∀x y,eK c x y=0↔x=y
 | [],[]=>by simp[eK]
 | [],_::_=>by simp[eK]
 |_::_,[]=>by simp[eK]
 |a::x,b::y=>by
  unfold eK orC;split
  ·rename_i e;rw[pq h x y,(h.eq _ _).1 e];simp
  rename_i e;refine⟨fun k=>absurd k e,fun k=>absurd ((h.eq _ _).2 (by injection k)) e⟩
theorem bk{c:α→α→Int}(h:C3 c):∀x y,eK c x y<0↔0<eK c y x
 | [],[]=>by simp[eK]
 | [],_::_=>by simp[eK]
 |_::_,[]=>by simp[eK]
 |a::x,b::y=>by
  unfold eK orC;by_cases k:c a b=0
  ·have e:=(h.eq _ _).1 k;rw[if_pos k,if_pos (by rw[e];exact h.self _)];exact bk h x y
  rw[if_neg k,if_neg fun e=>k ((h.eq _ _).2 ((h.eq _ _).1 e).symm)];exact h.aNY _ _
theorem xU{c:α→α→Int}(h:C3 c):∀x y z,eK c x y<0→eK c y z<0→eK c x z<0
 | [],[],_=>by simp[eK]
 |_::_,[],_=>by simp[eK]
 | [],_::_,[]=>by simp[eK]
 | [],_::_,_::_=>by simp[eK]
 |_::_,_::_,[]=>by simp[eK]
 |a::x,b::y,d::z=>by
  unfold eK orC;by_cases k:c a b=0
  ·rw[if_pos k,(h.eq _ _).1 k];by_cases k2:c b d=0
   ·rw[if_pos k2,if_pos k2];exact xU h x y z
   rw[if_neg k2,if_neg k2];exact fun _ h=>h
  rw[if_neg k];intro h1;by_cases h2:c b d=0
  ·rw[if_pos h2];intro _;rw[←(h.eq _ _).1 h2,if_neg k];exact h1
  rw[if_neg h2];intro h3;have:=h.trans _ _ _ h1 h3;rw[if_neg or];exact this
theorem C3.list{c:α→α→Int}(h:C3 c):C3 (eK c):=⟨pq h,bk h,xU h⟩
end
structure Vl where
 k:Int
 n:Int
 s:ByteArray
 deriving DecidableEq
instance:Inhabited Vl:=⟨0,0,⟨#[]⟩⟩
def Vl.v(x:Vl):V:= .agg [.int .i64 x.k, .int .i64 x.n, .str x.s]
def xT(a b:UInt8):Int:=pK a.toNat b.toNat
def nz(a b:ByteArray):Int:=eK xT a.toList b.toList
def yv(a b:Vl):Int:=orC (pK a.k b.k) (orC (pK a.n b.n) (nz a.s b.s))
theorem c3I:C3 pK:=by
 refine⟨fun x y=>?_,fun x y=>?_,fun x y z=>?_⟩;all_goals unfold pK;repeat' split
 all_goals omega
theorem bo{a b:ByteArray}(h:a.toList=b.toList):a=b:=by
 rw[ByteArray.toList_eq,ByteArray.toList_eq] at h;cases a;cases b;congr 1;exact Kp.1 h
theorem c3S:C3 nz:=((c3I.on (f:=fun u:UInt8=>(u.toNat:Int)) fun x y e=>UInt8.toNat_inj.1 (by exact_mod_cast e)).list).on fun x y=>bo
theorem jq:∀x y:List UInt8,Op.bytesLess x y=decide (eK xT x y<0)
 | [],[]=>by simp[Op.bytesLess,eK]
 |_::_,[]=>by simp[Op.bytesLess,eK]
 | [],_::_=>by simp[Op.bytesLess,eK]
 |a::x,b::y=>by
  have e:(a<b)=(a.toNat<b.toNat):=rfl;simp only[Op.bytesLess,jq x y,eK,orC,xT,pK,e];by_cases h1:a.toNat<b.toNat
  ·have:(a.toNat:Int)<b.toNat:=or;simp[h1,this]
  by_cases h2:b.toNat<a.toNat
  ·have h3:(b.toNat:Int)<a.toNat:=or;have h4:a≠b:=fun e=>by rw[e] at h2;omega
   have h5:¬(a.toNat:Int)<b.toNat:=or;simp[h1,h3,h4,h5]
  have h3:a=b:=UInt8.toNat_inj.1 or;subst h3;simp
theorem eB(a b:ByteArray):(a.toList==b.toList)=decide (a=b):=by
 by_cases h:a=b
 ·subst h;simp
 have:a.toList≠b.toList:=fun e=>h (bo e);simp[h,this]
def byt(s:ByteArray)(i:Nat):Nat:=(s.data.toList.getD i 0).toNat
theorem pr(s:ByteArray)(i:Nat):(s.get! i).toNat=byt s i:=by
 cases s with
 |mk d=>
 show(d[i]!).toNat=(d.toList.getD i 0).toNat
 rw[Kh,Kj,getElem!_def];cases d[i]?<;>rfl
theorem di(s:ByteArray)(i:Nat)(h:byt s i<128):Utf8.decode s i=(byt s i,1):=by
 unfold Utf8.decode;simp only[Kt,pr];rw[if_pos h]
theorem nu(s:ByteArray)(i:Nat)(h:128≤byt s i):128≤(Utf8.decode s i).1:=by
 unfold Utf8.decode;simp only[Kt,pr];rw[if_neg or];repeat' split
 all_goals simp only[Utf8.runeError]
 all_goals (try simp only[ge_iff_le,Kb,decide_eq_true_eq] at*)
 all_goals omega
theorem pl(p:Nat→Bool)(hp:∀x,128≤x→p x=true)(s:ByteArray):∀f pos,s.size≤pos+f→(0≤Lib.idxFuncFrom p true s f pos↔∃i,pos≤i∧i<s.size∧p (byt s i)=true)
 |0,pos,h=>by
  simp only[Lib.idxFuncFrom];refine⟨fun k=>absurd k or,fun⟨i,h1,h2,_⟩=>or⟩
 |f+1,pos,h=>by
  simp only[Lib.idxFuncFrom];by_cases hps:pos<s.size
  ·rw[if_pos hps];by_cases hb:byt s pos<128
   ·rw[di s pos hb];by_cases hq:p (byt s pos)=true
    ·rw[if_pos hq];exact⟨fun _=>⟨pos,Kc _,hps,hq⟩,fun _=>or⟩
    rw[if_neg hq,pl p hp s f (pos+1) or];constructor
    ·rintro⟨i,h1,h2⟩;exact⟨i,or,h2⟩
    rintro⟨i,h1,h2,h3⟩;refine⟨i,?_,h2,h3⟩;by_cases e:i=pos
    ·subst e;exact absurd h3 hq
    omega
   have h1:=hp _ (nu s pos or);rw[if_pos h1];exact⟨fun _=>⟨pos,Kc _,hps,hp _ or⟩,fun _=>or⟩
  rw[if_neg hps];refine⟨fun k=>absurd k or,fun⟨i,h1,h2,_⟩=>or⟩
def fH(c:Nat):Bool:=decide (97≤c∧c≤122)
def oQ(c:Nat):Bool:=decide ((97≤c∧c≤122)∨(48≤c∧c≤57)∨c=95)
def iF(c:Nat):Bool:= !oQ c
theorem fi(x:Nat)(h:128≤x):iF x=true:=by
 simp only[iF,oQ,Ke,decide_eq_false_iff_not];omega
def kH(s:ByteArray):Bool:=decide (1≤s.size∧s.size≤32∧fH (byt s 0)=true∧∀i,i<s.size→oQ (byt s i)=true)
theorem fj(s:ByteArray):decide (0≤Lib.idxFunc iF true s)= !decide (∀i,i<s.size→oQ (byt s i)=true):=by
 have:=pl iF fi s s.size 0 or;unfold Lib.idxFunc;by_cases h:∀i,i<s.size→oQ (byt s i)=true
 ·rw[decide_eq_true h];simp only[Bool.not_true,decide_eq_false_iff_not,this];rintro⟨i,_,h2,h3⟩;simp[iF,h i h2] at h3
 rw[decide_eq_false h];simp only[Bool.not_false,decide_eq_true_eq,this]
 false_or_by_contra
 rename_i k;refine h fun i hi=>?_;by_cases e:oQ (byt s i)=true
 ·exact e
 exact absurd ⟨i,Kf _,hi,by simp[iF,e]⟩ k
def n7(n:Int):Bool:=decide (-2147483647≤n∧n≤2147483647)
def cd(x:Vl):Bool:=(decide (x.k=1)&&(decide (x.s.size=0)&&n7 x.n))||(decide (x.k=2)&&(decide (x.n=0)&&kH x.s))
section
variable{α:Type}{c:α→α→Int}
end
def ol:Vl:=⟨0,0,⟨#[]⟩⟩
def fL(c:Nat):Bool:=decide (65≤c∧c≤90)
def nb(c:Nat):Bool:=decide (48≤c∧c≤57)
def iB(c:Nat):Bool:=fH c||fL c||nb c||decide (c=95)
def nN(c:Nat):Bool:=decide (c=9∨c=10∨c=13∨c=32)
def kM(p:Nat→Bool)(s:ByteArray):Nat→Nat→Nat
 |0,i=>i
 |f+1,i=>if i<s.size∧p (byt s i)=true then kM p s f (i+1) else i
def iE(p:Nat→Bool)(s:ByteArray)(i:Nat):Nat:=kM p s (s.size-i) i
theorem ez(p:Nat→Bool)(s:ByteArray):∀(f i j:Nat),i≤j→j≤s.size→s.size≤i+f→(∀k,i≤k→k<j→p (byt s k)=true)→(j=s.size∨p (byt s j)=false)→kM p s f i=j
 |0,i,j,h1,h2,h3,_,_=>by show i=j;omega
 |f+1,i,j,h1,h2,h3,h4,h5=>by
  unfold kM;by_cases e:i=j
  ·subst e;rw[if_neg];rintro⟨q1,q2⟩;rcases h5 with h5|h5
   ·omega
   rw[q2] at h5;cases h5
  rw[if_pos ⟨or,h4 i (Kc _) or⟩];exact ez p s f (i+1) j or h2 or (fun k hk=>h4 k or) h5
theorem pR{p:Nat→Bool}{s:ByteArray}{i j:Nat}(h1:i≤j)(h2:j≤s.size)(h4:∀k,i≤k→k<j→p (byt s k)=true)(h5:j=s.size∨p (byt s j)=false):iE p s i=j:=
 ez p s _ i j h1 h2 or h4 h5
theorem vK(p:Nat→Bool)(s:ByteArray):∀(f i:Nat),i≤s.size→s.size≤i+f→i≤kM p s f i∧kM p s f i≤s.size∧(∀k,i≤k→k<kM p s f i→p (byt s k)=true)∧(kM p s f i=s.size∨p (byt s (kM p s f i))=false)
 |0,i,h1,h2=>⟨Kc _,h1,fun k a b=>absurd b (by show¬k<i;omega), .inl (by show i=_;omega)⟩
 |f+1,i,h1,h2=>by
  unfold kM;split
  ·rename_i h;obtain⟨a,b,c,d⟩:=vK p s f (i+1) or or;exact⟨or,b,fun k h3 h4=>by
    by_cases e:k=i
    ·subst e;exact h.2
    exact c k or h4,d⟩
  rename_i h;refine⟨Kc _,h1,fun k a b=>absurd b or,?_⟩;by_cases e:i<s.size
  ·right;cases hp:p (byt s i) with
   |false=>rfl
   |true=>exact absurd ⟨e,hp⟩ h
  left;omega
theorem lE(p:Nat→Bool)(s:ByteArray)(i:Nat)(h:i≤s.size):i≤iE p s i∧iE p s i≤s.size∧(∀k,i≤k→k<iE p s i→p (byt s k)=true)∧(iE p s i=s.size∨p (byt s (iE p s i))=false):=
 vK p s _ i h or
def iT(s:ByteArray):Nat→Nat→Nat
 |0,i=>i
 |f+1,i=>if i<s.size then if nN (byt s i)=true then iT s f (i+1) else if byt s i=37 then iT s f (iE (fun c=>decide (c≠10)) s i) else i else i
def bT(s:ByteArray)(i:Nat):Nat:=iT s (s.size-i) i
theorem uV{s:ByteArray}{i:Nat}(h:i<s.size)(hp:byt s i=37):i<iE (fun c=>decide (c≠10)) s i∧iE (fun c=>decide (c≠10)) s i≤s.size:=by
 obtain⟨a,b,c,d⟩:=lE (fun c=>decide (c≠10)) s i or;refine⟨?_,b⟩;rcases Ku i (iE (fun c=>decide (c≠10)) s i) with k|k
 ·exact k
 have e:iE (fun c=>decide (c≠10)) s i=i:=or;rw[e] at d;rcases d with d|d
 ·omega
 rw[hp] at d;cases d
theorem lP(s:ByteArray):∀(f g i:Nat),s.size≤i+f→s.size≤i+g→iT s f i=iT s g i
 |0,0,_,_,_=>rfl
 |0,g+1,i,h,_=>by unfold iT;rw[if_neg or]
 |f+1,0,i,_,h=>by unfold iT;rw[if_neg or]
 |f+1,g+1,i,h1,h2=>by
  unfold iT;by_cases h:i<s.size
  ·rw[if_pos h,if_pos h];split
   ·exact lP s f g _ or or
   split
   ·rename_i hp;have:=uV h hp;exact lP s f g _ or or
   rfl
  rw[if_neg h,if_neg h]
theorem nS{s:ByteArray}{i:Nat}(h:s.size≤i):bT s i=i:=by
 unfold bT;cases s.size-i with
 |zero=>rfl
 |succ n=>unfold iT;rw[if_neg or]
theorem fq{s:ByteArray}{i:Nat}(h:i<s.size)(hb:nN (byt s i)=true):bT s i=bT s (i+1):=by
 unfold bT;obtain⟨n,hn⟩:∃n,s.size-i=n+1:=⟨s.size-i-1,or⟩;rw[hn,iT,if_pos h,if_pos hb];exact lP s _ _ _ or or
theorem kz{s:ByteArray}{i:Nat}(h:i<s.size)(hb:nN (byt s i)=false)(hp:byt s i=37):bT s i=bT s (iE (fun c=>decide (c≠10)) s i):=by
 unfold bT;obtain⟨n,hn⟩:∃n,s.size-i=n+1:=⟨s.size-i-1,or⟩;rw[hn,iT,if_pos h,hb,if_neg Zm,if_pos hp];have:=uV h hp;exact lP s _ _ _ or or
theorem vQ{s:ByteArray}{i:Nat}(h:i<s.size)(hb:nN (byt s i)=false)(hp:byt s i≠37):bT s i=i:=by
 unfold bT;obtain⟨n,hn⟩:∃n,s.size-i=n+1:=⟨s.size-i-1,or⟩;rw[hn,iT,if_pos h,hb,if_neg Zm,if_neg hp]
theorem pW(s:ByteArray):∀(f i:Nat),i≤iT s f i∧(i≤s.size→iT s f i≤s.size)
 |0,i=>⟨Kc _,id⟩
 |f+1,i=>by
  unfold iT;split
  ·rename_i h;split
   ·have:=pW s f (i+1);exact⟨or,fun _=>this.2 or⟩
   split
   ·rename_i hp;have h1:=uV h hp;have:=pW s f (iE (fun c=>decide (c≠10)) s i);exact⟨or,fun _=>this.2 h1.2⟩
   exact⟨Kc _,id⟩
  exact⟨Kc _,id⟩
theorem pX(s:ByteArray)(i:Nat):i≤bT s i:=(pW s _ i).1
theorem fp{s:ByteArray}{i:Nat}(h:i≤s.size):bT s i≤s.size:=(pW s _ i).2 h
structure Tk where
 k:Int
 t:ByteArray
 a:Nat
 deriving Inhabited
def ip:List ByteArray:=[⟨[114,101,108].toArray⟩,⟨[105,110,116].toArray⟩,⟨[115,121,109].toArray⟩,⟨[110,111,116].toArray⟩,⟨[99,111,117,110,116].toArray⟩,⟨[115,117,109].toArray⟩,⟨[109,105,110].toArray⟩,⟨[109,97,120].toArray⟩]
def dT:List ByteArray:=[⟨[58,45].toArray⟩,⟨[33,61].toArray⟩,⟨[60,61].toArray⟩,⟨[62,61].toArray⟩,⟨[40].toArray⟩,⟨[41].toArray⟩,⟨[44].toArray⟩,⟨[46].toArray⟩,⟨[61].toArray⟩,⟨[60].toArray⟩,⟨[62].toArray⟩,⟨[43].toArray⟩,⟨[45].toArray⟩,⟨[42].toArray⟩]
def mt(w:ByteArray):Bool:=ip.any fun t=>t.data.toList==w.data.toList
theorem iq(w:ByteArray):mt w=true↔w∈ip:=by
 simp only[mt,List.any_eq_true,beq_iff_eq];constructor
 ·rintro⟨t,h1,h2⟩;have:t=w:=by
   cases t;cases w;simp only[Kp] at h2;rw[h2]
  exact this▸h1
 exact fun h=>⟨w,h,rfl⟩
def fS(κ:ByteArray→Int)(w:ByteArray):Int:=
 if mt w=true then 1 else if kH w=true then 2 else if fL (byt w 0)=true∧w.size≤32 then 3 else κ w
def pF(s t:ByteArray):Bool:=t.data.toList.isPrefixOf s.data.toList
def lQ(s:ByteArray):Nat:=iE iB s 0
def pY(r:ByteArray):Int×ByteArray:=match dT.find? (pF r) with
 |some t=>(5,t)
 |none=>(0,⟨#[]⟩)
def eN(κ:ByteArray→Int)(r:ByteArray):Int×ByteArray:=
 if 0<lQ r∧byt r 0≠95 then (fS κ (r.extract 0 (lQ r)),r.extract 0 (lQ r)) else pY r
def wV(κ:ByteArray→Int)(s:ByteArray):Nat→Nat→List Tk×Option Nat
 |0,_=>([],none)
 |f+1,i=>if i<s.size then
  if (eN κ (s.extract i s.size)).1=0 then ([],some i)
  else (⟨(eN κ (s.extract i s.size)).1,(eN κ (s.extract i s.size)).2,i⟩::(wV κ s f (bT s (i+(eN κ (s.extract i s.size)).2.size))).1,(wV κ s f (bT s (i+(eN κ (s.extract i s.size)).2.size))).2)
  else ([],none)
def gN(κ:ByteArray→Int)(s:ByteArray)(i:Nat):List Tk×Option Nat:=wV κ s (s.size-i) i
def qb(s:ByteArray):Bool:=decide (1≤s.size∧s.size≤32∧fL (byt s 0)=true∧∀i,i<s.size→iB (byt s i)=true)
def sv(s:ByteArray):Bool:=decide (kH s=true∧mt s=false)
theorem eA(s:ByteArray)(i j:Nat):(s.extract i j).size=min j s.size-i:=by
 rw[←ByteArray.size_data,ByteArray.data_extract,Array.size_extract,ByteArray.size_data]
theorem qY(s:ByteArray):s.extract 0 s.size=s:=by
 apply ByteArray.ext;rw[ByteArray.data_extract,←ByteArray.size_data];exact Array.extract_size
theorem pt{s:ByteArray}{i j k:Nat}(h:i+k<j)(h2:j≤s.size):byt (s.extract i j) k=byt s (i+k):=by
 unfold byt;rw[ByteArray.data_extract];have h2:j≤s.data.size:=h2;congr 1;simp only[Kh,Kj];rw[Array.getElem?_extract,if_pos or]
theorem b8(s:ByteArray):lQ s≤s.size:=(lE iB s 0 (Kf _)).2.1
theorem vR(r:ByteArray):pY r=(0,⟨#[]⟩)∨∃t,pY r=(5,t)∧t∈dT∧pF r t=true:=by
 unfold pY;cases h:dT.find? (pF r) with
 |none=>exact .inl rfl
 |some t=>exact .inr ⟨t,rfl,List.mem_of_find?_eq_some h,List.find?_some h⟩
theorem k7:∀t∈dT,0<t.size:=by decide+kernel
theorem qm{r t:ByteArray}(h:pF r t=true):t.size≤r.size:=by
 have:=(List.isPrefixOf_iff_prefix.1 h).length_le;simpa only[Array.length_toList,ByteArray.size_data] using this
theorem iZ{κ:ByteArray→Int}{r:ByteArray}(h:(eN κ r).1≠0):0<(eN κ r).2.size∧(eN κ r).2.size≤r.size:=by
 unfold eN at h⊢;split
 ·rename_i c;have:=b8 r;show 0<(r.extract 0 (lQ r)).size∧(r.extract 0 (lQ r)).size≤r.size;rw[eA];omega
 rename_i c;rw[if_neg c] at h;rcases vR r with e|⟨t,e,h1,h2⟩
 ·rw[e] at h;exact absurd rfl h
 rw[e];exact⟨k7 t h1,qm h2⟩
theorem am(κ:ByteArray→Int)(s:ByteArray):∀(f g i:Nat),s.size≤i+f→s.size≤i+g→wV κ s f i=wV κ s g i
 |0,0,_,_,_=>rfl
 |0,g+1,i,h,_=>by unfold wV;rw[if_neg or]
 |f+1,0,i,_,h=>by unfold wV;rw[if_neg or]
 |f+1,g+1,i,h1,h2=>by
  unfold wV;by_cases h:i<s.size
  ·rw[if_pos h,if_pos h];split
   ·rfl
   rename_i h0;have h3:=(iZ h0).1;have h4:=pX s (i+(eN κ (s.extract i s.size)).2.size);rw[am κ s f g _ or or]
  rw[if_neg h,if_neg h]
theorem jV{κ:ByteArray→Int}{s:ByteArray}{i:Nat}(h:s.size≤i):gN κ s i=([],none):=by
 unfold gN;cases s.size-i with
 |zero=>rfl
 |succ n=>unfold wV;rw[if_neg or]
theorem wW{κ:ByteArray→Int}{s:ByteArray}{i:Nat}(h:i<s.size)(h0:(eN κ (s.extract i s.size)).1=0):gN κ s i=([],some i):=by
 unfold gN;obtain⟨n,hn⟩:∃n,s.size-i=n+1:=⟨s.size-i-1,or⟩;rw[hn,wV,if_pos h,if_pos h0]
theorem oA{κ:ByteArray→Int}{s:ByteArray}{i:Nat}{k:Int}{t:ByteArray}(h:i<s.size)(hn:eN κ (s.extract i s.size)=(k,t))(h0:k≠0):
 gN κ s i=(⟨k,t,i⟩::(gN κ s (bT s (i+t.size))).1,(gN κ s (bT s (i+t.size))).2):=by
 have h1:=iZ (κ:=κ) (r:=s.extract i s.size) (by rw[hn];exact h0);rw[hn] at h1;dsimp only at h1;have h4:=pX s (i+t.size);unfold gN;obtain⟨n,hn'⟩:∃n,s.size-i=n+1:=⟨s.size-i-1,or⟩;rw[hn',wV,if_pos h,hn,if_neg h0];dsimp only;rw[am κ s n (s.size-bT s (i+t.size)) _ or or]
theorem mr:∀t∈ip,fH (byt t 0)=true:=by decide+kernel
theorem tF{c:Nat}(h:fL c=true):fH c=false:=by
 simp only[fL,fH,decide_eq_true_eq,decide_eq_false_iff_not] at*;omega
theorem rn{c:Nat}(h:oQ c=true):iB c=true:=by
 simp only[oQ,iB,fH,fL,nb,decide_eq_true_eq,Ki] at*;omega
theorem se{κ:ByteArray→Int}{s:ByteArray}(h:qb s=true):fS κ s=3:=by
 obtain⟨h1,h2,h3,h4⟩:=of_decide_eq_true h;unfold fS;rw[if_neg (fun k=>by have:=mr s ((iq s).1 k);rw[tF h3] at this;cases this),if_neg (fun k=>by have:=(of_decide_eq_true k).2.2.1;rw[tF h3] at this;cases this),if_pos ⟨h3,h2⟩]
theorem su{κ:ByteArray→Int}{s:ByteArray}(h:sv s=true):fS κ s=2:=by
 obtain⟨h1,h2⟩:=of_decide_eq_true h;unfold fS;rw[if_neg (by rw[h2];simp),if_pos h1]
theorem pi{κ:ByteArray→Int}{s:ByteArray}(h1:1≤s.size)(h2:∀i,i<s.size→iB (byt s i)=true)(h3:byt s 0≠95)(h0:fS κ s≠0):gN κ s (bT s 0)=([⟨fS κ s,s,0⟩],none):=by
 have hw:=h2 0 or;have hb:nN (byt s 0)=false:=by
  simp only[iB,fH,fL,nb,nN,Ki,decide_eq_true_eq,decide_eq_false_iff_not] at*;omega
 have hp:byt s 0≠37:=by
  simp only[iB,fH,fL,nb,Ki,decide_eq_true_eq] at hw;omega
 rw[vQ or hb hp];have hr:lQ s=s.size:=pR (Kf _) (Kc _) (fun k _ hk=>h2 k hk) (.inl rfl);have hn:eN κ (s.extract 0 s.size)=(fS κ s,s):=by
  rw[qY];unfold eN;rw[hr,if_pos ⟨or,h3⟩,qY]
 rw[oA or hn h0,nS or,jV or]
theorem ic{κ:ByteArray→Int}{s:ByteArray}{k:Int}{l:List Tk}{b:Option Nat}{t:Tk}(h:gN κ s (bT s 0)=(t::l,b))(hk:t.k=k)(h5:k≠5)(ht:t.t=s)(hs:0<s.size):
 t.a=0∧fS κ s=k∧byt s 0≠95∧∀i,i<s.size→iB (byt s i)=true:=by
 rcases Ku (bT s 0) s.size with hi|hi
 ·obtain⟨k',t',hn⟩:∃k' t',eN κ (s.extract (bT s 0) s.size)=(k',t'):=⟨_,_,rfl⟩;by_cases h0:k'=0
  ·rw[wW hi (by rw[hn];exact h0)] at h;cases h
  have hz:=iZ (κ:=κ) (r:=s.extract (bT s 0) s.size) (by rw[hn];exact h0);rw[oA hi hn h0] at h;injection h with h _;injection h with h _;subst h;simp only at ht hk;subst ht hk;rw[hn,eA] at hz;have h00:bT t' 0=0:=by simp only at hz;omega
  rw[h00,qY] at hn;unfold eN at hn;split at hn
  ·rename_i c;injection hn with e1 e2;have hr:lQ t'=t'.size:=by
    have:=b8 t';have:=congrArg ByteArray.size e2;rw[eA] at this;omega
   rw[hr,qY] at e1;obtain⟨_,_,q,_⟩:=lE iB t' 0 (Kf _);exact⟨h00,e1,c.2,fun i hi=>q i (Kf _) (by show i<lQ t';omega)⟩
  rcases vR t' with e|⟨t2,e,_⟩
  ·rw[e] at hn;injection hn with e1;exact absurd e1.symm h0
  rw[e] at hn;injection hn with e1;exact absurd e1.symm h5
 rw[jV hi] at h;cases h
theorem v8{κ:ByteArray→Int}(hκ:∀w,κ w=0∨κ w=4)(s:ByteArray):gN κ s (bT s 0)=([⟨3,s,0⟩],none)↔qb s=true:=by
 constructor
 ·intro h;have hs:0<s.size:=by
   rcases Kk s.size with e|e
   ·rw[nS or,jV or] at h;cases h
   exact e
  obtain⟨_,hw,_,aAo⟩:=ic h rfl Zm rfl hs;dsimp only at hw;refine decide_eq_true ?_;unfold fS at hw;split at hw
  ·cases hw
  split at hw
  ·cases hw
  split at hw
  ·rename_i c;exact⟨or,c.2,c.1,aAo⟩
  have:=hκ s;omega
 intro h;have hv:=se (κ:=κ) h;obtain⟨h1,h2,h3,h4⟩:=of_decide_eq_true h;have:=pi (κ:=κ) h1 h4 (by simp only[fL,decide_eq_true_eq] at h3;omega) (by rw[hv];decide);rw[hv] at this;exact this
theorem wa{κ:ByteArray→Int}(hκ:∀w,κ w=0∨κ w=4)(s:ByteArray):gN κ s (bT s 0)=([⟨2,s,0⟩],none)↔sv s=true:=by
 constructor
 ·intro h;have hs:0<s.size:=by
   rcases Kk s.size with e|e
   ·rw[nS or,jV or] at h;cases h
   exact e
  obtain⟨_,hw,_,aAo⟩:=ic h rfl Zm rfl hs;dsimp only at hw;refine decide_eq_true ?_;unfold fS at hw;split at hw
  ·cases hw
  split at hw
  ·rename_i c1 c2;exact⟨c2,by simpa using c1⟩
  split at hw
  ·cases hw
  have:=hκ s;omega
 intro h;have hv:=su (κ:=κ) h;obtain⟨h1,h2⟩:=of_decide_eq_true h;obtain⟨g1,g2,g3,g4⟩:=of_decide_eq_true h1;have:=pi (κ:=κ) g1 (fun i hi=>rn (g4 i hi)) (by simp only[fH,decide_eq_true_eq] at g3;omega) (by rw[hv];decide);rw[hv] at this;exact this
structure Tr where
 x:ByteArray
 w:Vl
 deriving DecidableEq
instance:Inhabited Tr:=⟨⟨#[]⟩,default⟩
def Tr.cs(t:Tr):List V:=[.str t.x, .int .i64 t.w.k, .int .i64 t.w.n, .str t.w.s]
def Tr.v(t:Tr):V:= .agg [.str t.x, .int .i64 t.w.k, .int .i64 t.w.n, .str t.w.s]
theorem Tr.aAK(t:Tr):t.v.fits (.agg 4)=true:=rfl
theorem Tr.aAu(L:Nat→Prop)(t:Tr):t.v.names L:=by simp[Tr.v,V.names,bD]
abbrev trs(o:Own)(l:List Tr):V:= .sl (.agg 4) o (l.map Tr.v)
def om:Tr:=⟨⟨#[]⟩,ol⟩
inductive Ex where
 |mk (op:Int) (t:Tr) (o:Own) (kids:List Ex)
mutual
def Ex.v:Ex→V
 | .mk op t o ks=> .agg [.int .i64 op, .str t.x, .int .i64 t.w.k, .int .i64 t.w.n, .str t.w.s, .sl (.agg 6) o (Ex.vs ks)]
def Ex.vs:List Ex→List V
 | []=>[]
 |e::r=>e.v::Ex.vs r
end
instance:Inhabited Ex:=⟨.mk 0 om .nil []⟩
theorem Ex.aDm:∀l:List Ex,Ex.vs l=l.map Ex.v
 | []=>rfl
 |e::r=>by rw[Ex.vs,Ex.aDm r];rfl
theorem Ex.aAK(e:Ex):e.v.fits (.agg 6)=true:=by cases e;rfl
def Ex.op:Ex→Int| .mk op _ _ _=>op
def Ex.t:Ex→Tr| .mk _ t _ _=>t
def Ex.o:Ex→Own| .mk _ _ o _=>o
def Ex.kids:Ex→List Ex| .mk _ _ _ ks=>ks
def Ex.cs(e:Ex):List V:=[.int .i64 e.op, .str e.t.x, .int .i64 e.t.w.k, .int .i64 e.t.w.n, .str e.t.w.s, .sl (.agg 6) e.o (e.kids.map Ex.v)]
theorem Ex.aAw(e:Ex):e.v= .agg e.cs:=by cases e;simp[Ex.v,Ex.cs,Ex.aDm,Ex.op,Ex.t,Ex.o,Ex.kids]
structure Am where
 r:ByteArray
 o:Own
 l:List Tr
def Am.v(a:Am):V:= .agg [.str a.r,trs a.o a.l]
structure Li where
 k:Int
 a:Am
 op:Int
 x:Ex
 y:Ex
 at_:Int
def Li.v(l:Li):V:= .agg ([.int .i64 l.k, .str l.a.r,trs l.a.o l.a.l, .int .i64 l.op]++l.x.cs++l.y.cs++[.int .i64 l.at_])
theorem Li.aAK(l:Li):l.v.fits (.agg 17)=true:=rfl
structure Ru where
 h:Am
 g:Int
 c:Int
 o:Own
 b:List Li
 at_:Int
def Ru.v(r:Ru):V:= .agg [.str r.h.r,trs r.h.o r.h.l, .int .i64 r.g, .int .i64 r.c, .sl (.agg 17) r.o (r.b.map Li.v), .int .i64 r.at_]
def oW(t:Tr):Bool:=decide (t.x.size=0∧t.w.k=0∧t.w.n=0∧t.w.s.size=0)
def j7(w:Vl):Bool:=decide (w.k=0∧w.n=0∧w.s.size=0)
def gJ(t:Tr):Bool:=if t.x.size=0 then cd t.w else qb t.x&&j7 t.w
def dQ:Nat→Ex→Int
 |0, .mk op t _ ks=>if op=0∧ks=[]∧gJ t=true then 0 else-1
 |n+1, .mk op t _ ks=>if op=0∧ks=[]∧gJ t=true then 0 else
  match ks with
  | [a,b]=>if 1≤op∧op≤3∧oW t=true then (if dQ n a<0∨dQ n b<0 then-1 else 1+yR true (dQ n a) (dQ n b)) else-1
  |_=>-1
def lR:Nat→Ex→Bool
 |0, .mk op t _ ks=>decide (op=0∧ks=[]∧gJ t=true)
 |n+1, .mk op t _ ks=>if op=0 then decide (ks=[]∧gJ t=true) else
  match ks with
  | [a,b]=>decide (1≤op∧op≤3∧oW t=true∧lR n a=true∧lR n b=true)
  |_=>false
theorem lL:∀(n:Nat) (e:Ex),-1≤dQ n e∧dQ n e≤n
 |0, .mk op t o ks=>by unfold dQ;split<;>omega
 |n+1, .mk op t o ks=>by
  unfold dQ;split
  ·omega
  split
  ·rename_i a b _;have h1:=lL n a;have h2:=lL n b;split
   ·split
    ·omega
    unfold yR;rw[if_pos rfl];split<;>omega
   omega
  omega
theorem sJ:∀(n:Nat) (e:Ex),0≤dQ n e↔lR n e=true
 |0, .mk op t o ks=>by
  unfold dQ lR;split
  ·rename_i h;simpa using h
  rename_i h;simpa using h
 |n+1, .mk op t o ks=>by
  unfold dQ lR;by_cases h0:op=0
  ·by_cases h1:ks=[]∧gJ t=true
   ·rw[if_pos ⟨h0,h1⟩,if_pos h0];simpa using h1
   rw[if_neg (fun h=>h1 h.2),if_pos h0,decide_eq_false h1];split
   ·rw[if_neg or];simp
   simp
  rw[if_neg (fun h=>h0 h.1),if_neg h0];split
  ·rename_i a b;have h1:=sJ n a;have h2:=sJ n b;have g1:=lL n a;have g2:=lL n b;rw[decide_eq_true_eq,←h1,←h2];split
   ·rename_i c;split
    ·constructor
     ·intro h;omega
     intro h;omega
    unfold yR;rw[if_pos rfl];exact⟨fun _=>⟨c.1,c.2.1,c.2.2,or,or⟩,fun _=>by split<;>omega⟩
   rename_i c;exact⟨fun h=>or,fun h=>absurd ⟨h.1,h.2.1,h.2.2.1⟩ c⟩
  simp
def pC(e:Ex):Bool:=lR 20 e
def lS(a:Am):Bool:=sv a.r&&decide (a.l.length≤6)&&a.l.all gJ
def sP(e:Ex):Bool:=decide (e.op=0∧e.kids=[])&&oW e.t
def cT(l:Li):Bool:=
 if l.k=1∨l.k=2 then lS l.a&&decide (l.op=0)&&sP l.x&&sP l.y
 else decide (l.k=3∧l.a.r.size=0∧l.a.l=[]∧1≤l.op∧l.op≤6)&&pC l.x&&pC l.y
def xg(r:Ru):Bool:=
 if r.g=0 then decide (r.c=0) else decide (0≤r.g∧r.g≤4∧0≤r.c∧r.c<r.h.l.length∧(r.h.l.getD r.c.toNat om).x.size≠0)
def eM(r:Ru):Bool:=lS r.h&&xg r&&decide (r.b.length≤8)&&r.b.all cT
def oR:Nat:=140737488351232
def Tr.s47(t:Tr):Prop:=t.x.size≤oR∧t.w.s.size≤oR
mutual
def Ex.s47:Ex→Prop
 | .mk _ t _ ks=>t.s47∧Ex.aFC ks
def Ex.aFC:List Ex→Prop
 | []=>True
 |e::r=>e.s47∧Ex.aFC r
end
theorem Ex.aA2:∀{l:List Ex},Ex.aFC l↔∀e∈l,e.s47
 | []=>by simp[Ex.aFC]
 |e::r=>by simp[Ex.aFC,Ex.aA2 (l:=r)]
def Am.s47(a:Am):Prop:=a.r.size≤oR∧∀t∈a.l,t.s47
def Li.s47(l:Li):Prop:=l.a.s47∧l.x.s47∧l.y.s47
def Ru.s47(r:Ru):Prop:=r.h.s47∧∀l∈r.b,l.s47
def dN(t:Tr):Int:=1+((t.x.size+t.w.s.size)/ 50:Nat)
theorem rC{t:Tr}(h:t.s47):1≤dN t∧dN t≤5629499534050:=by
 obtain⟨h1,h2⟩:=h;unfold oR at h1 h2;unfold dN;omega
mutual
def kA:Ex→Int→Int
 | .mk _ t _ ks,l=>hP ks (l-dN t)
def hP:List Ex→Int→Int
 | [],l=>l
 |k::r,l=>if l<0 then-1 else hP r (kA k l)
end
def hZ:List Tr→Int→Int
 | [],l=>l
 |t::r,l=>if l-dN t<0 then-1 else hZ r (l-dN t)
def eV(a:Am)(l:Int):Int:=hZ a.l (l-(1+(a.r.size / 50:Nat)))
def rc(b:Li)(l:Int):Int:=kA b.y (kA b.x (eV b.a l))
def wU:List Li→Int→Int
 | [],l=>l
 |b::r,l=>if l<0 then-1 else wU r (rc b l)
def sq(r:Ru):Int:=wU r.b (eV r.h 300)
theorem c8:∀(n:Nat) (e:Ex),SizeOf.sizeOf e≤n→e.s47→∀l:Int,(if l<0 then l else 0)-5629499534050≤kA e l∧(kA e l≤l-1∨kA e l=-1)
 |0, .mk op t o ks,h,_,l=>by simp at h
 |n+1, .mk op t o ks,h,hs,l=>by
  have hc:=rC hs.1;have key:∀(r:List Ex),(∀e∈r,SizeOf.sizeOf e≤n∧e.s47)→∀l:Int,((if l<0 then l else-5629499534050)≤hP r l)∧(hP r l≤l∨hP r l=-1):=by
   intro r;induction r with
   |nil=>intro _ l;unfold hP;refine⟨?_, .inl (Kv _)⟩;split<;>omega
   |cons k r ih=>
    intro hr l;unfold hP;by_cases h0:l<0
    ·rw[if_pos h0,if_pos h0];exact⟨or, .inr rfl⟩
    rw[if_neg h0,if_neg h0];obtain⟨a,b⟩:=c8 n k (hr k Kd).1 (hr k Kd).2 l;rw[if_neg h0] at a;obtain⟨c,d⟩:=ih (fun e he=>hr e (Kg _ he)) (kA k l);generalize hP r (kA k l)=z at c d;generalize kA k l=y at a b c d;split at c
    ·omega
    omega
  have hk:∀e∈ks,SizeOf.sizeOf e≤n∧e.s47:=fun e he=>by
   refine⟨?_,Ex.aA2.1 hs.2 e he⟩;have:=List.sizeOf_lt_of_mem he;simp only[Ex.mk.sizeOf_spec] at h;omega
  obtain⟨a,b⟩:=key ks hk (l-dN t);unfold kA;generalize hP ks (l-dN t)=z at a b;split at a<;>split<;>omega
mutual
def Ex.few:Ex→Prop
 | .mk _ _ _ ks=>ks.length≤300∧Ex.aOD ks
def Ex.aOD:List Ex→Prop
 | []=>True
 |e::r=>e.few∧Ex.aOD r
end
theorem ff:∀(r:List Tr),(∀t∈r,t.s47)→∀l:Int,(if l<0 then l-5629499534050 else-5629499534050)≤hZ r l∧(hZ r l≤l∨hZ r l=-1)
 | [],_,l=>by unfold hZ;refine⟨?_, .inl (Kv _)⟩;split<;>omega
 |t::r,h,l=>by
  have hc:=rC (h t Kd);unfold hZ;by_cases q:l-dN t<0
  ·rw[if_pos q];refine⟨?_, .inr rfl⟩;split<;>omega
  rw[if_neg q];obtain⟨a,b⟩:=ff r (fun t ht=>h t (Kg _ ht)) (l-dN t);rw[if_neg q] at a;refine⟨?_,or⟩;split<;>omega
theorem gw{a:Am}(h:a.s47):(0:Int)≤(a.r.size / 50:Nat)∧((a.r.size / 50:Nat):Int)≤2814749767024:=by
 have:=h.1;unfold oR at this;omega
theorem pw{a:Am}(h:a.s47)(l:Int):(if l<0 then l else 0)-11258999068100≤eV a l∧(eV a l≤l-1∨eV a l=-1):=by
 have hn:=gw h;obtain⟨x,y⟩:=ff a.l h.2 (l-(1+(a.r.size / 50:Nat)));unfold eV;split at x<;>split<;>omega
mutual
def Ex.ts:Ex→List Tr
 | .mk _ t _ ks=>if ks.isEmpty then [t] else Ex.tss ks
def Ex.tss:List Ex→List Tr
 | []=>[]
 |e::r=>e.ts++Ex.tss r
end
theorem Ex.aCX:∀l:List Ex,Ex.tss l=l.flatMap Ex.ts
 | []=>rfl
 |e::r=>by rw[Ex.tss,Ex.aCX r];rfl
theorem Ex.aFN(e:Ex):e.ts=if e.kids=[] then [e.t] else e.kids.flatMap Ex.ts:=by
 obtain⟨op,t,o,ks⟩:=e;rw[Ex.ts,Ex.aCX];cases ks<;>rfl
def yA:Nat→Ex→Bool
 |0, .mk _ _ _ ks=>ks.isEmpty
 |n+1, .mk _ _ _ ks=>match ks with
  | []=>true
  | [a,b]=>yA n a&&yA n b
  |_=>false
theorem dm:∀(n:Nat) (e:Ex),lR n e=true→yA n e=true
 |0, .mk op t o ks,h=>by
  unfold lR at h;obtain⟨_,rfl,_⟩:=of_decide_eq_true h;rfl
 |n+1, .mk op t o ks,h=>by
  unfold lR at h;split at h
  ·obtain⟨rfl,_⟩:=of_decide_eq_true h;rfl
  split at h
  ·rename_i a b;obtain⟨_,_,_,h1,h2⟩:=of_decide_eq_true h;simp only[yA,dm n a h1,dm n b h2,Bool.and_true]
  cases h
theorem dl:∀(n:Nat) (e:Ex),yA n e=true→e.ts.length≤2 ^ n
 |0, .mk op t o ks,h=>by
  cases ks with
  |nil=>simp[Ex.ts]
  |cons a r=>cases h
 |n+1, .mk op t o ks,h=>by
  have hp:1≤2 ^ n:=Nat.one_le_two_pow;match ks,h with
  | [],_=>simp[Ex.ts];omega
  | [a,b],h=>
   simp only[yA,Kb] at h;have g1:=dl n a h.1;have g2:=dl n b h.2;simp[Ex.ts,Ex.tss,Nat.pow_succ];omega
theorem r5{m:Nat}{op:Int}{t:Tr}{o:Own}{ks:List Ex}(h:yA m (.mk op t o ks)=true):ks.length≤2∧∀e∈ks,∃m,yA m e=true:=by
 cases m with
 |zero=>
  cases ks with
  |nil=>simp
  |cons a r=>cases h
 |succ m=>
  match ks,h with
  | [],_=>simp
  | [a,b],h=>
   simp only[yA,Kb] at h;refine⟨Zm,fun e he=>⟨m,?_⟩⟩;simp only[Ks,List.not_mem_nil,or_false] at he;rcases he with rfl|rfl
   ·exact h.1
   exact h.2
abbrev jw(e:Ex):Bool:=yA 20 e
theorem pu{e:Ex}(h:pC e=true):jw e=true:=dm 20 e h
theorem kJ{e:Ex}(h:jw e=true):e.ts.length≤1048576:=dl 20 e h
theorem zC{e:Ex}(h:sP e=true):jw e=true:=by
 unfold sP at h;simp only[Kb,decide_eq_true_eq] at h;obtain⟨op,t,o,ks⟩:=e;have:ks=[]:=h.1.2;subst this;rfl
def bZ(x:ByteArray)(l:List ByteArray):Bool:=l.any fun y=>decide (x=y)
theorem fC{x:ByteArray}{l:List ByteArray}:bZ x l=true↔x∈l:=by simp[bZ]
theorem gZ{x:ByteArray}{l:List ByteArray}:bZ x l=false↔x∉l:=by rw[←fC,Bool.not_eq_true]
def nmT(l:List ByteArray)(t:Tr):List ByteArray:=if (!decide (t.x.size=0)&& !bZ t.x l)=true then l++[t.x] else l
def nmL(l:List ByteArray)(ts:List Tr):List ByteArray:=ts.foldl nmT l
def Li.ts(l:Li):List Tr:=l.a.l++(l.x.ts++l.y.ts)
def Li.vars(l:Li):List ByteArray:=nmL [] l.ts
def Ru.vars(r:Ru):List ByteArray:=r.b.foldl (fun o l=>nmL o l.ts) (nmL [] r.h.l)
theorem wd(l:List ByteArray)(a b:List Tr):nmL l (a++b)=nmL (nmL l a) b:=Ko ..
theorem wc(l:List ByteArray)(t:Tr):(nmT l t).length≤l.length+1:=by
 unfold nmT;split<;>simp
theorem lT:∀(ts:List Tr) (l:List ByteArray),(nmL l ts).length≤l.length+ts.length
 | [],l=>Kc _
 |t::r,l=>by
  have h1:=lT r (nmT l t);have h2:=wc l t;show(nmL (nmT l t) r).length≤_;simp only[Kq];omega
theorem we{x:ByteArray}{l:List ByteArray}{t:Tr}:x∈nmT l t↔x∈l∨(t.x=x∧t.x.size≠0):=by
 unfold nmT;split
 ·rename_i h;simp only[Kb,Ke,decide_eq_false_iff_not] at h;rw[List.mem_append,Km];exact⟨fun e=>e.imp_right fun e=>⟨e.symm,h.1⟩,fun e=>e.imp_right fun e=>e.1.symm⟩
 rename_i h;refine⟨.inl,fun e=>e.elim id fun e=>?_⟩;simp only[Kb,Ke,decide_eq_false_iff_not,not_and,Bool.not_eq_false] at h;rw[←e.1];exact fC.1 (h e.2)
theorem lV{x:ByteArray}:∀{ts:List Tr} {l:List ByteArray},x∈nmL l ts↔x∈l∨∃t∈ts,t.x=x∧t.x.size≠0
 | [],l=>by simp[nmL]
 |t::r,l=>by
  show x∈nmL (nmT l t) r↔_;rw[lV (ts:=r),we];simp only[Ks];constructor
  ·rintro((h|h)|⟨u,h1,h2⟩)
   ·exact .inl h
   ·exact .inr ⟨t, .inl rfl,h⟩
   exact .inr ⟨u, .inr h1,h2⟩
  rintro(h|⟨u,rfl|h1,h2⟩)
  ·exact .inl (.inl h)
  ·exact .inl (.inr h2)
  exact .inr ⟨u,h1,h2⟩
theorem qp{l:List ByteArray}{t:Tr}(h:l.Nodup):(nmT l t).Nodup:=by
 unfold nmT;split
 ·rename_i e;simp only[Kb,Ke,decide_eq_false_iff_not] at e;exact List.nodup_append.2 ⟨h,Zm,fun a ha b hb=>by rw[Km] at hb;subst hb;rintro rfl;exact gZ.1 e.2 ha⟩
 exact h
theorem nW:∀{ts:List Tr} {l:List ByteArray},l.Nodup→(nmL l ts).Nodup
 | [],l,h=>h
 |t::r,l,h=>nW (ts:=r) (qp h)
theorem o8:∀(ts:List Tr) (l:List ByteArray),∃m,nmL l ts=l++m
 | [],l=>⟨[],by simp[nmL]⟩
 |t::r,l=>by
  obtain⟨m,h⟩:=o8 r (nmT l t);show∃m,nmL (nmT l t) r=_;rw[h];unfold nmT;split
  ·exact⟨_,List.append_assoc ..⟩
  exact⟨_,rfl⟩
theorem pD{l:Li}(h:cT l=true):l.a.l.length≤6∧jw l.x=true∧jw l.y=true:=by
 unfold cT at h;split at h
 ·simp only[Kb] at h;obtain⟨⟨⟨h1,_⟩,h2⟩,h3⟩:=h;unfold lS at h1;simp only[Kb,decide_eq_true_eq] at h1;exact⟨h1.1.2,zC h2,zC h3⟩
 simp only[Kb,decide_eq_true_eq] at h;exact⟨by rw[h.1.1.2.2.1];simp,pu h.1.2,pu h.2⟩
theorem iR{l:Li}(h:cT l=true):l.ts.length≤2097158:=by
 obtain⟨h1,h2,h3⟩:=pD h;have e2:=kJ h2;have e3:=kJ h3;simp only[Li.ts,List.length_append];omega
theorem dA{r:Ru}(h:eM r=true):r.h.l.length≤6∧r.b.length≤8∧(∀l∈r.b,cT l=true):=by
 unfold eM lS at h;simp only[Kb,decide_eq_true_eq,List.all_eq_true] at h;exact⟨h.1.1.1.1.2,h.1.2,h.2⟩
def sR(b:List Li)(o:List ByteArray):List ByteArray:=b.foldl (fun o l=>nmL o l.ts) o
theorem zL:∀(b:List Li) (o:List ByteArray),(∀l∈b,cT l=true)→(sR b o).length≤o.length+b.length*2097158
 | [],o,_=>by simp[sR]
 |l::b,o,h=>by
  have h1:=zL b (nmL o l.ts) fun x hx=>h x (Kg _ hx);have h2:=lT l.ts o;have h3:=iR (h l Kd);show(sR b (nmL o l.ts)).length≤_;simp only[Kq,Nat.add_mul,Nat.one_mul];omega
theorem kg(b:List Li)(o:List ByteArray)(i:Nat)(h:i<b.length):sR (b.take (i+1)) o=nmL (sR (b.take i) o) b[i].ts:=by
 unfold sR;rw[List.take_succ_eq_append_getElem h,Ko];rfl
theorem ew{r:Ru}(h:eM r=true)(i:Nat):(sR (r.b.take i) (nmL [] r.h.l)).length≤16777270:=by
 obtain⟨h1,h2,h3⟩:=dA h;have a:=zL (r.b.take i) (nmL [] r.h.l) fun l hl=>h3 l (List.mem_of_mem_take hl);have b:=lT r.h.l [];have c:(r.b.take i).length≤8:=by rw[List.length_take];omega
 simp only[List.length_nil] at b;have d:=Nat.mul_le_mul_right 2097158 c;omega
end Go.Proofs.YtgbiopfghdilnaaGreatDoor
