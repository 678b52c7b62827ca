/-
Texts of this proof,one behind the other. No conditions.
-/
import Derived.Test.YtgbiopfghdilnaaGreatDoorKd
import Derived.Test.YtgbiopfghdilnaaGreatDoorKdb
import Derived.Shelf.GgClosure.StringsIndexFunc
open Go.Proofs.YtgbiopfghdilnaaGreatDoor.Hp renaming le_refl→Ka
open Bool renaming and_eq_true→Kb,not_eq_true'→Kg,or_eq_true→Kk
open Nat renaming le_refl→Kc,zero_le→Kh,eq_zero_or_pos→Kp,add_zero→Ku,lt_or_ge→Kv
open List renaming mem_cons_self→Kd,mem_cons_of_mem→Ke,length_cons→Kf,getD_eq_getElem?_getD→Ki,mem_cons→Kj,sizeOf_lt_of_mem→Ko,mem_singleton→Kq,foldl_append→Ks
open Array renaming getElem?_toList→Km,toList_inj→Kt
open Int renaming le_refl→Kw
open Nat renaming reduceAdd→jA,reduceSub→jB,reduceLT→jC,reduceLeDiff→jD,reduceEqDiff→jE
open Int renaming reduceToNat→jF,natCast_add→jH,natCast_one→jI,natCast_zero→jJ
open List renaming length_cons→jL,length_nil→jM,replicate_succ→jN,replicate_zero→jO,cons_append→jP,nil_append→jQ
set_option linter.unusedSimpArgs false
set_option linter.unusedVariables false
set_option linter.unusedSectionVars false
set_option maxHeartbeats 8000000
namespace Go.Proofs.YtgbiopfghdilnaaGreatDoor
open Go.RowKit
def rQ(a b:Int):Int:=if a<b then-1 else if b<a then 1 else 0
theorem g9{P:Program}{f:Nat}(hL:aF P f=some LB.aCa)(a:Int)(h:Hp):aI P f [.int .i64 a] h (.bool false):=by
 refine aH (fun L=>trivial) fun h' nx hh=>aC hL fun hd=>?_;simp only[jL,jM,jA,jB,jN,jO,jP,jQ,V.undef];refine wl ?_;refine dI (aB h' (Ka _) ⟨?_,rfl⟩);simp[bne]
theorem bd{P:Program}{f f0:Nat}(hL:aF P f=some (LB.aDs f0))(hL0:aF P f0=some LB.aCa)(a b:Int)(h:Hp):aI P f [.int .i64 a, .int .i64 b] h (.int .i64 (rQ a b)):=by
 refine aH (fun L=>trivial) fun h' nx hh=>aC hL fun hd=>?_;simp only[jL,jM,jA,jB,jN,jO,jP,jQ,V.undef];refine wl ?_;refine aK (g9 hL0 a _) rfl (aL _) ?_;refine Zn ?_;refine wl ?_;refine aK (g9 hL0 b _) rfl (aL _) ?_;refine Zn ?_;refine wl ?_;refine dA _ rfl (fun hc=>?_) (fun hc=>?_)
 ·cases hc
 refine wl ?_;refine dA _ rfl (fun hc=>?_) (fun hc=>?_)
 ·cases hc
 refine wl ?_;refine dA _ rfl (fun hc=>?_) (fun hc=>?_)
 ·refine wl ?_;refine dI ?_;repeat (first|with_reducible refine lI ?_|with_reducible refine gT ?_|with_reducible refine iU ?_|with_reducible refine iV ?_)
  refine aB h' (Ka _) ⟨?_,rfl⟩;have:a<b:=by simpa using hc
  simp only[rQ,if_pos this,go_sem,reduceIte,jA,jB,jC,jD,reduceCtorEq,jE,jF]
 refine wl ?_;have h1:¬a<b:=by simpa using hc
 refine dA _ rfl (fun hc2=>?_) (fun hc2=>?_)
 ·refine wl ?_;refine dI ?_;repeat (first|with_reducible refine lI ?_|with_reducible refine gT ?_|with_reducible refine iU ?_|with_reducible refine iV ?_)
  refine aB h' (Ka _) ⟨?_,rfl⟩;have:b<a:=by simpa using hc2
  simp only[rQ,if_neg h1,if_pos this,go_sem,reduceIte,jA,jB,jC,jD,reduceCtorEq,jE,jF]
 refine wl ?_;have h2:¬b<a:=by simpa using hc2
 refine dI (aB h' (Ka _) ⟨?_,rfl⟩);simp only[rQ,if_neg h1,if_neg h2,go_sem,reduceIte,jA,jB,jC,jD,reduceCtorEq,jE,jF]
def orI:List Int→Int
 | []=>0
 |x::l=>if x=0 then orI l else x
theorem xr{P:Program}{f:Nat}(hL:aF P f=some LB.aNc)(own:Own)(l:List Int)(hl:l.length≤1000000000)(h:Hp):aI P f [.sl .leaf own (l.map (V.int .i64))] h (.int .i64 (orI l)):=by
 refine aH (fun L=>trivial) fun h' nx hh=>aC hL fun hd=>?_;simp only[jL,jM,jA,jB,jN,jO,jP,jQ,V.undef];refine wle trivial ?_;refine sN (fun i:Nat=>i≤l.length∧orI l=orI (l.drop i)) (fun i=>⟨aD 18 0 [(0, .sl .leaf own (l.map (V.int .i64))),(3, .int .i64 0),(6, .sl .leaf own (l.map (V.int .i64))),(7, .int .i64 l.length),(8, .int .i64 i)],h',nx⟩) (fun i=>l.length-i) 0 ⟨Kh _,Zm⟩ ?_ ?_
 ·refine uw (by simp only[WkL,aD,jH,jI,jJ,go_sem,reduceIte,jA,jB,jC,jD,reduceCtorEq,jE,jF]) ?_ ?_
  ·exact Ka _
  omega
 rintro i ⟨hi,hno⟩;simp only[aD,go_sem,reduceIte,jA,jB,jC,jD,reduceCtorEq,jE,jF];refine wl ?_;refine dA _ rfl (fun hc=>?_) (fun hc=>?_)
 ·have hlt:i<l.length:=by simpa using hc
  have hg:=aM (V.int .i64) l i hlt;refine wle hg ?_;rw[List.drop_eq_getElem_cons hlt] at hno;refine dA _ rfl (fun hc=>?_) (fun hc=>?_)
  ·refine wl ?_;refine dI ?_;repeat (first|with_reducible refine lI ?_|with_reducible refine gT ?_|with_reducible refine iU ?_|with_reducible refine iV ?_)
   refine aB h' (Ka _) ⟨?_,rfl⟩;have:l[i]≠0:=by simpa using hc
   simp only[hno,orI,if_neg this,go_sem,reduceIte,jA,jB,jC,jD,reduceCtorEq,jE,jF]
  refine wl ?_;have:l[i]=0:=by simpa using hc
  refine mF (i+1) ⟨or,by rw[hno];simp[orI,this]⟩ or ?_;rw[fH or or];refine uw (by simp only[WkL,aD,jH,jI,jJ,go_sem,reduceIte,jA,jB,jC,jD,reduceCtorEq,jE,jF]) ?_ ?_
  ·exact Ka _
  omega
 have hge:i=l.length:=by have:¬i<l.length:=by simpa using hc
                         omega
 refine oV ?_;repeat (first|with_reducible refine lC ?_|with_reducible refine kG ?_|with_reducible refine kH ?_|with_reducible refine bW ZM ?_|with_reducible refine gZ ?_|with_reducible refine aU ?_)
 refine wl ?_;refine dI (aB h' (Ka _) ⟨?_,rfl⟩);refine Zn ?_;rw[hno,hge,List.drop_length];rfl
section
variable{P:Program}{k:Sh}{α:Type}(e:α→V)(aAJ:∀x,(e x).fits k=true)
include aAJ
end
def ut(k:Sh)(own:Own)(es:List V)(nx:Nat)(h:Hp)(v:V)(h':Hp):Prop:=(own= .nil∧v= .sl k .nil []∧h'=h)∨(own≠ .nil∧∃id,nx≤id∧v= .sl k (.tok id) es∧h'=h.set id .tip)
theorem wN{P:Program}{k:Sh}{f bs:Nat}(hL:aF P f=some (LB.aGZ k bs))(hbs:bs≤140737)(own:Own)(es:List V)(hl:es.length≤1000000000)(hn:own= .nil→es=[])(h:Hp)(nx:Nat):
 aV P f [.sl k own es] h nx fun v h' _=>ut k own es nx h v h':=by
 refine aC hL fun hd=>?_;simp only[jL,jM,jA,jB,jN,jO,jP,jQ,V.undef];refine wl ?_;by_cases ho:own= .nil
 ·subst ho;refine dA _ rfl (fun hc=>?_) (fun hc=>?_)
  ·refine wl ?_;refine dI ?_;repeat (first|with_reducible refine lI ?_|with_reducible refine gT ?_|with_reducible refine iU ?_|with_reducible refine iV ?_)
   refine aB h (Ka _) (.inl ⟨rfl,?_,rfl⟩);simp only[go_sem,reduceIte,jA,jB,jC,jD,reduceCtorEq,jE,jF]
  cases hc
 refine dA _ rfl (fun hc=>?_) (fun hc=>?_)
 ·exact absurd (by simpa using hc) ho
 have hb1:es.length*bs≤140737488355328:=qK hl hbs;repeat (first|with_reducible refine bP ?_|with_reducible refine bD ?_|with_reducible refine bU ?_|with_reducible refine aU ?_|with_reducible refine aR ?_|with_reducible refine cG ?_|(refine bV rfl (by simp only[dF,hb1,go_sem,reduceIte,jA,jB,jC,jD,reduceCtorEq,jE,jF];try omega) ?_;simp only[dF,hb1,go_sem,reduceIte,jA,jB,jC,jD,reduceCtorEq,jE,jF])|(with_reducible refine bK ?_))
 refine dI (aB (h.set (nx+1) .tip) ?_ (.inr ⟨ho,nx+1,or,?_,rfl⟩))
 ·intro m b e;have hm:∀b,h m=some b→m<nx:=fun b hb=>hd m b hb;simp only[Hp.aAO,Hp.aA4] at e⊢;split at e
  ·rename_i e1;rw[if_pos e1];exact e
  rename_i e1;have:=hm _ e;rw[if_neg e1,if_neg or,if_neg or];exact e
 simp only[go_sem,reduceIte,jA,jB,jC,jD,reduceCtorEq,jE,jF]
theorem uf{P:Program}{k:Sh}{f bs:Nat}(hL:aF P f=some (LB.aGZ k bs))(hbs:bs≤140737)(own:Own)(es:List V)(hl:es.length≤1000000000)(hn:own= .nil→es=[])(hnm:∀L,bF L es)(h:Hp):
 aI P f [.sl k own es] h (V.sl k own es).loose:=by
 refine cP (fun L=>by cases own<;>simp[V.loose,V.names,hnm L,bF]) fun h' nx hh=>?_;have c:=wN hL hbs own es hl hn h' nx;refine⟨c.1,fun K cargs hlv hr hv=>((c.mono (R':=fun v' h'' _=>v'.loose=(V.sl k own es).loose∧h'.le h'') ?_).2 K cargs hlv hr hv)⟩;rintro v h'' nx' hnx (⟨rfl,rfl,rfl⟩|⟨ho,id,hid,rfl,rfl⟩)
 ·have he:=hn rfl;subst he;exact⟨rfl,Ka _⟩
 refine⟨(by cases own<;>first|exact absurd rfl ho|rfl),gS (Ka _) (aQ.none (fun m b hm=>hlv m (hr.lt m b hm)) hid) _⟩
end Go.Proofs.YtgbiopfghdilnaaGreatDoor
namespace Go.Proofs.YtgbiopfghdilnaaGreatDoor
open Go.RowKit Go.Sort
structure C3{α:Type}(c:α→α→Int):Prop where
 eq:∀x y,c x y=0↔x=y
 aTD:∀x y,c x y<0↔0<c y x
 trans:∀x y z,c x y<0→c y z<0→c x z<0
section
variable{α β:Type}
def orC(a b:Int):Int:=if a=0 then b else a
theorem C3.self{c:α→α→Int}(h:C3 c)(x:α):c x x=0:=(h.eq x x).2 rfl
theorem C3.on{c:β→β→Int}(hc:C3 c){f:α→β}(hf:∀x y,f x=f y→x=y):C3 fun x y=>c (f x) (f y):=
 ⟨fun x y=>(hc.eq _ _).trans ⟨hf x y,fun e=>by rw[e]⟩,fun x y=>hc.aTD _ _,fun x y z=>hc.trans _ _ _⟩
def fL(c:α→α→Int):List α→List α→Int
 | [],[]=>0
 | [],_::_=>-1
 |_::_,[]=>1
 |a::x,b::y=>orC (c a b) (fL c x y)
theorem wi{c:α→α→Int}(h:C3 c):∀x y,fL c x y=0↔x=y
 | [],[]=>by simp[fL]
 | [],_::_=>by simp[fL]
 |_::_,[]=>by simp[fL]
 |a::x,b::y=>by
  unfold fL orC;split
  ·rename_i e;rw[wi h x y,(h.eq _ _).1 e];simp
  rename_i e;refine⟨fun k=>absurd k e,fun k=>absurd ((h.eq _ _).2 (by injection k)) e⟩
theorem il{c:α→α→Int}(h:C3 c):∀x y,fL c x y<0↔0<fL c y x
 | [],[]=>by simp[fL]
 | [],_::_=>by simp[fL]
 |_::_,[]=>by simp[fL]
 |a::x,b::y=>by
  unfold fL orC;by_cases k:c a b=0
  ·have e:=(h.eq _ _).1 k;rw[if_pos k,if_pos (by rw[e];exact h.self _)];exact il h x y
  rw[if_neg k,if_neg fun e=>k ((h.eq _ _).2 ((h.eq _ _).1 e).symm)];exact h.aTD _ _
theorem bc{c:α→α→Int}(h:C3 c):∀x y z,fL c x y<0→fL c y z<0→fL c x z<0
 | [],[],_=>by simp[fL]
 |_::_,[],_=>by simp[fL]
 | [],_::_,[]=>by simp[fL]
 | [],_::_,_::_=>by simp[fL]
 |_::_,_::_,[]=>by simp[fL]
 |a::x,b::y,d::z=>by
  unfold fL orC;by_cases k:c a b=0
  ·rw[if_pos k,(h.eq _ _).1 k];by_cases k2:c b d=0
   ·rw[if_pos k2,if_pos k2];exact bc h x y z
   rw[if_neg k2,if_neg k2];exact fun _ h=>h
  rw[if_neg k];intro h1;by_cases h2:c b d=0
  ·rw[if_pos h2];intro _;rw[←(h.eq _ _).1 h2,if_neg k];exact h1
  rw[if_neg h2];intro h3;have:=h.trans _ _ _ h1 h3;rw[if_neg or];exact this
theorem C3.list{c:α→α→Int}(h:C3 c):C3 (fL c):=⟨wi h,il h,bc h⟩
end
structure Vl where
 k:Int
 n:Int
 s:ByteArray
 deriving DecidableEq
instance:Inhabited Vl:=⟨0,0,⟨#[]⟩⟩
def Vl.v(x:Vl):V:= .agg [.int .i64 x.k, .int .i64 x.n, .str x.s]
theorem Vl.aAQ(L:Nat→Prop)(x:Vl):x.v.names L:=by simp[Vl.v,V.names,bF]
def ba(a b:UInt8):Int:=rQ a.toNat b.toNat
def ue(a b:ByteArray):Int:=fL ba a.toList b.toList
def CI(a b:Vl):Int:=orC (rQ a.k b.k) (orC (rQ a.n b.n) (ue a.s b.s))
theorem c3I:C3 rQ:=by
 refine⟨fun x y=>?_,fun x y=>?_,fun x y z=>?_⟩;all_goals unfold rQ;repeat' split
 all_goals omega
theorem ip{a b:ByteArray}(h:a.toList=b.toList):a=b:=by
 rw[ByteArray.toList_eq,ByteArray.toList_eq] at h;cases a;cases b;congr 1;exact Kt.1 h
theorem c3S:C3 ue:=((c3I.on (f:=fun u:UInt8=>(u.toNat:Int)) fun x y e=>UInt8.toNat_inj.1 (by exact_mod_cast e)).list).on fun x y=>ip
theorem qi:∀x y:List UInt8,Op.bytesLess x y=decide (fL ba x y<0)
 | [],[]=>by simp[Op.bytesLess,fL]
 |_::_,[]=>by simp[Op.bytesLess,fL]
 | [],_::_=>by simp[Op.bytesLess,fL]
 |a::x,b::y=>by
  have e:(a<b)=(a.toNat<b.toNat):=rfl;simp only[Op.bytesLess,qi x y,fL,orC,ba,rQ,e];by_cases h1:a.toNat<b.toNat
  ·have:(a.toNat:Int)<b.toNat:=or;simp[h1,this]
  by_cases h2:b.toNat<a.toNat
  ·have h3:(b.toNat:Int)<a.toNat:=or;have h4:a≠b:=fun e=>by rw[e] at h2;omega
   have h5:¬(a.toNat:Int)<b.toNat:=or;simp[h1,h3,h4,h5]
  have h3:a=b:=UInt8.toNat_inj.1 or;subst h3;simp
theorem cV(a b:ByteArray):(a.toList==b.toList)=decide (a=b):=by
 by_cases h:a=b
 ·subst h;simp
 have:a.toList≠b.toList:=fun e=>h (ip e);simp[h,this]
def byt(s:ByteArray)(i:Nat):Nat:=(s.data.toList.getD i 0).toNat
theorem wj(s:ByteArray)(i:Nat):(s.get! i).toNat=byt s i:=by
 cases s with
 |mk d=>
 show(d[i]!).toNat=(d.toList.getD i 0).toNat
 rw[Ki,Km,getElem!_def];cases d[i]?<;>rfl
theorem j2(s:ByteArray)(i:Nat)(h:byt s i<128):Utf8.decode s i=(byt s i,1):=by
 unfold Utf8.decode;simp only[Ku,wj];rw[if_pos h]
theorem ub(s:ByteArray)(i:Nat)(h:128≤byt s i):128≤(Utf8.decode s i).1:=by
 unfold Utf8.decode;simp only[Ku,wj];rw[if_neg or];repeat' split
 all_goals simp only[Utf8.runeError]
 all_goals (try simp only[ge_iff_le,Kb,decide_eq_true_eq] at*)
 all_goals omega
theorem wd(p:Nat→Bool)(hp:∀x,128≤x→p x=true)(s:ByteArray):∀f pos,s.size≤pos+f→(0≤Lib.idxFuncFrom p true s f pos↔∃i,pos≤i∧i<s.size∧p (byt s i)=true)
 |0,pos,h=>by
  simp only[Lib.idxFuncFrom];refine⟨fun k=>absurd k or,fun⟨i,h1,h2,_⟩=>or⟩
 |f+1,pos,h=>by
  simp only[Lib.idxFuncFrom];by_cases hps:pos<s.size
  ·rw[if_pos hps];by_cases hb:byt s pos<128
   ·rw[j2 s pos hb];by_cases hq:p (byt s pos)=true
    ·rw[if_pos hq];exact⟨fun _=>⟨pos,Kc _,hps,hq⟩,fun _=>or⟩
    rw[if_neg hq,wd p hp s f (pos+1) or];constructor
    ·rintro⟨i,h1,h2⟩;exact⟨i,or,h2⟩
    rintro⟨i,h1,h2,h3⟩;refine⟨i,?_,h2,h3⟩;by_cases e:i=pos
    ·subst e;exact absurd h3 hq
    omega
   have h1:=hp _ (ub s pos or);rw[if_pos h1];exact⟨fun _=>⟨pos,Kc _,hps,hp _ or⟩,fun _=>or⟩
  rw[if_neg hps];refine⟨fun k=>absurd k or,fun⟨i,h1,h2,_⟩=>or⟩
def dL(c:Nat):Bool:=decide (97≤c∧c≤122)
def kJ(c:Nat):Bool:=decide ((97≤c∧c≤122)∨(48≤c∧c≤57)∨c=95)
def kM(c:Nat):Bool:= !kJ c
theorem mi(x:Nat)(h:128≤x):kM x=true:=by
 simp only[kM,kJ,Kg,decide_eq_false_iff_not];omega
def fZ(s:ByteArray):Bool:=decide (1≤s.size∧s.size≤32∧dL (byt s 0)=true∧∀i,i<s.size→kJ (byt s i)=true)
theorem mj(s:ByteArray):decide (0≤Lib.idxFunc kM true s)= !decide (∀i,i<s.size→kJ (byt s i)=true):=by
 have:=wd kM mi s s.size 0 or;unfold Lib.idxFunc;by_cases h:∀i,i<s.size→kJ (byt s i)=true
 ·rw[decide_eq_true h];simp only[Bool.not_true,decide_eq_false_iff_not,this];rintro⟨i,_,h2,h3⟩;simp[kM,h i h2] at h3
 rw[decide_eq_false h];simp only[Bool.not_false,decide_eq_true_eq,this]
 false_or_by_contra
 rename_i k;refine h fun i hi=>?_;by_cases e:kJ (byt s i)=true
 ·exact e
 exact absurd ⟨i,Kh _,hi,by simp[kM,e]⟩ k
def j5(n:Int):Bool:=decide (-2147483647≤n∧n≤2147483647)
def rG(x:Vl):Bool:=(decide (x.k=1)&&(decide (x.s.size=0)&&j5 x.n))||(decide (x.k=2)&&(decide (x.n=0)&&fZ x.s))
section
variable{α:Type}{c:α→α→Int}
end
def uv:Vl:=⟨0,0,⟨#[]⟩⟩
def fC(c:Nat):Bool:=decide (65≤c∧c≤90)
def vF(c:Nat):Bool:=decide (48≤c∧c≤57)
def bX(c:Nat):Bool:=dL c||fC c||vF c||decide (c=95)
def iP(c:Nat):Bool:=decide (c=9∨c=10∨c=13∨c=32)
def mD(p:Nat→Bool)(s:ByteArray):Nat→Nat→Nat
 |0,i=>i
 |f+1,i=>if i<s.size∧p (byt s i)=true then mD p s f (i+1) else i
def eK(p:Nat→Bool)(s:ByteArray)(i:Nat):Nat:=mD p s (s.size-i) i
theorem l8(p:Nat→Bool)(s:ByteArray):∀(f i j:Nat),i≤j→j≤s.size→s.size≤i+f→(∀k,i≤k→k<j→p (byt s k)=true)→(j=s.size∨p (byt s j)=false)→mD p s f i=j
 |0,i,j,h1,h2,h3,_,_=>by show i=j;omega
 |f+1,i,j,h1,h2,h3,h4,h5=>by
  unfold mD;by_cases e:i=j
  ·subst e;rw[if_neg];rintro⟨q1,q2⟩;rcases h5 with h5|h5
   ·omega
   rw[q2] at h5;cases h5
  rw[if_pos ⟨or,h4 i (Kc _) or⟩];exact l8 p s f (i+1) j or h2 or (fun k hk=>h4 k or) h5
theorem pR{p:Nat→Bool}{s:ByteArray}{i j:Nat}(h1:i≤j)(h2:j≤s.size)(h4:∀k,i≤k→k<j→p (byt s k)=true)(h5:j=s.size∨p (byt s j)=false):eK p s i=j:=
 l8 p s _ i j h1 h2 or h4 h5
theorem xY(p:Nat→Bool)(s:ByteArray):∀(f i:Nat),i≤s.size→s.size≤i+f→i≤mD p s f i∧mD p s f i≤s.size∧(∀k,i≤k→k<mD p s f i→p (byt s k)=true)∧(mD p s f i=s.size∨p (byt s (mD p s f i))=false)
 |0,i,h1,h2=>⟨Kc _,h1,fun k a b=>absurd b (by show¬k<i;omega), .inl (by show i=_;omega)⟩
 |f+1,i,h1,h2=>by
  unfold mD;split
  ·rename_i h;obtain⟨a,b,c,d⟩:=xY p s f (i+1) or or;exact⟨or,b,fun k h3 h4=>by
    by_cases e:k=i
    ·subst e;exact h.2
    exact c k or h4,d⟩
  rename_i h;refine⟨Kc _,h1,fun k a b=>absurd b or,?_⟩;by_cases e:i<s.size
  ·right;cases hp:p (byt s i) with
   |false=>rfl
   |true=>exact absurd ⟨e,hp⟩ h
  left;omega
theorem eM(p:Nat→Bool)(s:ByteArray)(i:Nat)(h:i≤s.size):i≤eK p s i∧eK p s i≤s.size∧(∀k,i≤k→k<eK p s i→p (byt s k)=true)∧(eK p s i=s.size∨p (byt s (eK p s i))=false):=
 xY p s _ i h or
def lH(s:ByteArray):Nat→Nat→Nat
 |0,i=>i
 |f+1,i=>if i<s.size then if iP (byt s i)=true then lH s f (i+1) else if byt s i=37 then lH s f (eK (fun c=>decide (c≠10)) s i) else i else i
def bL(s:ByteArray)(i:Nat):Nat:=lH s (s.size-i) i
theorem qD{s:ByteArray}{i:Nat}(h:i<s.size)(hp:byt s i=37):i<eK (fun c=>decide (c≠10)) s i∧eK (fun c=>decide (c≠10)) s i≤s.size:=by
 obtain⟨a,b,c,d⟩:=eM (fun c=>decide (c≠10)) s i or;refine⟨?_,b⟩;rcases Kv i (eK (fun c=>decide (c≠10)) s i) with k|k
 ·exact k
 have e:eK (fun c=>decide (c≠10)) s i=i:=or;rw[e] at d;rcases d with d|d
 ·omega
 rw[hp] at d;cases d
theorem nD(s:ByteArray):∀(f g i:Nat),s.size≤i+f→s.size≤i+g→lH s f i=lH s g i
 |0,0,_,_,_=>rfl
 |0,g+1,i,h,_=>by unfold lH;rw[if_neg or]
 |f+1,0,i,_,h=>by unfold lH;rw[if_neg or]
 |f+1,g+1,i,h1,h2=>by
  unfold lH;by_cases h:i<s.size
  ·rw[if_pos h,if_pos h];split
   ·exact nD s f g _ or or
   split
   ·rename_i hp;have:=qD h hp;exact nD s f g _ or or
   rfl
  rw[if_neg h,if_neg h]
theorem lA{s:ByteArray}{i:Nat}(h:s.size≤i):bL s i=i:=by
 unfold bL;cases s.size-i with
 |zero=>rfl
 |succ n=>unfold lH;rw[if_neg or]
theorem vV{s:ByteArray}{i:Nat}(h:i<s.size)(hb:iP (byt s i)=true):bL s i=bL s (i+1):=by
 unfold bL;obtain⟨n,hn⟩:∃n,s.size-i=n+1:=⟨s.size-i-1,or⟩;rw[hn,lH,if_pos h,if_pos hb];exact nD s _ _ _ or or
theorem yE{s:ByteArray}{i:Nat}(h:i<s.size)(hb:iP (byt s i)=false)(hp:byt s i=37):bL s i=bL s (eK (fun c=>decide (c≠10)) s i):=by
 unfold bL;obtain⟨n,hn⟩:∃n,s.size-i=n+1:=⟨s.size-i-1,or⟩;rw[hn,lH,if_pos h,hb,if_neg Zm,if_pos hp];have:=qD h hp;exact nD s _ _ _ or or
theorem rC{s:ByteArray}{i:Nat}(h:i<s.size)(hb:iP (byt s i)=false)(hp:byt s i≠37):bL s i=i:=by
 unfold bL;obtain⟨n,hn⟩:∃n,s.size-i=n+1:=⟨s.size-i-1,or⟩;rw[hn,lH,if_pos h,hb,if_neg Zm,if_neg hp]
theorem rZ(s:ByteArray):∀(f i:Nat),i≤lH s f i∧(i≤s.size→lH s f i≤s.size)
 |0,i=>⟨Kc _,id⟩
 |f+1,i=>by
  unfold lH;split
  ·rename_i h;split
   ·have:=rZ s f (i+1);exact⟨or,fun _=>this.2 or⟩
   split
   ·rename_i hp;have h1:=qD h hp;have:=rZ s f (eK (fun c=>decide (c≠10)) s i);exact⟨or,fun _=>this.2 h1.2⟩
   exact⟨Kc _,id⟩
  exact⟨Kc _,id⟩
theorem sA(s:ByteArray)(i:Nat):i≤bL s i:=(rZ s _ i).1
theorem mr{s:ByteArray}{i:Nat}(h:i≤s.size):bL s i≤s.size:=(rZ s _ i).2 h
structure Tk where
 k:Int
 t:ByteArray
 a:Nat
 deriving Inhabited
def zV:List ByteArray:=[⟨[114,101,108].toArray⟩,⟨[105,110,116].toArray⟩,⟨[115,121,109].toArray⟩,⟨[110,111,116].toArray⟩,⟨[99,111,117,110,116].toArray⟩,⟨[115,117,109].toArray⟩,⟨[109,105,110].toArray⟩,⟨[109,97,120].toArray⟩]
def eN:List ByteArray:=[⟨[58,45].toArray⟩,⟨[33,61].toArray⟩,⟨[60,61].toArray⟩,⟨[62,61].toArray⟩,⟨[40].toArray⟩,⟨[41].toArray⟩,⟨[44].toArray⟩,⟨[46].toArray⟩,⟨[61].toArray⟩,⟨[60].toArray⟩,⟨[62].toArray⟩,⟨[43].toArray⟩,⟨[45].toArray⟩,⟨[42].toArray⟩]
def zW(w:ByteArray):Bool:=zV.any fun t=>t.data.toList==w.data.toList
theorem pd(w:ByteArray):zW w=true↔w∈zV:=by
 simp only[zW,List.any_eq_true,beq_iff_eq];constructor
 ·rintro⟨t,h1,h2⟩;have:t=w:=by
   cases t;cases w;simp only[Kt] at h2;rw[h2]
  exact this▸h1
 exact fun h=>⟨w,h,rfl⟩
def eJ(κ:ByteArray→Int)(w:ByteArray):Int:=
 if zW w=true then 1 else if fZ w=true then 2 else if fC (byt w 0)=true∧w.size≤32 then 3 else κ w
def oP(s t:ByteArray):Bool:=t.data.toList.isPrefixOf s.data.toList
def lV(s:ByteArray):Nat:=eK bX s 0
def oH(r:ByteArray):Int×ByteArray:=match eN.find? (oP r) with
 |some t=>(5,t)
 |none=>(0,⟨#[]⟩)
def bT(κ:ByteArray→Int)(r:ByteArray):Int×ByteArray:=
 if 0<lV r∧byt r 0≠95 then (eJ κ (r.extract 0 (lV r)),r.extract 0 (lV r)) else oH r
def zQ(κ:ByteArray→Int)(s:ByteArray):Nat→Nat→List Tk×Option Nat
 |0,_=>([],none)
 |f+1,i=>if i<s.size then
  if (bT κ (s.extract i s.size)).1=0 then ([],some i)
  else (⟨(bT κ (s.extract i s.size)).1,(bT κ (s.extract i s.size)).2,i⟩::(zQ κ s f (bL s (i+(bT κ (s.extract i s.size)).2.size))).1,(zQ κ s f (bL s (i+(bT κ (s.extract i s.size)).2.size))).2)
  else ([],none)
def eT(κ:ByteArray→Int)(s:ByteArray)(i:Nat):List Tk×Option Nat:=zQ κ s (s.size-i) i
def iz(s:ByteArray):Bool:=decide (1≤s.size∧s.size≤32∧fC (byt s 0)=true∧∀i,i<s.size→bX (byt s i)=true)
def r5(s:ByteArray):Bool:=decide (fZ s=true∧zW s=false)
theorem cL(s:ByteArray)(i j:Nat):(s.extract i j).size=min j s.size-i:=by
 rw[←ByteArray.size_data,ByteArray.data_extract,Array.size_extract,ByteArray.size_data]
theorem tC(s:ByteArray):s.extract 0 s.size=s:=by
 apply ByteArray.ext;rw[ByteArray.data_extract,←ByteArray.size_data];exact Array.extract_size
theorem qJ{s:ByteArray}{i j k:Nat}(h:i+k<j)(h2:j≤s.size):byt (s.extract i j) k=byt s (i+k):=by
 unfold byt;rw[ByteArray.data_extract];have h2:j≤s.data.size:=h2;congr 1;simp only[Ki,Km];rw[Array.getElem?_extract,if_pos or]
theorem jd(s:ByteArray):lV s≤s.size:=(eM bX s 0 (Kh _)).2.1
theorem yF(r:ByteArray):oH r=(0,⟨#[]⟩)∨∃t,oH r=(5,t)∧t∈eN∧oP r t=true:=by
 unfold oH;cases h:eN.find? (oP r) with
 |none=>exact .inl rfl
 |some t=>exact .inr ⟨t,rfl,List.mem_of_find?_eq_some h,List.find?_some h⟩
theorem rp:∀t∈eN,0<t.size:=by decide+kernel
theorem xj{r t:ByteArray}(h:oP r t=true):t.size≤r.size:=by
 have:=(List.isPrefixOf_iff_prefix.1 h).length_le;simpa only[Array.length_toList,ByteArray.size_data] using this
theorem jR{κ:ByteArray→Int}{r:ByteArray}(h:(bT κ r).1≠0):0<(bT κ r).2.size∧(bT κ r).2.size≤r.size:=by
 unfold bT at h⊢;split
 ·rename_i c;have:=jd r;show 0<(r.extract 0 (lV r)).size∧(r.extract 0 (lV r)).size≤r.size;rw[cL];omega
 rename_i c;rw[if_neg c] at h;rcases yF r with e|⟨t,e,h1,h2⟩
 ·rw[e] at h;exact absurd rfl h
 rw[e];exact⟨rp t h1,xj h2⟩
theorem gp(κ:ByteArray→Int)(s:ByteArray):∀(f g i:Nat),s.size≤i+f→s.size≤i+g→zQ κ s f i=zQ κ s g i
 |0,0,_,_,_=>rfl
 |0,g+1,i,h,_=>by unfold zQ;rw[if_neg or]
 |f+1,0,i,_,h=>by unfold zQ;rw[if_neg or]
 |f+1,g+1,i,h1,h2=>by
  unfold zQ;by_cases h:i<s.size
  ·rw[if_pos h,if_pos h];split
   ·rfl
   rename_i h0;have h3:=(jR h0).1;have h4:=sA s (i+(bT κ (s.extract i s.size)).2.size);rw[gp κ s f g _ or or]
  rw[if_neg h,if_neg h]
theorem iJ{κ:ByteArray→Int}{s:ByteArray}{i:Nat}(h:s.size≤i):eT κ s i=([],none):=by
 unfold eT;cases s.size-i with
 |zero=>rfl
 |succ n=>unfold zQ;rw[if_neg or]
theorem sP{κ:ByteArray→Int}{s:ByteArray}{i:Nat}(h:i<s.size)(h0:(bT κ (s.extract i s.size)).1=0):eT κ s i=([],some i):=by
 unfold eT;obtain⟨n,hn⟩:∃n,s.size-i=n+1:=⟨s.size-i-1,or⟩;rw[hn,zQ,if_pos h,if_pos h0]
theorem mU{κ:ByteArray→Int}{s:ByteArray}{i:Nat}{k:Int}{t:ByteArray}(h:i<s.size)(hn:bT κ (s.extract i s.size)=(k,t))(h0:k≠0):
 eT κ s i=(⟨k,t,i⟩::(eT κ s (bL s (i+t.size))).1,(eT κ s (bL s (i+t.size))).2):=by
 have h1:=jR (κ:=κ) (r:=s.extract i s.size) (by rw[hn];exact h0);rw[hn] at h1;dsimp only at h1;have h4:=sA s (i+t.size);unfold eT;obtain⟨n,hn'⟩:∃n,s.size-i=n+1:=⟨s.size-i-1,or⟩;rw[hn',zQ,if_pos h,hn,if_neg h0];dsimp only;rw[gp κ s n (s.size-bL s (i+t.size)) _ or or]
theorem s7:∀t∈zV,dL (byt t 0)=true:=by decide+kernel
theorem wI{c:Nat}(h:fC c=true):dL c=false:=by
 simp only[fC,dL,decide_eq_true_eq,decide_eq_false_iff_not] at*;omega
theorem zc{c:Nat}(h:kJ c=true):bX c=true:=by
 simp only[kJ,bX,dL,fC,vF,decide_eq_true_eq,Kk] at*;omega
theorem Ae{κ:ByteArray→Int}{s:ByteArray}(h:iz s=true):eJ κ s=3:=by
 obtain⟨h1,h2,h3,h4⟩:=of_decide_eq_true h;unfold eJ;rw[if_neg (fun k=>by have:=s7 s ((pd s).1 k);rw[wI h3] at this;cases this),if_neg (fun k=>by have:=(of_decide_eq_true k).2.2.1;rw[wI h3] at this;cases this),if_pos ⟨h3,h2⟩]
theorem Ap{κ:ByteArray→Int}{s:ByteArray}(h:r5 s=true):eJ κ s=2:=by
 obtain⟨h1,h2⟩:=of_decide_eq_true h;unfold eJ;rw[if_neg (by rw[h2];simp),if_pos h1]
theorem wa{κ:ByteArray→Int}{s:ByteArray}(h1:1≤s.size)(h2:∀i,i<s.size→bX (byt s i)=true)(h3:byt s 0≠95)(h0:eJ κ s≠0):eT κ s (bL s 0)=([⟨eJ κ s,s,0⟩],none):=by
 have hw:=h2 0 or;have hb:iP (byt s 0)=false:=by
  simp only[bX,dL,fC,vF,iP,Kk,decide_eq_true_eq,decide_eq_false_iff_not] at*;omega
 have hp:byt s 0≠37:=by
  simp only[bX,dL,fC,vF,Kk,decide_eq_true_eq] at hw;omega
 rw[rC or hb hp];have hr:lV s=s.size:=pR (Kh _) (Kc _) (fun k _ hk=>h2 k hk) (.inl rfl);have hn:bT κ (s.extract 0 s.size)=(eJ κ s,s):=by
  rw[tC];unfold bT;rw[hr,if_pos ⟨or,h3⟩,tC]
 rw[mU or hn h0,lA or,iJ or]
theorem zP{κ:ByteArray→Int}{s:ByteArray}{k:Int}{l:List Tk}{b:Option Nat}{t:Tk}(h:eT κ s (bL s 0)=(t::l,b))(hk:t.k=k)(h5:k≠5)(ht:t.t=s)(hs:0<s.size):
 t.a=0∧eJ κ s=k∧byt s 0≠95∧∀i,i<s.size→bX (byt s i)=true:=by
 rcases Kv (bL s 0) s.size with hi|hi
 ·obtain⟨k',t',hn⟩:∃k' t',bT κ (s.extract (bL s 0) s.size)=(k',t'):=⟨_,_,rfl⟩;by_cases h0:k'=0
  ·rw[sP hi (by rw[hn];exact h0)] at h;cases h
  have hz:=jR (κ:=κ) (r:=s.extract (bL s 0) s.size) (by rw[hn];exact h0);rw[mU hi hn h0] at h;injection h with h _;injection h with h _;subst h;simp only at ht hk;subst ht hk;rw[hn,cL] at hz;have h00:bL t' 0=0:=by simp only at hz;omega
  rw[h00,tC] at hn;unfold bT at hn;split at hn
  ·rename_i c;injection hn with e1 e2;have hr:lV t'=t'.size:=by
    have:=jd t';have:=congrArg ByteArray.size e2;rw[cL] at this;omega
   rw[hr,tC] at e1;obtain⟨_,_,q,_⟩:=eM bX t' 0 (Kh _);exact⟨h00,e1,c.2,fun i hi=>q i (Kh _) (by show i<lV t';omega)⟩
  rcases yF t' with e|⟨t2,e,_⟩
  ·rw[e] at hn;injection hn with e1;exact absurd e1.symm h0
  rw[e] at hn;injection hn with e1;exact absurd e1.symm h5
 rw[iJ hi] at h;cases h
theorem ve{κ:ByteArray→Int}(hκ:∀w,κ w=0∨κ w=4)(s:ByteArray):eT κ s (bL s 0)=([⟨3,s,0⟩],none)↔iz s=true:=by
 constructor
 ·intro h;have hs:0<s.size:=by
   rcases Kp s.size with e|e
   ·rw[lA or,iJ or] at h;cases h
   exact e
  obtain⟨_,hw,_,aA3⟩:=zP h rfl Zm rfl hs;dsimp only at hw;refine decide_eq_true ?_;unfold eJ at hw;split at hw
  ·cases hw
  split at hw
  ·cases hw
  split at hw
  ·rename_i c;exact⟨or,c.2,c.1,aA3⟩
  have:=hκ s;omega
 intro h;have hv:=Ae (κ:=κ) h;obtain⟨h1,h2,h3,h4⟩:=of_decide_eq_true h;have:=wa (κ:=κ) h1 h4 (by simp only[fC,decide_eq_true_eq] at h3;omega) (by rw[hv];decide);rw[hv] at this;exact this
theorem vf{κ:ByteArray→Int}(hκ:∀w,κ w=0∨κ w=4)(s:ByteArray):eT κ s (bL s 0)=([⟨2,s,0⟩],none)↔r5 s=true:=by
 constructor
 ·intro h;have hs:0<s.size:=by
   rcases Kp s.size with e|e
   ·rw[lA or,iJ or] at h;cases h
   exact e
  obtain⟨_,hw,_,aA3⟩:=zP h rfl Zm rfl hs;dsimp only at hw;refine decide_eq_true ?_;unfold eJ at hw;split at hw
  ·cases hw
  split at hw
  ·rename_i c1 c2;exact⟨c2,by simpa using c1⟩
  split at hw
  ·cases hw
  have:=hκ s;omega
 intro h;have hv:=Ap (κ:=κ) h;obtain⟨h1,h2⟩:=of_decide_eq_true h;obtain⟨g1,g2,g3,g4⟩:=of_decide_eq_true h1;have:=wa (κ:=κ) g1 (fun i hi=>zc (g4 i hi)) (by simp only[dL,decide_eq_true_eq] at g3;omega) (by rw[hv];decide);rw[hv] at this;exact this
structure Tr where
 x:ByteArray
 w:Vl
 deriving DecidableEq
instance:Inhabited Tr:=⟨⟨#[]⟩,default⟩
def Tr.cs(t:Tr):List V:=[.str t.x, .int .i64 t.w.k, .int .i64 t.w.n, .str t.w.s]
def Tr.v(t:Tr):V:= .agg [.str t.x, .int .i64 t.w.k, .int .i64 t.w.n, .str t.w.s]
theorem Tr.aAF(t:Tr):t.v.fits (.agg 4)=true:=rfl
theorem Tr.aAQ(L:Nat→Prop)(t:Tr):t.v.names L:=by simp[Tr.v,V.names,bF]
abbrev trs(o:Own)(l:List Tr):V:= .sl (.agg 4) o (l.map Tr.v)
def kw:Tr:=⟨⟨#[]⟩,uv⟩
inductive Ex where
 |mk (op:Int) (t:Tr) (o:Own) (kids:List Ex)
mutual
def Ex.v:Ex→V
 | .mk op t o ks=> .agg [.int .i64 op, .str t.x, .int .i64 t.w.k, .int .i64 t.w.n, .str t.w.s, .sl (.agg 6) o (Ex.vs ks)]
def Ex.vs:List Ex→List V
 | []=>[]
 |e::r=>e.v::Ex.vs r
end
instance:Inhabited Ex:=⟨.mk 0 kw .nil []⟩
theorem Ex.aEW:∀l:List Ex,Ex.vs l=l.map Ex.v
 | []=>rfl
 |e::r=>by rw[Ex.vs,Ex.aEW r];rfl
theorem Ex.aAF(e:Ex):e.v.fits (.agg 6)=true:=by cases e;rfl
def Ex.op:Ex→Int| .mk op _ _ _=>op
def Ex.t:Ex→Tr| .mk _ t _ _=>t
def Ex.o:Ex→Own| .mk _ _ o _=>o
def Ex.kids:Ex→List Ex| .mk _ _ _ ks=>ks
def Ex.cs(e:Ex):List V:=[.int .i64 e.op, .str e.t.x, .int .i64 e.t.w.k, .int .i64 e.t.w.n, .str e.t.w.s, .sl (.agg 6) e.o (e.kids.map Ex.v)]
theorem Ex.aAW(e:Ex):e.v= .agg e.cs:=by cases e;simp[Ex.v,Ex.cs,Ex.aEW,Ex.op,Ex.t,Ex.o,Ex.kids]
structure Am where
 r:ByteArray
 o:Own
 l:List Tr
def Am.v(a:Am):V:= .agg [.str a.r,trs a.o a.l]
structure Li where
 k:Int
 a:Am
 op:Int
 x:Ex
 y:Ex
 at_:Int
def Li.v(l:Li):V:= .agg ([.int .i64 l.k, .str l.a.r,trs l.a.o l.a.l, .int .i64 l.op]++l.x.cs++l.y.cs++[.int .i64 l.at_])
theorem Li.aAF(l:Li):l.v.fits (.agg 17)=true:=rfl
structure Ru where
 h:Am
 g:Int
 c:Int
 o:Own
 b:List Li
 at_:Int
def Ru.v(r:Ru):V:= .agg [.str r.h.r,trs r.h.o r.h.l, .int .i64 r.g, .int .i64 r.c, .sl (.agg 17) r.o (r.b.map Li.v), .int .i64 r.at_]
def mC(t:Tr):Bool:=decide (t.x.size=0∧t.w.k=0∧t.w.n=0∧t.w.s.size=0)
def qx(w:Vl):Bool:=decide (w.k=0∧w.n=0∧w.s.size=0)
def dT(t:Tr):Bool:=if t.x.size=0 then rG t.w else iz t.x&&qx t.w
def eW:Nat→Ex→Int
 |0, .mk op t _ ks=>if op=0∧ks=[]∧dT t=true then 0 else-1
 |n+1, .mk op t _ ks=>if op=0∧ks=[]∧dT t=true then 0 else
  match ks with
  | [a,b]=>if 1≤op∧op≤3∧mC t=true then (if eW n a<0∨eW n b<0 then-1 else 1+cn true (eW n a) (eW n b)) else-1
  |_=>-1
def dU:Nat→Ex→Bool
 |0, .mk op t _ ks=>decide (op=0∧ks=[]∧dT t=true)
 |n+1, .mk op t _ ks=>if op=0 then decide (ks=[]∧dT t=true) else
  match ks with
  | [a,b]=>decide (1≤op∧op≤3∧mC t=true∧dU n a=true∧dU n b=true)
  |_=>false
theorem nA:∀(n:Nat) (e:Ex),-1≤eW n e∧eW n e≤n
 |0, .mk op t o ks=>by unfold eW;split<;>omega
 |n+1, .mk op t o ks=>by
  unfold eW;split
  ·omega
  split
  ·rename_i a b _;have h1:=nA n a;have h2:=nA n b;split
   ·split
    ·omega
    unfold cn;rw[if_pos rfl];split<;>omega
   omega
  omega
theorem vK:∀(n:Nat) (e:Ex),0≤eW n e↔dU n e=true
 |0, .mk op t o ks=>by
  unfold eW dU;split
  ·rename_i h;simpa using h
  rename_i h;simpa using h
 |n+1, .mk op t o ks=>by
  unfold eW dU;by_cases h0:op=0
  ·by_cases h1:ks=[]∧dT t=true
   ·rw[if_pos ⟨h0,h1⟩,if_pos h0];simpa using h1
   rw[if_neg (fun h=>h1 h.2),if_pos h0,decide_eq_false h1];split
   ·rw[if_neg or];simp
   simp
  rw[if_neg (fun h=>h0 h.1),if_neg h0];split
  ·rename_i a b;have h1:=vK n a;have h2:=vK n b;have g1:=nA n a;have g2:=nA n b;rw[decide_eq_true_eq,←h1,←h2];split
   ·rename_i c;split
    ·constructor
     ·intro h;omega
     intro h;omega
    unfold cn;rw[if_pos rfl];exact⟨fun _=>⟨c.1,c.2.1,c.2.2,or,or⟩,fun _=>by split<;>omega⟩
   rename_i c;exact⟨fun h=>or,fun h=>absurd ⟨h.1,h.2.1,h.2.2.1⟩ c⟩
  simp
def iB(e:Ex):Bool:=dU 20 e
def fO(a:Am):Bool:=r5 a.r&&decide (a.l.length≤6)&&a.l.all dT
def iS(e:Ex):Bool:=decide (e.op=0∧e.kids=[])&&mC e.t
def bJ(l:Li):Bool:=
 if l.k=1∨l.k=2 then fO l.a&&decide (l.op=0)&&iS l.x&&iS l.y
 else decide (l.k=3∧l.a.r.size=0∧l.a.l=[]∧1≤l.op∧l.op≤6)&&iB l.x&&iB l.y
def bt(r:Ru):Bool:=
 if r.g=0 then decide (r.c=0) else decide (0≤r.g∧r.g≤4∧0≤r.c∧r.c<r.h.l.length∧(r.h.l.getD r.c.toNat kw).x.size≠0)
def bM(r:Ru):Bool:=fO r.h&&bt r&&decide (r.b.length≤8)&&r.b.all bJ
def nW:Nat:=140737488351232
def Tr.s47(t:Tr):Prop:=t.x.size≤nW∧t.w.s.size≤nW
mutual
def Ex.s47:Ex→Prop
 | .mk _ t _ ks=>t.s47∧Ex.aGa ks
def Ex.aGa:List Ex→Prop
 | []=>True
 |e::r=>e.s47∧Ex.aGa r
end
theorem Ex.aA6:∀{l:List Ex},Ex.aGa l↔∀e∈l,e.s47
 | []=>by simp[Ex.aGa]
 |e::r=>by simp[Ex.aGa,Ex.aA6 (l:=r)]
def Am.s47(a:Am):Prop:=a.r.size≤nW∧∀t∈a.l,t.s47
def Li.s47(l:Li):Prop:=l.a.s47∧l.x.s47∧l.y.s47
def Ru.s47(r:Ru):Prop:=r.h.s47∧∀l∈r.b,l.s47
def dR(t:Tr):Int:=1+((t.x.size+t.w.s.size)/ 50:Nat)
theorem nB{t:Tr}(h:t.s47):1≤dR t∧dR t≤5629499534050:=by
 obtain⟨h1,h2⟩:=h;unfold nW at h1 h2;unfold dR;omega
mutual
def jW:Ex→Int→Int
 | .mk _ t _ ks,l=>gK ks (l-dR t)
def gK:List Ex→Int→Int
 | [],l=>l
 |k::r,l=>if l<0 then-1 else gK r (jW k l)
end
def gC:List Tr→Int→Int
 | [],l=>l
 |t::r,l=>if l-dR t<0 then-1 else gC r (l-dR t)
def eR(a:Am)(l:Int):Int:=gC a.l (l-(1+(a.r.size / 50:Nat)))
def uY(b:Li)(l:Int):Int:=jW b.y (jW b.x (eR b.a l))
def oX:List Li→Int→Int
 | [],l=>l
 |b::r,l=>if l<0 then-1 else oX r (uY b l)
def m6(r:Ru):Int:=oX r.b (eR r.h 300)
theorem pI:∀(n:Nat) (e:Ex),SizeOf.sizeOf e≤n→e.s47→∀l:Int,(if l<0 then l else 0)-5629499534050≤jW e l∧(jW e l≤l-1∨jW e l=-1)
 |0, .mk op t o ks,h,_,l=>by simp at h
 |n+1, .mk op t o ks,h,hs,l=>by
  have hc:=nB hs.1;have key:∀(r:List Ex),(∀e∈r,SizeOf.sizeOf e≤n∧e.s47)→∀l:Int,((if l<0 then l else-5629499534050)≤gK r l)∧(gK r l≤l∨gK r l=-1):=by
   intro r;induction r with
   |nil=>intro _ l;unfold gK;refine⟨?_, .inl (Kw _)⟩;split<;>omega
   |cons k r ih=>
    intro hr l;unfold gK;by_cases h0:l<0
    ·rw[if_pos h0,if_pos h0];exact⟨or, .inr rfl⟩
    rw[if_neg h0,if_neg h0];obtain⟨a,b⟩:=pI n k (hr k Kd).1 (hr k Kd).2 l;rw[if_neg h0] at a;obtain⟨c,d⟩:=ih (fun e he=>hr e (Ke _ he)) (jW k l);generalize gK r (jW k l)=z at c d;generalize jW k l=y at a b c d;split at c
    ·omega
    omega
  have hk:∀e∈ks,SizeOf.sizeOf e≤n∧e.s47:=fun e he=>by
   refine⟨?_,Ex.aA6.1 hs.2 e he⟩;have:=Ko he;simp only[Ex.mk.sizeOf_spec] at h;omega
  obtain⟨a,b⟩:=key ks hk (l-dR t);unfold jW;generalize gK ks (l-dR t)=z at a b;split at a<;>split<;>omega
mutual
def Ex.few:Ex→Prop
 | .mk _ _ _ ks=>ks.length≤300∧Ex.aNa ks
def Ex.aNa:List Ex→Prop
 | []=>True
 |e::r=>e.few∧Ex.aNa r
end
theorem Ex.aBk:∀{l:List Ex},Ex.aNa l↔∀e∈l,e.few
 | []=>by simp[Ex.aNa]
 |e::r=>by simp[Ex.aNa,Ex.aBk (l:=r)]
theorem ju:∀(n:Nat) (e:Ex),SizeOf.sizeOf e≤n→e.s47→∀l:Int,l≤300→0≤jW e l→e.few∧0≤l∧jW e l≤l
 |0, .mk op t o ks,h,_,l,_,_=>by simp at h
 |n+1, .mk op t o ks,h,hs,l,hl,h0=>by
  have hc:=nB hs.1;have key:∀(r:List Ex),(∀e∈r,SizeOf.sizeOf e≤n∧e.s47)→∀l:Int,l≤300→0≤gK r l→(∀e∈r,e.few)∧(r.length:Int)≤l-gK r l∧0≤l:=by
   intro r;induction r with
   |nil=>intro _ l hl h0;unfold gK at h0⊢;exact⟨Zm,Zm,h0⟩
   |cons k r ih=>
    intro hr l hl h0;unfold gK at h0⊢;by_cases hl0:l<0
    ·rw[if_pos hl0] at h0;omega
    rw[if_neg hl0] at h0⊢;obtain⟨hk1,hk2⟩:=hr k Kd;obtain⟨_,b⟩:=pI n k hk1 hk2 l;obtain⟨c1,c2,c3⟩:=ih (fun e he=>hr e (Ke _ he)) (jW k l) or h0;obtain⟨d1,d2,d3⟩:=ju n k hk1 hk2 l hl c3;refine⟨fun e he=>?_,by simp only[Kf];omega,or⟩;rcases Kj.1 he with rfl|he
    ·exact d1
    exact c1 e he
  have hk:∀e∈ks,SizeOf.sizeOf e≤n∧e.s47:=fun e he=>by
   refine⟨?_,Ex.aA6.1 hs.2 e he⟩;have:=Ko he;simp only[Ex.mk.sizeOf_spec] at h;omega
  unfold jW at h0⊢;obtain⟨a,b,c⟩:=key ks hk (l-dR t) or h0;exact⟨⟨or,Ex.aBk.2 a⟩,or,or⟩
theorem mc:∀(r:List Tr),(∀t∈r,t.s47)→∀l:Int,(if l<0 then l-5629499534050 else-5629499534050)≤gC r l∧(gC r l≤l∨gC r l=-1)
 | [],_,l=>by unfold gC;refine⟨?_, .inl (Kw _)⟩;split<;>omega
 |t::r,h,l=>by
  have hc:=nB (h t Kd);unfold gC;by_cases q:l-dR t<0
  ·rw[if_pos q];refine⟨?_, .inr rfl⟩;split<;>omega
  rw[if_neg q];obtain⟨a,b⟩:=mc r (fun t ht=>h t (Ke _ ht)) (l-dR t);rw[if_neg q] at a;refine⟨?_,or⟩;split<;>omega
theorem tU:∀(r:List Tr),(∀t∈r,t.s47)→∀l:Int,0≤gC r l→(r.length:Int)≤l-gC r l
 | [],_,l,_=>by simp[gC]
 |t::r,h,l,h0=>by
  have hc:=nB (h t Kd);unfold gC at h0⊢;by_cases q:l-dR t<0
  ·rw[if_pos q] at h0;omega
  rw[if_neg q] at h0⊢;have:=tU r (fun t ht=>h t (Ke _ ht)) (l-dR t) h0;simp only[Kf];omega
theorem sK{a:Am}(h:a.s47):(0:Int)≤(a.r.size / 50:Nat)∧((a.r.size / 50:Nat):Int)≤2814749767024:=by
 have:=h.1;unfold nW at this;omega
theorem tM{a:Am}(h:a.s47)(l:Int):(if l<0 then l else 0)-11258999068100≤eR a l∧(eR a l≤l-1∨eR a l=-1):=by
 have hn:=sK h;obtain⟨x,y⟩:=mc a.l h.2 (l-(1+(a.r.size / 50:Nat)));unfold eR;split at x<;>split<;>omega
theorem Cx{b:Li}(h:b.s47)(l:Int):(if l<0 then l else 0)-22517998136200≤uY b l∧(uY b l≤l-1∨uY b l=-1∨uY b l≤-1):=by
 obtain⟨x1,y1⟩:=tM h.1 l;obtain⟨x2,y2⟩:=pI _ b.x (Kc _) h.2.1 (eR b.a l);obtain⟨x3,y3⟩:=pI _ b.y (Kc _) h.2.2 (jW b.x (eR b.a l));unfold uY;split at x1<;>split at x2<;>split at x3<;>split<;>omega
def Ru.few(r:Ru):Prop:=r.h.l.length≤300∧r.b.length≤300∧∀b∈r.b,b.a.l.length≤300∧b.x.few∧b.y.few
theorem om:∀(r:List Li),(∀b∈r,b.s47)→∀l:Int,l≤300→0≤oX r l→(r.length:Int)≤l-oX r l∧0≤l∧∀b∈r,b.a.l.length≤300∧b.x.few∧b.y.few
 | [],_,l,_,h0=>by unfold oX at h0⊢;exact⟨Zm,h0,Zm⟩
 |b::r,h,l,hl,h0=>by
  have hb:=h b Kd;unfold oX at h0⊢;by_cases hl0:l<0
  ·rw[if_pos hl0] at h0;omega
  rw[if_neg hl0] at h0⊢;have hbd:=(Cx hb l).2;obtain⟨c1,c2,c3⟩:=om r (fun b hb=>h b (Ke _ hb)) (uY b l) or h0;unfold uY at c2;obtain⟨x1,y1⟩:=tM hb.1 l;obtain⟨x2,y2⟩:=pI _ b.x (Kc _) hb.2.1 (eR b.a l);obtain⟨d1,d2,d3⟩:=ju _ b.y (Kc _) hb.2.2 _ or c2;obtain⟨e1,e2,e3⟩:=ju _ b.x (Kc _) hb.2.1 _ or d2;have hn:=sK hb.1;have ft:=tU b.a.l hb.1.2 (l-(1+(b.a.r.size / 50:Nat))) e2;refine⟨by simp only[Kf];omega,or,fun z hz=>?_⟩;rcases Kj.1 hz with rfl|hz
  ·exact⟨by unfold eR at e2;omega,e1,d1⟩
  exact c3 z hz
theorem An{r:Ru}(h:r.s47)(h0:0≤m6 r):r.few:=by
 unfold m6 at h0;have hn:=sK h.1;obtain⟨x1,y1⟩:=tM h.1 300;obtain⟨a,b,c⟩:=om r.b h.2 _ or h0;have ft:=tU r.h.l h.1.2 (300-(1+(r.h.r.size / 50:Nat))) b;unfold eR at b;exact⟨or,or,c⟩
mutual
def Ex.ts:Ex→List Tr
 | .mk _ t _ ks=>if ks.isEmpty then [t] else Ex.tss ks
def Ex.tss:List Ex→List Tr
 | []=>[]
 |e::r=>e.ts++Ex.tss r
end
theorem Ex.aCx:∀l:List Ex,Ex.tss l=l.flatMap Ex.ts
 | []=>rfl
 |e::r=>by rw[Ex.tss,Ex.aCx r];rfl
theorem Ex.aBn(e:Ex):e.ts=if e.kids=[] then [e.t] else e.kids.flatMap Ex.ts:=by
 obtain⟨op,t,o,ks⟩:=e;rw[Ex.ts,Ex.aCx];cases ks<;>rfl
def pM:Nat→Ex→Bool
 |0, .mk _ _ _ ks=>ks.isEmpty
 |n+1, .mk _ _ _ ks=>match ks with
  | []=>true
  | [a,b]=>pM n a&&pM n b
  |_=>false
theorem kg:∀(n:Nat) (e:Ex),dU n e=true→pM n e=true
 |0, .mk op t o ks,h=>by
  unfold dU at h;obtain⟨_,rfl,_⟩:=of_decide_eq_true h;rfl
 |n+1, .mk op t o ks,h=>by
  unfold dU at h;split at h
  ·obtain⟨rfl,_⟩:=of_decide_eq_true h;rfl
  split at h
  ·rename_i a b;obtain⟨_,_,_,h1,h2⟩:=of_decide_eq_true h;simp only[pM,kg n a h1,kg n b h2,Bool.and_true]
  cases h
theorem j9:∀(n:Nat) (e:Ex),pM n e=true→e.ts.length≤2 ^ n
 |0, .mk op t o ks,h=>by
  cases ks with
  |nil=>simp[Ex.ts]
  |cons a r=>cases h
 |n+1, .mk op t o ks,h=>by
  have hp:1≤2 ^ n:=Nat.one_le_two_pow;match ks,h with
  | [],_=>simp[Ex.ts];omega
  | [a,b],h=>
   simp only[pM,Kb] at h;have g1:=j9 n a h.1;have g2:=j9 n b h.2;simp[Ex.ts,Ex.tss,Nat.pow_succ];omega
theorem ir{m:Nat}{op:Int}{t:Tr}{o:Own}{ks:List Ex}(h:pM m (.mk op t o ks)=true):ks.length≤2∧∀e∈ks,∃m,pM m e=true:=by
 cases m with
 |zero=>
  cases ks with
  |nil=>simp
  |cons a r=>cases h
 |succ m=>
  match ks,h with
  | [],_=>simp
  | [a,b],h=>
   simp only[pM,Kb] at h;refine⟨Zm,fun e he=>⟨m,?_⟩⟩;simp only[Kj,List.not_mem_nil,or_false] at he;rcases he with rfl|rfl
   ·exact h.1
   exact h.2
abbrev j8(e:Ex):Bool:=pM 20 e
theorem wm{e:Ex}(h:iB e=true):j8 e=true:=kg 20 e h
theorem fY{e:Ex}(h:j8 e=true):e.ts.length≤1048576:=j9 20 e h
theorem dj{e:Ex}(h:iS e=true):j8 e=true:=by
 unfold iS at h;simp only[Kb,decide_eq_true_eq] at h;obtain⟨op,t,o,ks⟩:=e;have:ks=[]:=h.1.2;subst this;rfl
def bB(x:ByteArray)(l:List ByteArray):Bool:=l.any fun y=>decide (x=y)
theorem dB{x:ByteArray}{l:List ByteArray}:bB x l=true↔x∈l:=by simp[bB]
theorem iK{x:ByteArray}{l:List ByteArray}:bB x l=false↔x∉l:=by rw[←dB,Bool.not_eq_true]
def nmT(l:List ByteArray)(t:Tr):List ByteArray:=if (!decide (t.x.size=0)&& !bB t.x l)=true then l++[t.x] else l
def nmL(l:List ByteArray)(ts:List Tr):List ByteArray:=ts.foldl nmT l
def Li.ts(l:Li):List Tr:=l.a.l++(l.x.ts++l.y.ts)
def Li.vars(l:Li):List ByteArray:=nmL [] l.ts
def Ru.vars(r:Ru):List ByteArray:=r.b.foldl (fun o l=>nmL o l.ts) (nmL [] r.h.l)
theorem xF(l:List ByteArray)(a b:List Tr):nmL l (a++b)=nmL (nmL l a) b:=Ks ..
theorem BK(l:List ByteArray)(t:Tr):(nmT l t).length≤l.length+1:=by
 unfold nmT;split<;>simp
theorem iE:∀(ts:List Tr) (l:List ByteArray),(nmL l ts).length≤l.length+ts.length
 | [],l=>Kc _
 |t::r,l=>by
  have h1:=iE r (nmT l t);have h2:=BK l t;show(nmL (nmT l t) r).length≤_;simp only[Kf];omega
theorem BL{x:ByteArray}{l:List ByteArray}{t:Tr}:x∈nmT l t↔x∈l∨(t.x=x∧t.x.size≠0):=by
 unfold nmT;split
 ·rename_i h;simp only[Kb,Kg,decide_eq_false_iff_not] at h;rw[List.mem_append,Kq];exact⟨fun e=>e.imp_right fun e=>⟨e.symm,h.1⟩,fun e=>e.imp_right fun e=>e.1.symm⟩
 rename_i h;refine⟨.inl,fun e=>e.elim id fun e=>?_⟩;simp only[Kb,Kg,decide_eq_false_iff_not,not_and,Bool.not_eq_false] at h;rw[←e.1];exact dB.1 (h e.2)
theorem xI{x:ByteArray}:∀{ts:List Tr} {l:List ByteArray},x∈nmL l ts↔x∈l∨∃t∈ts,t.x=x∧t.x.size≠0
 | [],l=>by simp[nmL]
 |t::r,l=>by
  show x∈nmL (nmT l t) r↔_;rw[xI (ts:=r),BL];simp only[Kj];constructor
  ·rintro((h|h)|⟨u,h1,h2⟩)
   ·exact .inl h
   ·exact .inr ⟨t, .inl rfl,h⟩
   exact .inr ⟨u, .inr h1,h2⟩
  rintro(h|⟨u,rfl|h1,h2⟩)
  ·exact .inl (.inl h)
  ·exact .inl (.inr h2)
  exact .inr ⟨u,h1,h2⟩
theorem xy{l:List ByteArray}{t:Tr}(h:l.Nodup):(nmT l t).Nodup:=by
 unfold nmT;split
 ·rename_i e;simp only[Kb,Kg,decide_eq_false_iff_not] at e;exact List.nodup_append.2 ⟨h,Zm,fun a ha b hb=>by rw[Kq] at hb;subst hb;rintro rfl;exact iK.1 e.2 ha⟩
 exact h
theorem fy:∀{ts:List Tr} {l:List ByteArray},l.Nodup→(nmL l ts).Nodup
 | [],l,h=>h
 |t::r,l,h=>fy (ts:=r) (xy h)
theorem iW{l:Li}(h:bJ l=true):l.a.l.length≤6∧j8 l.x=true∧j8 l.y=true:=by
 unfold bJ at h;split at h
 ·simp only[Kb] at h;obtain⟨⟨⟨h1,_⟩,h2⟩,h3⟩:=h;unfold fO at h1;simp only[Kb,decide_eq_true_eq] at h1;exact⟨h1.1.2,dj h2,dj h3⟩
 simp only[Kb,decide_eq_true_eq] at h;exact⟨by rw[h.1.1.2.2.1];simp,wm h.1.2,wm h.2⟩
theorem fF{l:Li}(h:bJ l=true):l.ts.length≤2097158:=by
 obtain⟨h1,h2,h3⟩:=iW h;have e2:=fY h2;have e3:=fY h3;simp only[Li.ts,List.length_append];omega
theorem cF{r:Ru}(h:bM r=true):r.h.l.length≤6∧r.b.length≤8∧(∀l∈r.b,bJ l=true):=by
 unfold bM fO at h;simp only[Kb,decide_eq_true_eq,List.all_eq_true] at h;exact⟨h.1.1.1.1.2,h.1.2,h.2⟩
def vR(b:List Li)(o:List ByteArray):List ByteArray:=b.foldl (fun o l=>nmL o l.ts) o
theorem dz:∀(b:List Li) (o:List ByteArray),(∀l∈b,bJ l=true)→(vR b o).length≤o.length+b.length*2097158
 | [],o,_=>by simp[vR]
 |l::b,o,h=>by
  have h1:=dz b (nmL o l.ts) fun x hx=>h x (Ke _ hx);have h2:=iE l.ts o;have h3:=fF (h l Kd);show(vR b (nmL o l.ts)).length≤_;simp only[Kf,Nat.add_mul,Nat.one_mul];omega
theorem rb(b:List Li)(o:List ByteArray)(i:Nat)(h:i<b.length):vR (b.take (i+1)) o=nmL (vR (b.take i) o) b[i].ts:=by
 unfold vR;rw[List.take_succ_eq_append_getElem h,Ks];rfl
theorem xX{r:Ru}(h:bM r=true)(i:Nat):(vR (r.b.take i) (nmL [] r.h.l)).length≤16777270:=by
 obtain⟨h1,h2,h3⟩:=cF h;have a:=dz (r.b.take i) (nmL [] r.h.l) fun l hl=>h3 l (List.mem_of_mem_take hl);have b:=iE r.h.l [];have c:(r.b.take i).length≤8:=by rw[List.length_take];omega
 simp only[List.length_nil] at b;have d:=Nat.mul_le_mul_right 2097158 c;omega
end Go.Proofs.YtgbiopfghdilnaaGreatDoor
