/-
Texts of this proof,one behind the other. No conditions.
-/
import Derived.Test.YtemjhgboialjpaaKe
import Derived.Shelf.GgClosure.StringsIndexFunc
set_option linter.unusedSimpArgs false
set_option linter.unusedVariables false
set_option linter.unusedSectionVars false
namespace Go.Proofs.Ytemjhgboialjpaa
open Go.RowKit Go.Sort
structure C3{α:Type}(c:α→α→Int):Prop where
 eq:∀x y,c x y=0↔x=y
 anti:∀x y,c x y<0↔0<c y x
 trans:∀x y z,c x y<0→c y z<0→c x z<0
section
variable{α β:Type}
def orC(a b:Int):Int:=if a=0 then b else a
theorem C3.self{c:α→α→Int}(h:C3 c)(x:α):c x x=0:=(h.eq x x).2 rfl
theorem C3.pos{c:α→α→Int}(h:C3 c){x y:α}(k:c x y≠0)(k2:¬c x y<0):c y x<0:=(h.anti y x).2 (by omega)
theorem C3.lex{c:α→α→Int}{d:β→β→Int}(hc:C3 c)(hd:C3 d):C3 fun x y:α×β=>orC (c x.1 y.1) (d x.2 y.2) where
 eq x y:=by
  unfold orC
  split
  ·rename_i h;rw[hd.eq,Prod.ext_iff,(hc.eq _ _).1 h];simp
  rename_i h;refine⟨fun e=>absurd e h,fun e=>absurd ((hc.eq _ _).2 (by rw[e])) h⟩
 anti x y:=by
  unfold orC
  by_cases h:c x.1 y.1=0
  ·have e:=(hc.eq _ _).1 h
   rw[if_pos h,if_pos (by rw[e];exact hc.self _)]
   exact hd.anti _ _
  have e:c y.1 x.1≠0:=fun e=>h ((hc.eq _ _).2 ((hc.eq _ _).1 e).symm)
  rw[if_neg h,if_neg e]
  exact hc.anti _ _
 trans x y z:=by
  unfold orC
  by_cases h:c x.1 y.1=0
  ·rw[if_pos h,(hc.eq _ _).1 h]
   by_cases h2:c y.1 z.1=0
   ·rw[if_pos h2,if_pos h2];exact hd.trans _ _ _
   rw[if_neg h2,if_neg h2];exact fun _ h=>h
  rw[if_neg h]
  intro h1
  by_cases h2:c y.1 z.1=0
  ·rw[if_pos h2]
   intro _
   have e:=(hc.eq _ _).1 h2
   rw[←e,if_neg h];exact h1
  rw[if_neg h2]
  intro h3
  have:=hc.trans _ _ _ h1 h3
  rw[if_neg (by omega)];exact this
theorem C3.on{c:β→β→Int}(hc:C3 c){f:α→β}(hf:∀x y,f x=f y→x=y):C3 fun x y=>c (f x) (f y):=
 ⟨fun x y=>(hc.eq _ _).trans ⟨hf x y,fun e=>by rw[e]⟩,fun x y=>hc.anti _ _,fun x y z=>hc.trans _ _ _⟩
def cG(c:α→α→Int):List α→List α→Int
 | [],[]=>0
 | [],_::_=>-1
 |_::_,[]=>1
 |a::x,b::y=>orC (c a b) (cG c x y)
theorem aAb{c:α→α→Int}(h:C3 c):∀x y,cG c x y=0↔x=y
 | [],[]=>by simp[cG]
 | [],_::_=>by simp[cG]
 |_::_,[]=>by simp[cG]
 |a::x,b::y=>by
  unfold cG orC
  split
  ·rename_i e;rw[aAb h x y,(h.eq _ _).1 e];simp
  rename_i e;refine⟨fun k=>absurd k e,fun k=>absurd ((h.eq _ _).2 (by injection k)) e⟩
theorem tI{c:α→α→Int}(h:C3 c):∀x y,cG c x y<0↔0<cG c y x
 | [],[]=>by simp[cG]
 | [],_::_=>by simp[cG]
 |_::_,[]=>by simp[cG]
 |a::x,b::y=>by
  unfold cG orC
  by_cases k:c a b=0
  ·have e:=(h.eq _ _).1 k
   rw[if_pos k,if_pos (by rw[e];exact h.self _)]
   exact tI h x y
  rw[if_neg k,if_neg fun e=>k ((h.eq _ _).2 ((h.eq _ _).1 e).symm)]
  exact h.anti _ _
theorem rE{c:α→α→Int}(h:C3 c):∀x y z,cG c x y<0→cG c y z<0→cG c x z<0
 | [],[],_=>by simp[cG]
 |_::_,[],_=>by simp[cG]
 | [],_::_,[]=>by simp[cG]
 | [],_::_,_::_=>by simp[cG]
 |_::_,_::_,[]=>by simp[cG]
 |a::x,b::y,d::z=>by
  unfold cG orC
  by_cases k:c a b=0
  ·rw[if_pos k,(h.eq _ _).1 k]
   by_cases k2:c b d=0
   ·rw[if_pos k2,if_pos k2];exact rE h x y z
   rw[if_neg k2,if_neg k2];exact fun _ h=>h
  rw[if_neg k]
  intro h1
  by_cases h2:c b d=0
  ·rw[if_pos h2]
   intro _
   rw[←(h.eq _ _).1 h2,if_neg k];exact h1
  rw[if_neg h2]
  intro h3
  have:=h.trans _ _ _ h1 h3
  rw[if_neg (by omega)];exact this
theorem C3.list{c:α→α→Int}(h:C3 c):C3 (cG c):=⟨aAb h,tI h,rE h⟩
theorem C3.swo{c:α→α→Int}(h:C3 c):SWO (ltOf c) where
 irrefl x:=by simp[ltOf,h.self]
 trans x y z:=by simp only[ltOf,decide_eq_true_eq];exact h.trans x y z
 ntrans x y z:=by
  simp only[ltOf,decide_eq_false_iff_not]
  intro h1 h2 h3
  by_cases e1:c x y=0
  ·rw[(h.eq _ _).1 e1] at h3;exact h2 h3
  by_cases e2:c y z=0
  ·rw[←(h.eq _ _).1 e2] at h3;exact h1 h3
  have:=h.trans _ _ _ h3 (h.pos e2 h2)
  have h4:=(h.anti _ _).1 this
  exact h1 ((h.anti _ _).2 (by have:=(h.anti y x).1 (h.pos e1 h1);have:=(h.anti _ _).1 (h.trans _ _ _ h3 (h.pos e2 h2));have:=(h.anti _ _).1 (h.pos e1 h1);omega))
def Str(c:α→α→Int)(l:List α):Prop:=l.Pairwise fun x y=>c x y<0
theorem zL{c:α→α→Int}(h:C3 c){a b:List α}(ha:Str c a)(hb:Str c b)(hm:∀x,x∈a↔x∈b):a=b:=by
 have na:a.Nodup:=ha.imp fun{x y} k e=>by rw[e,h.self] at k;omega
 have nb:b.Nodup:=hb.imp fun{x y} k e=>by rw[e,h.self] at k;omega
 refine List.Perm.eq_of_pairwise (le:=fun x y=>c x y<0) (fun x y _ _ h1 h2=>?_) ha hb ((List.perm_ext_iff_of_nodup na nb).2 hm)
 have:=(h.anti _ _).1 h1;omega
def iD(c:α→α→Int)(x:α):List α→List α
 | []=>[x]
 |y::l=>if c x y<0 then x::y::l else if c x y=0 then y::l else y::iD c x l
theorem mY{c:α→α→Int}(h:C3 c)(x z:α):∀l,z∈iD c x l↔z=x∨z∈l
 | []=>by simp[iD]
 |y::l=>by
  unfold iD
  split
  ·simp
  split
  ·rename_i e;rw[(h.eq _ _).1 e];simp
  simp only[List.mem_cons,mY h x z l]
  constructor
  ·rintro(a|a|a)<;>simp[a]
  rintro(a|a|a)<;>simp[a]
theorem qK{c:α→α→Int}(h:C3 c)(x:α):∀l,Str c l→Str c (iD c x l)
 | [],_=>by simp[iD,Str]
 |y::l,hs=>by
  have⟨h1,h2⟩:=List.pairwise_cons.1 hs
  unfold iD
  split
  ·rename_i k
   exact List.pairwise_cons.2 ⟨fun z hz=>by
    rcases List.mem_cons.1 hz with rfl|hz
    ·exact k
    exact h.trans _ _ _ k (h1 z hz),hs⟩
  split
  ·exact hs
  rename_i k1 k2
  refine List.pairwise_cons.2 ⟨fun z hz=>?_,qK h x l h2⟩
  rcases(mY h x z l).1 hz with rfl|hz
  ·exact h.pos k2 k1
  exact h1 z hz
def cD(c:α→α→Int)(l:List α):List α:=l.foldl (fun a x=>iD c x a) []
theorem sJ(c:α→α→Int)(l:List α)(x:α):cD c (l++[x])=iD c x (cD c l):=by simp[cD]
theorem bD{c:α→α→Int}(h:C3 c)(l:List α):Str c (cD c l)∧∀z,z∈cD c l↔z∈l:=by
 suffices∀(l a:List α),Str c a→Str c (l.foldl (fun a x=>iD c x a) a)∧∀z,z∈l.foldl (fun a x=>iD c x a) a↔z∈l∨z∈a by
  have:=this l [] List.Pairwise.nil
  exact⟨this.1,fun z=>by rw[cD,this.2 z];simp⟩
 intro l
 induction l with
 |nil=>exact fun a ha=>⟨ha,fun z=>by simp⟩
 |cons x l ih=>
  intro a ha
  obtain⟨h1,h2⟩:=ih _ (qK h x a ha)
  refine⟨h1,fun z=>?_⟩
  rw[List.foldl_cons,h2,mY h]
  simp only[List.mem_cons]
  constructor
  ·rintro(a|a|a)<;>simp[a]
  rintro((a|a)|a)<;>simp[a]
theorem zM{c:α→α→Int}(h:C3 c){a l:List α}(ha:Str c a)(hm:∀z,z∈a↔z∈l):a=cD c l:=
 zL h ha (bD h l).1 fun z=>by rw[hm,(bD h l).2]
theorem pL{c:α→α→Int}(h:C3 c){a b:List α}(hm:∀z,z∈a↔z∈b):cD c a=cD c b:=
 zM h (bD h a).1 fun z=>by rw[(bD h a).2,hm]
theorem iV{c:α→α→Int}(l:List α):(cD c l).length≤l.length:=by
 have hi:∀(x:α) (a:List α),(iD c x a).length≤a.length+1:=fun x a=>by
  induction a with
  |nil=>simp[iD]
  |cons y a ih=>unfold iD;split<;>(try split)<;>simp<;>omega
 suffices∀(l a:List α),(l.foldl (fun a x=>iD c x a) a).length≤l.length+a.length by simpa [cD] using this l []
 intro l
 induction l with
 |nil=>simp
 |cons x l ih=>intro a;have:=ih (iD c x a);have:=hi x a;simp only[List.foldl_cons,List.length_cons];omega
theorem iU{c:α→α→Int}(h:C3 c)(l:List α):cD c l=[]↔l=[]:=by
 constructor
 ·intro e
  cases l with
  |nil=>rfl
  |cons x l=>
   have:=((bD h (x::l)).2 x).2 (by simp)
   rw[e] at this;cases this
 rintro rfl;rfl
def oZ(p:α→α→Bool)(a:α):List α→List α
 | []=>[]
 |y::l=>if p y a=true then oZ p y l else y::oZ p y l
def cpt(p:α→α→Bool):List α→List α
 | []=>[]
 |x::l=>x::oZ p x l
theorem wR(p:α→α→Bool)(x y:α):∀l:List α,cpt p (l++[x,y])=cpt p (l++[x])++if p y x=true then [] else [y]
 | []=>by simp only[List.nil_append,cpt,oZ];split<;>rfl
 |a::l=>by
  simp only[List.cons_append,cpt,List.cons.injEq,true_and]
  induction l generalizing a with
  |nil=>simp only[List.nil_append,oZ];split<;>split<;>rfl
  |cons b l ih=>simp only[List.cons_append,oZ];split<;>simp[ih]
theorem tH{c:β→β→Int}(h:C3 c)(f:α→β):∀(l:List α) (a:α),((a::l).Pairwise fun x y=>¬c (f y) (f x)<0)→
 Str c ((oZ (fun x y=>decide (c (f x) (f y)=0)) a l).map f)∧(∀z∈(oZ (fun x y=>decide (c (f x) (f y)=0)) a l).map f,c (f a) z<0)∧∀z,z=f a∨z∈(oZ (fun x y=>decide (c (f x) (f y)=0)) a l).map f↔z∈(a::l).map f
 | [],a,_=>by simp[oZ,Str]
 |y::l,a,hs=>by
  have⟨h1,h2⟩:=List.pairwise_cons.1 hs
  obtain⟨i1,i2,i3⟩:=tH h f l y h2
  unfold oZ
  by_cases e:c (f y) (f a)=0
  ·have e':=(h.eq _ _).1 e
   rw[if_pos (by simpa using e)]
   rw[e'] at i2 i3
   refine⟨i1,i2,fun z=>?_⟩
   rw[i3];simp[e']
  rw[if_neg (by simpa using e)]
  have k:=h.pos e (h1 y (by simp))
  refine⟨?_,?_,fun z=>?_⟩
  ·rw[List.map_cons];exact List.pairwise_cons.2 ⟨i2,i1⟩
  ·intro z hz
   rw[List.map_cons] at hz
   rcases List.mem_cons.1 hz with rfl|hz
   ·exact k
   exact h.trans _ _ _ k (i2 z hz)
  have:=i3 z
  simp only[List.map_cons,List.mem_cons] at this⊢
  rw[this]
theorem zY{c:β→β→Int}(h:C3 c)(f:α→β)(l:List α)(hs:l.Pairwise fun x y=>¬c (f y) (f x)<0):(cpt (fun x y=>decide (c (f x) (f y)=0)) l).map f=cD c (l.map f):=by
 cases l with
 |nil=>rfl
 |cons x l=>
  obtain⟨i1,i2,i3⟩:=tH h f l x hs
  refine zM h ?_ fun z=>?_
  ·rw[cpt,List.map_cons];exact List.pairwise_cons.2 ⟨i2,i1⟩
  rw[←i3,cpt,List.map_cons,List.mem_cons]
theorem aCy(p:α→α→Bool)(l:List α):(cpt p l).Sublist l:=by
 cases l with
 |nil=>exact .slnil
 |cons x l=>
  refine .cons_cons _ ?_
  induction l generalizing x with
  |nil=>exact .slnil
  |cons y l ih=>
   unfold oZ
   split
   ·exact .cons _ (ih y)
   exact .cons_cons _ (ih y)
end
structure Vl where
 k:Int
 n:Int
 s:ByteArray
 deriving DecidableEq
instance:Inhabited Vl:=⟨0,0,⟨#[]⟩⟩
def Vl.v(x:Vl):V:= .agg [.int .i64 x.k, .int .i64 x.n, .str x.s]
theorem Vl.names_v(L:Nat→Prop)(x:Vl):x.v.names L:=by simp[Vl.v,V.names,bN]
theorem Vl.fits_v(x:Vl):x.v.fits (.agg 3)=true:=rfl
def rD(a b:UInt8):Int:=lE a.toNat b.toNat
def zB(a b:ByteArray):Int:=cG rD a.toList b.toList
def dR(a b:Vl):Int:=orC (lE a.k b.k) (orC (lE a.n b.n) (zB a.s b.s))
abbrev cF:List Vl→List Vl→Int:=cG dR
theorem c3I:C3 lE:=by
 refine⟨fun x y=>?_,fun x y=>?_,fun x y z=>?_⟩
 all_goals unfold lE;repeat' split
 all_goals omega
theorem tK{a b:ByteArray}(h:a.toList=b.toList):a=b:=by
 rw[ByteArray.toList_eq,ByteArray.toList_eq] at h
 cases a;cases b
 congr 1
 exact Array.toList_inj.1 h
theorem c3S:C3 zB:=((c3I.on (f:=fun u:UInt8=>(u.toNat:Int)) fun x y e=>UInt8.toNat_inj.1 (by exact_mod_cast e)).list).on fun x y=>tK
theorem c3V:C3 dR:=(c3I.lex (c3I.lex c3S)).on (f:=fun x:Vl=>(x.k,x.n,x.s)) fun x y e=>by
 cases x;cases y;simpa using e
theorem c3T:C3 cF:=c3V.list
theorem rH:∀x y:List UInt8,Op.bytesLess x y=decide (cG rD x y<0)
 | [],[]=>by simp[Op.bytesLess,cG]
 |_::_,[]=>by simp[Op.bytesLess,cG]
 | [],_::_=>by simp[Op.bytesLess,cG]
 |a::x,b::y=>by
  have e:(a<b)=(a.toNat<b.toNat):=rfl
  simp only[Op.bytesLess,rH x y,cG,orC,rD,lE,e]
  by_cases h1:a.toNat<b.toNat
  ·have:(a.toNat:Int)<b.toNat:=by omega
   simp[h1,this]
  by_cases h2:b.toNat<a.toNat
  ·have h3:(b.toNat:Int)<a.toNat:=by omega
   have h4:a≠b:=fun e=>by rw[e] at h2;omega
   have h5:¬(a.toNat:Int)<b.toNat:=by omega
   simp[h1,h3,h4,h5]
  have h3:a=b:=UInt8.toNat_inj.1 (by omega)
  subst h3
  simp
theorem nF(a b:ByteArray):(a.toList==b.toList)=decide (a=b):=by
 by_cases h:a=b
 ·subst h;simp
 have:a.toList≠b.toList:=fun e=>h (tK e)
 simp[h,this]
def zT(a b:Vl):Bool:=decide (dR a b<0)
def oP(a b:List Vl):Bool:=decide (cF a b<0)
def byt(s:ByteArray)(i:Nat):Nat:=(s.data.toList.getD i 0).toNat
theorem aAc(s:ByteArray)(i:Nat):(s.get! i).toNat=byt s i:=by
 cases s with
 |mk d=>
 show(d[i]!).toNat=(d.toList.getD i 0).toNat
 rw[List.getD_eq_getElem?_getD,Array.getElem?_toList,getElem!_def]
 cases d[i]?<;>rfl
theorem uT(s:ByteArray)(i:Nat)(h:byt s i<128):Utf8.decode s i=(byt s i,1):=by
 unfold Utf8.decode
 simp only[Nat.add_zero,aAc]
 rw[if_pos h]
theorem yY(s:ByteArray)(i:Nat)(h:128≤byt s i):128≤(Utf8.decode s i).1:=by
 unfold Utf8.decode
 simp only[Nat.add_zero,aAc]
 rw[if_neg (by omega)]
 repeat' split
 all_goals simp only[Utf8.runeError]
 all_goals (try simp only[ge_iff_le,Bool.and_eq_true,decide_eq_true_eq] at*)
 all_goals omega
theorem zW(p:Nat→Bool)(hp:∀x,128≤x→p x=true)(s:ByteArray):∀f pos,s.size≤pos+f→(0≤Lib.idxFuncFrom p true s f pos↔∃i,pos≤i∧i<s.size∧p (byt s i)=true)
 |0,pos,h=>by
  simp only[Lib.idxFuncFrom]
  refine⟨fun k=>absurd k (by omega),fun⟨i,h1,h2,_⟩=>by omega⟩
 |f+1,pos,h=>by
  simp only[Lib.idxFuncFrom]
  by_cases hps:pos<s.size
  ·rw[if_pos hps]
   by_cases hb:byt s pos<128
   ·rw[uT s pos hb]
    by_cases hq:p (byt s pos)=true
    ·rw[if_pos hq]
     exact⟨fun _=>⟨pos,Nat.le_refl _,hps,hq⟩,fun _=>by omega⟩
    rw[if_neg hq,zW p hp s f (pos+1) (by omega)]
    constructor
    ·rintro⟨i,h1,h2⟩;exact⟨i,by omega,h2⟩
    rintro⟨i,h1,h2,h3⟩
    refine⟨i,?_,h2,h3⟩
    by_cases e:i=pos
    ·subst e;exact absurd h3 hq
    omega
   have h1:=hp _ (yY s pos (by omega))
   rw[if_pos h1]
   exact⟨fun _=>⟨pos,Nat.le_refl _,hps,hp _ (by omega)⟩,fun _=>by omega⟩
  rw[if_neg hps]
  refine⟨fun k=>absurd k (by omega),fun⟨i,h1,h2,_⟩=>by omega⟩
def tU(c:Nat):Bool:=decide (97≤c∧c≤122)
def oQ(c:Nat):Bool:=decide ((97≤c∧c≤122)∨(48≤c∧c≤57)∨c=95)
def fN(c:Nat):Bool:= !oQ c
theorem vI(x:Nat)(h:128≤x):fN x=true:=by
 simp only[fN,oQ,Bool.not_eq_true',decide_eq_false_iff_not];omega
def lO(s:ByteArray):Bool:=decide (1≤s.size∧s.size≤32∧tU (byt s 0)=true∧∀i,i<s.size→oQ (byt s i)=true)
theorem vJ(s:ByteArray):decide (0≤Lib.idxFunc fN true s)= !decide (∀i,i<s.size→oQ (byt s i)=true):=by
 have:=zW fN vI s s.size 0 (by omega)
 unfold Lib.idxFunc
 by_cases h:∀i,i<s.size→oQ (byt s i)=true
 ·rw[decide_eq_true h]
  simp only[Bool.not_true,decide_eq_false_iff_not,this]
  rintro⟨i,_,h2,h3⟩
  simp[fN,h i h2] at h3
 rw[decide_eq_false h]
 simp only[Bool.not_false,decide_eq_true_eq,this]
 false_or_by_contra
 rename_i k
 refine h fun i hi=>?_
 by_cases e:oQ (byt s i)=true
 ·exact e
 exact absurd ⟨i,Nat.zero_le _,hi,by simp[fN,e]⟩ k
def oD(n:Int):Bool:=decide (-2147483647≤n∧n≤2147483647)
def fK(x:Vl):Bool:=(decide (x.k=1)&&(decide (x.s.size=0)&&oD x.n))||(decide (x.k=2)&&(decide (x.n=0)&&lO x.s))
theorem tZ{x:Vl}(h:fK x=true):-2147483647≤x.n∧x.n≤2147483647:=by
 simp only[fK,oD,Bool.or_eq_true,Bool.and_eq_true,decide_eq_true_eq] at h
 omega
theorem aBz{a b:List Int}(h:a.Perm b):a.sum=b.sum:=by
 induction h with
 |nil=>rfl
 |cons x _ ih=>simp only[List.sum_cons,ih]
 |swap x y l=>simp only[List.sum_cons];omega
 |trans _ _ i1 i2=>exact i1.trans i2
section
variable{α:Type}{c:α→α→Int}
theorem zV(h:C3 c){x:α}{l:List α}(hs:Str c l)(hx:x∈l):iD c x l=l:=
 zL h (qK h x l hs) hs fun z=>by
  rw[mY h]
  exact⟨fun k=>k.elim (fun e=>e▸hx) id, .inr⟩
theorem qL(h:C3 c){x:α}:∀{l:List α},x∉l→(iD c x l).Perm (x::l)
 | [],_=> .refl _
 |y::l,hx=>by
  unfold iD
  split
  ·exact .refl _
  split
  ·rename_i e;exact absurd ((h.eq _ _).1 e) (fun e=>hx (by simp[e]))
  exact((qL h (fun k=>hx (by simp[k]))).cons y).trans (.swap x y l)
theorem aAo [DecidableEq α](h:C3 c)(l:List α)(x:α):(cD c (l++[x])).length=(cD c l).length+if x∈l then 0 else 1:=by
 obtain⟨h1,h2⟩:=bD h l
 rw[sJ]
 split
 ·rename_i k;rw[zV h h1 ((h2 x).2 k)];rfl
 rename_i k;rw[(qL h (fun e=>k ((h2 x).1 e))).length_eq];rfl
theorem aBt [DecidableEq α](h:C3 c)(f:α→Int)(l:List α)(x:α):((cD c (l++[x])).map f).sum=((cD c l).map f).sum+if x∈l then 0 else f x:=by
 obtain⟨h1,h2⟩:=bD h l
 rw[sJ]
 split
 ·rename_i k;rw[zV h h1 ((h2 x).2 k)];simp
 rename_i k
 rw[aBz ((qL h (fun e=>k ((h2 x).1 e))).map f),List.map_cons,List.sum_cons];omega
end
theorem aBB{α:Type}{c:α→α→Int}(h:C3 c){l:List α}{i:Nat}{m:α}(hi:i<l.length)(hm:m∈l)(hz:∀z∈l.take i,¬c z m<0):
 (if decide (c l[i] m<0)=true then l[i] else m)∈l∧∀z∈l.take (i+1),¬c z (if decide (c l[i] m<0)=true then l[i] else m)<0:=by
 rw[List.take_succ_eq_append_getElem hi]
 by_cases k:c l[i] m<0
 ·simp only[k,decide_true,if_true]
  refine⟨List.getElem_mem _,fun z hz2=>?_⟩
  rcases List.mem_append.1 hz2 with q|q
  ·exact fun e=>hz z q (h.trans _ _ _ e k)
  have:z=l[i]:=by simpa using q
  rw[this,h.self];omega
 simp only[k,decide_false,Bool.false_eq_true,if_false]
 refine⟨hm,fun z hz2=>?_⟩
 rcases List.mem_append.1 hz2 with q|q
 ·exact hz z q
 have:z=l[i]:=by simpa using q
 rw[this];exact k
theorem aAP{α:Type}{c:α→α→Int}(h:C3 c){l:List α}{i:Nat}{m:α}(hi:i<l.length)(hm:m∈l)(hz:∀z∈l.take i,¬c m z<0):
 (if decide (c m l[i]<0)=true then l[i] else m)∈l∧∀z∈l.take (i+1),¬c (if decide (c m l[i]<0)=true then l[i] else m) z<0:=by
 rw[List.take_succ_eq_append_getElem hi]
 by_cases k:c m l[i]<0
 ·simp only[k,decide_true,if_true]
  refine⟨List.getElem_mem _,fun z hz2=>?_⟩
  rcases List.mem_append.1 hz2 with q|q
  ·exact fun e=>hz z q (h.trans _ _ _ k e)
  have:z=l[i]:=by simpa using q
  rw[this,h.self];omega
 simp only[k,decide_false,Bool.false_eq_true,if_false]
 refine⟨hm,fun z hz2=>?_⟩
 rcases List.mem_append.1 hz2 with q|q
 ·exact hz z q
 have:z=l[i]:=by simpa using q
 rw[this];exact k
def fU:Vl:=⟨0,0,⟨#[]⟩⟩
def ofV(n:Int):Vl×Int:=if oD n=true then (⟨1,n,⟨#[]⟩⟩,0) else (fU,10)
def iL(l:List Vl):Int:=(l.map Vl.n).sum
theorem aAm(l:List Vl)(x:Vl):iL (cD dR (l++[x]))=iL (cD dR l)+if x∈l then 0 else x.n:=aBt c3V Vl.n l x
theorem pJ:∀l:List Vl,(∀x∈l,-2147483647≤x.n∧x.n≤2147483647)→-2147483647*(l.length:Int)≤iL l∧iL l≤2147483647*l.length
 | [],_=>by simp[iL]
 |x::l,h=>by
  have:=pJ l fun y hy=>h y (by simp[hy])
  have:=h x (by simp)
  simp only[iL,List.map_cons,List.sum_cons,List.length_cons] at*
  omega
def fF(g:Int)(l:List Vl):Vl×Int:=
 if g<1∨4<g then (fU,1)
 else if l=[] then (fU,13)
 else if¬(∀x∈l,fK x=true) then (fU,2)
 else if g=2∧¬(∀x∈l,x.k=1) then (fU,7)
 else if g=1 then ofV (cD dR l).length
 else if g=3 then ((cD dR l).headD fU,0)
 else if g=4 then ((cD dR l).getLastD fU,0)
 else ofV (iL (cD dR l))
abbrev bQ(c:Nat)(t:List Vl):List Vl:=t.eraseIdx c
def fX(c:Nat)(k:List Vl)(l:List (List Vl)):List Vl:=(l.filter fun s=>decide (bQ c s=k)).map fun s=>s.getD c fU
def oK(c:Nat)(k:List Vl)(l:List (List Vl)):List (List Vl):=l.filter fun s=> !decide (bQ c s=k)
def gF(g:Int)(c:Nat):Nat→List (List Vl)→List (List Vl)→List (List Vl)×Int
 |0,out,_=>(cD cF out,0)
 |_+1,out,[]=>(cD cF out,0)
 |n+1,out,t::l=>if (fF g (fX c (bQ c t) (t::l))).2≠0 then ([],(fF g (fX c (bQ c t) (t::l))).2)
  else gF g c n (out++[t.set c (fF g (fX c (bQ c t) (t::l))).1]) (oK c (bQ c t) (t::l))
theorem xW(c:Nat)(t:List Vl)(l:List (List Vl)):oK c (bQ c t) (t::l)=l.filter fun s=> !decide (bQ c s=bQ c t):=by
 unfold oK;rw[List.filter_cons_of_neg];simp
theorem kR(c:Nat)(t:List Vl)(l:List (List Vl)):(oK c (bQ c t) (t::l)).length≤l.length:=by
 rw[xW];exact List.length_filter_le _ _
theorem sN(g:Int)(c:Nat):∀n m out l,l.length≤n→l.length≤m→gF g c n out l=gF g c m out l
 |0,0,out,l,_,_=>rfl
 |0,m+1,out,[],_,_=>rfl
 |0,m+1,out,t::l,h,_=>by simp at h
 |n+1,0,out,[],_,_=>rfl
 |n+1,0,out,t::l,_,h=>by simp at h
 |n+1,m+1,out,[],_,_=>rfl
 |n+1,m+1,out,t::l,h1,h2=>by
  have:=kR c t l
  simp only[List.length_cons] at h1 h2
  rw[gF,gF,sN g c n m _ _ (by omega) (by omega)]
def iZ(g:Int)(c:Nat)(out l:List (List Vl)):List (List Vl)×Int:=gF g c l.length out l
theorem aAr(g:Int)(c:Nat)(out:List (List Vl)):iZ g c out []=(cD cF out,0):=rfl
theorem aAs{g:Int}{c:Nat}{out l:List (List Vl)}{t:List Vl}(h:(fF g (fX c (bQ c t) (t::l))).2≠0):iZ g c out (t::l)=([],(fF g (fX c (bQ c t) (t::l))).2):=by
 unfold iZ;rw[List.length_cons,gF,if_pos h]
theorem xT{g:Int}{c:Nat}{out l:List (List Vl)}{t:List Vl}(h:(fF g (fX c (bQ c t) (t::l))).2=0):iZ g c out (t::l)=iZ g c (out++[t.set c (fF g (fX c (bQ c t) (t::l))).1]) (oK c (bQ c t) (t::l)):=by
 unfold iZ;rw[List.length_cons,gF,if_neg (by simpa using h)]
 exact sN g c _ _ _ _ (kR c t l) (Nat.le_refl _)
def bC(g col:Int)(rows:List (List Vl)):List (List Vl)×Int:=
 if g<0∨4<g then ([],1)
 else if 0<g∧¬(∀t∈rows,0≤col∧col<t.length) then ([],1)
 else if g=0 then (cD cF rows,0)
 else iZ g col.toNat [] (cD cF rows)
theorem yM{g col:Int}{a b:List (List Vl)}(h:∀z,z∈a↔z∈b):bC g col a=bC g col b:=by
 unfold bC
 rw[pL c3T h]
 simp only[h]
theorem sO(g:Int)(c:Nat):∀n out l,Str cF (gF g c n out l).1
 |0,out,l=>(bD c3T out).1
 |n+1,out,[]=>(bD c3T out).1
 |n+1,out,t::l=>by
  rw[gF]
  split
  ·exact List.Pairwise.nil
  exact sO g c n _ _
theorem yJ(g col:Int)(rows:List (List Vl)):Str cF (bC g col rows).1:=by
 unfold bC
 repeat' split
 ·exact List.Pairwise.nil
 ·exact List.Pairwise.nil
 ·exact(bD c3T rows).1
 exact sO _ _ _ _ _
theorem sQ(g:Int)(c:Nat):∀n out l,(gF g c n out l).2≠0→(gF g c n out l).1=[]
 |0,out,l=>by simp[gF]
 |n+1,out,[]=>by simp[gF]
 |n+1,out,t::l=>by
  rw[gF]
  split
  ·exact fun _=>rfl
  exact sQ g c n _ _
theorem yN{g col:Int}{rows:List (List Vl)}(h:(bC g col rows).2≠0):(bC g col rows).1=[]:=by
 revert h
 unfold bC
 repeat' split
 ·exact fun _=>rfl
 ·exact fun _=>rfl
 ·exact fun h=>absurd rfl h
 exact sQ _ _ _ _ _
theorem wK{l:List Vl}(h:l≠ []):(cD dR l).headD fU∈l∧(cD dR l).getLastD fU∈l:=by
 have hs:=(bD c3V l).2
 have hne:cD dR l≠ []:=fun e=>h ((iU c3V l).1 e)
 generalize cD dR l=s at hs hne
 constructor
 ·cases s with
  |nil=>exact absurd rfl hne
  |cons a s=>exact(hs a).1 (by simp)
 rcases List.eq_nil_or_concat s with rfl|⟨l',y,rfl⟩
 ·exact absurd rfl hne
 rw[List.concat_eq_append,List.getLastD_concat]
 exact(hs y).1 (by simp)
theorem aAU{g:Int}{l:List Vl}(hg:3≤g)(h0:(fF g l).2=0):(fF g l).1∈l:=by
 revert h0
 unfold fF
 by_cases h1:g<1∨4<g
 ·rw[if_pos h1];intro h;cases h
 rw[if_neg h1]
 by_cases h2:l=[]
 ·rw[if_pos h2];intro h;cases h
 rw[if_neg h2]
 by_cases h3:¬∀x∈l,fK x=true
 ·rw[if_pos h3];intro h;cases h
 rw[if_neg h3,if_neg (by omega),if_neg (by omega)]
 by_cases h4:g=3
 ·rw[if_pos h4];exact fun _=>(wK h2).1
 rw[if_neg h4,if_pos (by omega)];exact fun _=>(wK h2).2
theorem xO{c:Nat}{s t:List Vl}(hs:c<s.length)(ht:c<t.length)(h:bQ c s=bQ c t):t.set c (s.getD c fU)=s:=by
 have h1:s.length=t.length:=by
  have:=congrArg List.length h
  rw[List.length_eraseIdx,List.length_eraseIdx] at this
  rw[if_pos hs,if_pos ht] at this
  omega
 apply List.ext_getElem
 ·simp[h1]
 intro i a b
 rw[List.getElem_set]
 split
 ·rename_i e;subst e;rw[List.getD_eq_getElem?_getD,List.getElem?_eq_getElem hs];rfl
 rename_i e
 simp only[bQ,List.eraseIdx_eq_take_drop_succ] at h
 have hl:(s.take c).length=(t.take c).length:=by simp[h1]
 obtain⟨e1,e2⟩:=List.append_inj h hl
 have hi:i<t.length:=by simpa using a
 rcases Nat.lt_or_ge i c with k|k
 ·have p1:s[i]=(s.take c)[i]'(by simp;omega):=by simp
  have p2:t[i]=(t.take c)[i]'(by simp;omega):=by simp
  rw[p1,p2];congr 1;exact e1.symm
 have p1:s[i]=(s.drop (c+1))[i-(c+1)]'(by simp;omega):=by simp[show c+1+(i-(c+1))=i by omega]
 have p2:t[i]=(t.drop (c+1))[i-(c+1)]'(by simp;omega):=by simp[show c+1+(i-(c+1))=i by omega]
 rw[p1,p2];congr 1;exact e2.symm
theorem sP{g:Int}(hg:3≤g)(c:Nat)(rows:List (List Vl))(hc:∀t∈rows,c<t.length):∀n out l,(∀t∈l,t∈rows)→(∀t∈out,t∈rows)→∀t∈(gF g c n out l).1,t∈rows
 |0,out,l,_,ho=>fun t ht=>ho t (((bD c3T out).2 t).1 ht)
 |n+1,out,[],_,ho=>fun t ht=>ho t (((bD c3T out).2 t).1 ht)
 |n+1,out,t::l,hl,ho=>by
  rw[gF]
  split
  ·intro t ht;cases ht
  rename_i h0
  have h0:(fF g (fX c (bQ c t) (t::l))).2=0:=by simpa using h0
  refine sP hg c rows hc n _ _ (fun s hs=>hl s ((List.mem_filter.1 hs).1)) fun s hs=>?_
  rcases List.mem_append.1 hs with k|k
  ·exact ho s k
  have:=aAU hg h0
  generalize (fF g (fX c (bQ c t) (t::l))).1=y at this k
  simp only[fX,List.mem_map,List.mem_filter,decide_eq_true_eq] at this
  obtain⟨s',⟨h1,h2⟩,h3⟩:=this
  have e:s=t.set c y:=by simpa using k
  rw[e,←h3,xO (hc s' (hl s' h1)) (hc t (hl t (by simp))) h2]
  exact hl s' h1
theorem yK{g col:Int}{rows:List (List Vl)}(hg:3≤g)(h0:(bC g col rows).2=0):∀t∈(bC g col rows).1,t∈rows:=by
 revert h0
 unfold bC
 split
 ·intro h;cases h
 split
 ·intro h;cases h
 split
 ·omega
 rename_i h1 h2 h3
 intro _
 have h2:∀t∈rows,0≤col∧col<t.length:=Classical.byContradiction fun k=>h2 ⟨by omega,k⟩
 exact sP hg _ rows (fun t ht=>by have:=h2 t ht;omega) _ _ _ (fun t ht=>((bD c3T rows).2 t).1 ht) (by simp)
structure zH(l:List Vl)(i:Nat)(many sum:Int)(low high:Vl):Prop where
 many:many=(cD dR (l.take i)).length
 sum:sum=iL (cD dR (l.take i))
 lowM:low∈l
 lowL:∀z∈l.take i,¬dR z low<0
 highM:high∈l
 highL:∀z∈l.take i,¬dR high z<0
theorem zH.step{l:List Vl}{i:Nat}{many sum:Int}{low high:Vl}(f:zH l i many sum low high)(hi:i<l.length):
 zH l (i+1) (if l[i]∈l.take i then many else many+1) (if l[i]∈l.take i then sum else sum+l[i].n) (if decide (dR l[i] low<0)=true then l[i] else low) (if decide (dR high l[i]<0)=true then l[i] else high):=by
 have h1:=aBB c3V hi f.lowM f.lowL
 have h2:=aAP c3V hi f.highM f.highL
 refine⟨?_,?_,h1.1,h1.2,h2.1,h2.2⟩
 ·rw[List.take_succ_eq_append_getElem hi,aAo c3V,f.many]
  split<;>simp
 rw[List.take_succ_eq_append_getElem hi,aAm,f.sum]
 split<;>simp
end Go.Proofs.Ytemjhgboialjpaa
