/-
Texts of this proof,one behind the other. No conditions.
-/
import Derived.Test.YtemjhgboialjpaaGreatKe
import Derived.Shelf.GgClosure.StringsIndexFunc
set_option linter.unusedSimpArgs false
set_option linter.unusedVariables false
set_option linter.unusedSectionVars false
namespace Go.Proofs.YtemjhgboialjpaaGreat
open Go.RowKit Go.Sort
structure C3{α:Type}(c:α→α→Int):Prop where
 eq:∀x y,c x y=0↔x=y
 anti:∀x y,c x y<0↔0<c y x
 trans:∀x y z,c x y<0→c y z<0→c x z<0
section
variable{α β:Type}
def orC(a b:Int):Int:=if a=0 then b else a
theorem C3.self{c:α→α→Int}(h:C3 c)(x:α):c x x=0:=(h.eq x x).2 rfl
theorem C3.pos{c:α→α→Int}(h:C3 c){x y:α}(k:c x y≠0)(k2:¬c x y<0):c y x<0:=(h.anti y x).2 (by omega)
theorem C3.lex{c:α→α→Int}{d:β→β→Int}(hc:C3 c)(hd:C3 d):C3 fun x y:α×β=>orC (c x.1 y.1) (d x.2 y.2) where
 eq x y:=by
  unfold orC
  split
  ·rename_i h;rw[hd.eq,Prod.ext_iff,(hc.eq _ _).1 h];simp
  rename_i h;refine⟨fun e=>absurd e h,fun e=>absurd ((hc.eq _ _).2 (by rw[e])) h⟩
 anti x y:=by
  unfold orC
  by_cases h:c x.1 y.1=0
  ·have e:=(hc.eq _ _).1 h
   rw[if_pos h,if_pos (by rw[e];exact hc.self _)]
   exact hd.anti _ _
  have e:c y.1 x.1≠0:=fun e=>h ((hc.eq _ _).2 ((hc.eq _ _).1 e).symm)
  rw[if_neg h,if_neg e]
  exact hc.anti _ _
 trans x y z:=by
  unfold orC
  by_cases h:c x.1 y.1=0
  ·rw[if_pos h,(hc.eq _ _).1 h]
   by_cases h2:c y.1 z.1=0
   ·rw[if_pos h2,if_pos h2];exact hd.trans _ _ _
   rw[if_neg h2,if_neg h2];exact fun _ h=>h
  rw[if_neg h]
  intro h1
  by_cases h2:c y.1 z.1=0
  ·rw[if_pos h2]
   intro _
   have e:=(hc.eq _ _).1 h2
   rw[←e,if_neg h];exact h1
  rw[if_neg h2]
  intro h3
  have:=hc.trans _ _ _ h1 h3
  rw[if_neg (by omega)];exact this
theorem C3.on{c:β→β→Int}(hc:C3 c){f:α→β}(hf:∀x y,f x=f y→x=y):C3 fun x y=>c (f x) (f y):=
 ⟨fun x y=>(hc.eq _ _).trans ⟨hf x y,fun e=>by rw[e]⟩,fun x y=>hc.anti _ _,fun x y z=>hc.trans _ _ _⟩
def cN(c:α→α→Int):List α→List α→Int
 | [],[]=>0
 | [],_::_=>-1
 |_::_,[]=>1
 |a::x,b::y=>orC (c a b) (cN c x y)
theorem aAL{c:α→α→Int}(h:C3 c):∀x y,cN c x y=0↔x=y
 | [],[]=>by simp[cN]
 | [],_::_=>by simp[cN]
 |_::_,[]=>by simp[cN]
 |a::x,b::y=>by
  unfold cN orC
  split
  ·rename_i e;rw[aAL h x y,(h.eq _ _).1 e];simp
  rename_i e;refine⟨fun k=>absurd k e,fun k=>absurd ((h.eq _ _).2 (by injection k)) e⟩
theorem uY{c:α→α→Int}(h:C3 c):∀x y,cN c x y<0↔0<cN c y x
 | [],[]=>by simp[cN]
 | [],_::_=>by simp[cN]
 |_::_,[]=>by simp[cN]
 |a::x,b::y=>by
  unfold cN orC
  by_cases k:c a b=0
  ·have e:=(h.eq _ _).1 k
   rw[if_pos k,if_pos (by rw[e];exact h.self _)]
   exact uY h x y
  rw[if_neg k,if_neg fun e=>k ((h.eq _ _).2 ((h.eq _ _).1 e).symm)]
  exact h.anti _ _
theorem sA{c:α→α→Int}(h:C3 c):∀x y z,cN c x y<0→cN c y z<0→cN c x z<0
 | [],[],_=>by simp[cN]
 |_::_,[],_=>by simp[cN]
 | [],_::_,[]=>by simp[cN]
 | [],_::_,_::_=>by simp[cN]
 |_::_,_::_,[]=>by simp[cN]
 |a::x,b::y,d::z=>by
  unfold cN orC
  by_cases k:c a b=0
  ·rw[if_pos k,(h.eq _ _).1 k]
   by_cases k2:c b d=0
   ·rw[if_pos k2,if_pos k2];exact sA h x y z
   rw[if_neg k2,if_neg k2];exact fun _ h=>h
  rw[if_neg k]
  intro h1
  by_cases h2:c b d=0
  ·rw[if_pos h2]
   intro _
   rw[←(h.eq _ _).1 h2,if_neg k];exact h1
  rw[if_neg h2]
  intro h3
  have:=h.trans _ _ _ h1 h3
  rw[if_neg (by omega)];exact this
theorem C3.list{c:α→α→Int}(h:C3 c):C3 (cN c):=⟨aAL h,uY h,sA h⟩
theorem C3.swo{c:α→α→Int}(h:C3 c):SWO (ltOf c) where
 irrefl x:=by simp[ltOf,h.self]
 trans x y z:=by simp only[ltOf,decide_eq_true_eq];exact h.trans x y z
 ntrans x y z:=by
  simp only[ltOf,decide_eq_false_iff_not]
  intro h1 h2 h3
  by_cases e1:c x y=0
  ·rw[(h.eq _ _).1 e1] at h3;exact h2 h3
  by_cases e2:c y z=0
  ·rw[←(h.eq _ _).1 e2] at h3;exact h1 h3
  have:=h.trans _ _ _ h3 (h.pos e2 h2)
  have h4:=(h.anti _ _).1 this
  exact h1 ((h.anti _ _).2 (by have:=(h.anti y x).1 (h.pos e1 h1);have:=(h.anti _ _).1 (h.trans _ _ _ h3 (h.pos e2 h2));have:=(h.anti _ _).1 (h.pos e1 h1);omega))
def Str(c:α→α→Int)(l:List α):Prop:=l.Pairwise fun x y=>c x y<0
theorem aAw{c:α→α→Int}(h:C3 c){a b:List α}(ha:Str c a)(hb:Str c b)(hm:∀x,x∈a↔x∈b):a=b:=by
 have na:a.Nodup:=ha.imp fun{x y} k e=>by rw[e,h.self] at k;omega
 have nb:b.Nodup:=hb.imp fun{x y} k e=>by rw[e,h.self] at k;omega
 refine List.Perm.eq_of_pairwise (le:=fun x y=>c x y<0) (fun x y _ _ h1 h2=>?_) ha hb ((List.perm_ext_iff_of_nodup na nb).2 hm)
 have:=(h.anti _ _).1 h1;omega
def fU(c:α→α→Int)(x:α):List α→List α
 | []=>[x]
 |y::l=>if c x y<0 then x::y::l else if c x y=0 then y::l else y::fU c x l
theorem nU{c:α→α→Int}(h:C3 c)(x z:α):∀l,z∈fU c x l↔z=x∨z∈l
 | []=>by simp[fU]
 |y::l=>by
  unfold fU
  split
  ·simp
  split
  ·rename_i e;rw[(h.eq _ _).1 e];simp
  simp only[List.mem_cons,nU h x z l]
  constructor
  ·rintro(a|a|a)<;>simp[a]
  rintro(a|a|a)<;>simp[a]
theorem rI{c:α→α→Int}(h:C3 c)(x:α):∀l,Str c l→Str c (fU c x l)
 | [],_=>by simp[fU,Str]
 |y::l,hs=>by
  have⟨h1,h2⟩:=List.pairwise_cons.1 hs
  unfold fU
  split
  ·rename_i k
   exact List.pairwise_cons.2 ⟨fun z hz=>by
    rcases List.mem_cons.1 hz with rfl|hz
    ·exact k
    exact h.trans _ _ _ k (h1 z hz),hs⟩
  split
  ·exact hs
  rename_i k1 k2
  refine List.pairwise_cons.2 ⟨fun z hz=>?_,rI h x l h2⟩
  rcases(nU h x z l).1 hz with rfl|hz
  ·exact h.pos k2 k1
  exact h1 z hz
def bT(c:α→α→Int)(l:List α):List α:=l.foldl (fun a x=>fU c x a) []
theorem lB(c:α→α→Int)(l:List α)(x:α):bT c (l++[x])=fU c x (bT c l):=by simp[bT]
theorem bO{c:α→α→Int}(h:C3 c)(l:List α):Str c (bT c l)∧∀z,z∈bT c l↔z∈l:=by
 suffices∀(l a:List α),Str c a→Str c (l.foldl (fun a x=>fU c x a) a)∧∀z,z∈l.foldl (fun a x=>fU c x a) a↔z∈l∨z∈a by
  have:=this l [] List.Pairwise.nil
  exact⟨this.1,fun z=>by rw[bT,this.2 z];simp⟩
 intro l
 induction l with
 |nil=>exact fun a ha=>⟨ha,fun z=>by simp⟩
 |cons x l ih=>
  intro a ha
  obtain⟨h1,h2⟩:=ih _ (rI h x a ha)
  refine⟨h1,fun z=>?_⟩
  rw[List.foldl_cons,h2,nU h]
  simp only[List.mem_cons]
  constructor
  ·rintro(a|a|a)<;>simp[a]
  rintro((a|a)|a)<;>simp[a]
theorem aAx{c:α→α→Int}(h:C3 c){a l:List α}(ha:Str c a)(hm:∀z,z∈a↔z∈l):a=bT c l:=
 aAw h ha (bO h l).1 fun z=>by rw[hm,(bO h l).2]
theorem wX{c:α→α→Int}(h:C3 c){a b:List α}(hm:∀z,z∈a↔z∈b):bT c a=bT c b:=
 aAx h (bO h a).1 fun z=>by rw[(bO h a).2,hm]
theorem dV{c:α→α→Int}(l:List α):(bT c l).length≤l.length:=by
 have hi:∀(x:α) (a:List α),(fU c x a).length≤a.length+1:=fun x a=>by
  induction a with
  |nil=>simp[fU]
  |cons y a ih=>unfold fU;split<;>(try split)<;>simp<;>omega
 suffices∀(l a:List α),(l.foldl (fun a x=>fU c x a) a).length≤l.length+a.length by simpa [bT] using this l []
 intro l
 induction l with
 |nil=>simp
 |cons x l ih=>intro a;have:=ih (fU c x a);have:=hi x a;simp only[List.foldl_cons,List.length_cons];omega
theorem nG{c:α→α→Int}(h:C3 c)(l:List α):bT c l=[]↔l=[]:=by
 constructor
 ·intro e
  cases l with
  |nil=>rfl
  |cons x l=>
   have:=((bO h (x::l)).2 x).2 (by simp)
   rw[e] at this;cases this
 rintro rfl;rfl
def pV(p:α→α→Bool)(a:α):List α→List α
 | []=>[]
 |y::l=>if p y a=true then pV p y l else y::pV p y l
def cpt(p:α→α→Bool):List α→List α
 | []=>[]
 |x::l=>x::pV p x l
theorem yG(p:α→α→Bool)(x y:α):∀l:List α,cpt p (l++[x,y])=cpt p (l++[x])++if p y x=true then [] else [y]
 | []=>by simp only[List.nil_append,cpt,pV];split<;>rfl
 |a::l=>by
  simp only[List.cons_append,cpt,List.cons.injEq,true_and]
  induction l generalizing a with
  |nil=>simp only[List.nil_append,pV];split<;>split<;>rfl
  |cons b l ih=>simp only[List.cons_append,pV];split<;>simp[ih]
theorem uX{c:β→β→Int}(h:C3 c)(f:α→β):∀(l:List α) (a:α),((a::l).Pairwise fun x y=>¬c (f y) (f x)<0)→
 Str c ((pV (fun x y=>decide (c (f x) (f y)=0)) a l).map f)∧(∀z∈(pV (fun x y=>decide (c (f x) (f y)=0)) a l).map f,c (f a) z<0)∧∀z,z=f a∨z∈(pV (fun x y=>decide (c (f x) (f y)=0)) a l).map f↔z∈(a::l).map f
 | [],a,_=>by simp[pV,Str]
 |y::l,a,hs=>by
  have⟨h1,h2⟩:=List.pairwise_cons.1 hs
  obtain⟨i1,i2,i3⟩:=uX h f l y h2
  unfold pV
  by_cases e:c (f y) (f a)=0
  ·have e':=(h.eq _ _).1 e
   rw[if_pos (by simpa using e)]
   rw[e'] at i2 i3
   refine⟨i1,i2,fun z=>?_⟩
   rw[i3];simp[e']
  rw[if_neg (by simpa using e)]
  have k:=h.pos e (h1 y (by simp))
  refine⟨?_,?_,fun z=>?_⟩
  ·rw[List.map_cons];exact List.pairwise_cons.2 ⟨i2,i1⟩
  ·intro z hz
   rw[List.map_cons] at hz
   rcases List.mem_cons.1 hz with rfl|hz
   ·exact k
   exact h.trans _ _ _ k (i2 z hz)
  have:=i3 z
  simp only[List.map_cons,List.mem_cons] at this⊢
  rw[this]
theorem aAH{c:β→β→Int}(h:C3 c)(f:α→β)(l:List α)(hs:l.Pairwise fun x y=>¬c (f y) (f x)<0):(cpt (fun x y=>decide (c (f x) (f y)=0)) l).map f=bT c (l.map f):=by
 cases l with
 |nil=>rfl
 |cons x l=>
  obtain⟨i1,i2,i3⟩:=uX h f l x hs
  refine aAx h ?_ fun z=>?_
  ·rw[cpt,List.map_cons];exact List.pairwise_cons.2 ⟨i2,i1⟩
  rw[←i3,cpt,List.map_cons,List.mem_cons]
theorem aDq(p:α→α→Bool)(l:List α):(cpt p l).Sublist l:=by
 cases l with
 |nil=>exact .slnil
 |cons x l=>
  refine .cons_cons _ ?_
  induction l generalizing x with
  |nil=>exact .slnil
  |cons y l ih=>
   unfold pV
   split
   ·exact .cons _ (ih y)
   exact .cons_cons _ (ih y)
end
structure Vl where
 k:Int
 n:Int
 s:ByteArray
 deriving DecidableEq
instance:Inhabited Vl:=⟨0,0,⟨#[]⟩⟩
def Vl.v(x:Vl):V:= .agg [.int .i64 x.k, .int .i64 x.n, .str x.s]
theorem Vl.names_v(L:Nat→Prop)(x:Vl):x.v.names L:=by simp[Vl.v,V.names,bQ]
theorem Vl.fits_v(x:Vl):x.v.fits (.agg 3)=true:=rfl
def rZ(a b:UInt8):Int:=lU a.toNat b.toNat
def aAq(a b:ByteArray):Int:=cN rZ a.toList b.toList
def cQ(a b:Vl):Int:=orC (lU a.k b.k) (orC (lU a.n b.n) (aAq a.s b.s))
abbrev bS:List Vl→List Vl→Int:=cN cQ
theorem c3I:C3 lU:=by
 refine⟨fun x y=>?_,fun x y=>?_,fun x y z=>?_⟩
 all_goals unfold lU;repeat' split
 all_goals omega
theorem vA{a b:ByteArray}(h:a.toList=b.toList):a=b:=by
 rw[ByteArray.toList_eq,ByteArray.toList_eq] at h
 cases a;cases b
 congr 1
 exact Array.toList_inj.1 h
theorem c3S:C3 aAq:=((c3I.on (f:=fun u:UInt8=>(u.toNat:Int)) fun x y e=>UInt8.toNat_inj.1 (by exact_mod_cast e)).list).on fun x y=>vA
theorem c3V:C3 cQ:=(c3I.lex (c3I.lex c3S)).on (f:=fun x:Vl=>(x.k,x.n,x.s)) fun x y e=>by
 cases x;cases y;simpa using e
theorem c3T:C3 bS:=c3V.list
theorem sD:∀x y:List UInt8,Op.bytesLess x y=decide (cN rZ x y<0)
 | [],[]=>by simp[Op.bytesLess,cN]
 |_::_,[]=>by simp[Op.bytesLess,cN]
 | [],_::_=>by simp[Op.bytesLess,cN]
 |a::x,b::y=>by
  have e:(a<b)=(a.toNat<b.toNat):=rfl
  simp only[Op.bytesLess,sD x y,cN,orC,rZ,lU,e]
  by_cases h1:a.toNat<b.toNat
  ·have:(a.toNat:Int)<b.toNat:=by omega
   simp[h1,this]
  by_cases h2:b.toNat<a.toNat
  ·have h3:(b.toNat:Int)<a.toNat:=by omega
   have h4:a≠b:=fun e=>by rw[e] at h2;omega
   have h5:¬(a.toNat:Int)<b.toNat:=by omega
   simp[h1,h3,h4,h5]
  have h3:a=b:=UInt8.toNat_inj.1 (by omega)
  subst h3
  simp
theorem oD(a b:ByteArray):(a.toList==b.toList)=decide (a=b):=by
 by_cases h:a=b
 ·subst h;simp
 have:a.toList≠b.toList:=fun e=>h (vA e)
 simp[h,this]
def rF(a b:Vl):Bool:=decide (cQ a b<0)
def jU(a b:List Vl):Bool:=decide (bS a b<0)
def byt(s:ByteArray)(i:Nat):Nat:=(s.data.toList.getD i 0).toNat
theorem aAM(s:ByteArray)(i:Nat):(s.get! i).toNat=byt s i:=by
 cases s with
 |mk d=>
 show(d[i]!).toNat=(d.toList.getD i 0).toNat
 rw[List.getD_eq_getElem?_getD,Array.getElem?_toList,getElem!_def]
 cases d[i]?<;>rfl
theorem wJ(s:ByteArray)(i:Nat)(h:byt s i<128):Utf8.decode s i=(byt s i,1):=by
 unfold Utf8.decode
 simp only[Nat.add_zero,aAM]
 rw[if_pos h]
theorem aAn(s:ByteArray)(i:Nat)(h:128≤byt s i):128≤(Utf8.decode s i).1:=by
 unfold Utf8.decode
 simp only[Nat.add_zero,aAM]
 rw[if_neg (by omega)]
 repeat' split
 all_goals simp only[Utf8.runeError]
 all_goals (try simp only[ge_iff_le,Bool.and_eq_true,decide_eq_true_eq] at*)
 all_goals omega
theorem aAG(p:Nat→Bool)(hp:∀x,128≤x→p x=true)(s:ByteArray):∀f pos,s.size≤pos+f→(0≤Lib.idxFuncFrom p true s f pos↔∃i,pos≤i∧i<s.size∧p (byt s i)=true)
 |0,pos,h=>by
  simp only[Lib.idxFuncFrom]
  refine⟨fun k=>absurd k (by omega),fun⟨i,h1,h2,_⟩=>by omega⟩
 |f+1,pos,h=>by
  simp only[Lib.idxFuncFrom]
  by_cases hps:pos<s.size
  ·rw[if_pos hps]
   by_cases hb:byt s pos<128
   ·rw[wJ s pos hb]
    by_cases hq:p (byt s pos)=true
    ·rw[if_pos hq]
     exact⟨fun _=>⟨pos,Nat.le_refl _,hps,hq⟩,fun _=>by omega⟩
    rw[if_neg hq,aAG p hp s f (pos+1) (by omega)]
    constructor
    ·rintro⟨i,h1,h2⟩;exact⟨i,by omega,h2⟩
    rintro⟨i,h1,h2,h3⟩
    refine⟨i,?_,h2,h3⟩
    by_cases e:i=pos
    ·subst e;exact absurd h3 hq
    omega
   have h1:=hp _ (aAn s pos (by omega))
   rw[if_pos h1]
   exact⟨fun _=>⟨pos,Nat.le_refl _,hps,hp _ (by omega)⟩,fun _=>by omega⟩
  rw[if_neg hps]
  refine⟨fun k=>absurd k (by omega),fun⟨i,h1,h2,_⟩=>by omega⟩
def gE(c:Nat):Bool:=decide (97≤c∧c≤122)
def gL(c:Nat):Bool:=decide ((97≤c∧c≤122)∨(48≤c∧c≤57)∨c=95)
def fW(c:Nat):Bool:= !gL c
theorem wU(x:Nat)(h:128≤x):fW x=true:=by
 simp only[fW,gL,Bool.not_eq_true',decide_eq_false_iff_not];omega
def gH(s:ByteArray):Bool:=decide (1≤s.size∧s.size≤32∧gE (byt s 0)=true∧∀i,i<s.size→gL (byt s i)=true)
theorem wV(s:ByteArray):decide (0≤Lib.idxFunc fW true s)= !decide (∀i,i<s.size→gL (byt s i)=true):=by
 have:=aAG fW wU s s.size 0 (by omega)
 unfold Lib.idxFunc
 by_cases h:∀i,i<s.size→gL (byt s i)=true
 ·rw[decide_eq_true h]
  simp only[Bool.not_true,decide_eq_false_iff_not,this]
  rintro⟨i,_,h2,h3⟩
  simp[fW,h i h2] at h3
 rw[decide_eq_false h]
 simp only[Bool.not_false,decide_eq_true_eq,this]
 false_or_by_contra
 rename_i k
 refine h fun i hi=>?_
 by_cases e:gL (byt s i)=true
 ·exact e
 exact absurd ⟨i,Nat.zero_le _,hi,by simp[fW,e]⟩ k
def fH(n:Int):Bool:=decide (-2147483647≤n∧n≤2147483647)
def cY(x:Vl):Bool:=(decide (x.k=1)&&(decide (x.s.size=0)&&fH x.n))||(decide (x.k=2)&&(decide (x.n=0)&&gH x.s))
theorem nL{x:Vl}(h:cY x=true):-2147483647≤x.n∧x.n≤2147483647:=by
 simp only[cY,fH,Bool.or_eq_true,Bool.and_eq_true,decide_eq_true_eq] at h
 omega
theorem aCk{a b:List Int}(h:a.Perm b):a.sum=b.sum:=by
 induction h with
 |nil=>rfl
 |cons x _ ih=>simp only[List.sum_cons,ih]
 |swap x y l=>simp only[List.sum_cons];omega
 |trans _ _ i1 i2=>exact i1.trans i2
section
variable{α:Type}{c:α→α→Int}
theorem wB(h:C3 c){x:α}{l:List α}(hs:Str c l)(hx:x∈l):fU c x l=l:=
 aAw h (rI h x l hs) hs fun z=>by
  rw[nU h]
  exact⟨fun k=>k.elim (fun e=>e▸hx) id, .inr⟩
theorem rJ(h:C3 c){x:α}:∀{l:List α},x∉l→(fU c x l).Perm (x::l)
 | [],_=> .refl _
 |y::l,hx=>by
  unfold fU
  split
  ·exact .refl _
  split
  ·rename_i e;exact absurd ((h.eq _ _).1 e) (fun e=>hx (by simp[e]))
  exact((rJ h (fun k=>hx (by simp[k]))).cons y).trans (.swap x y l)
theorem aAZ [DecidableEq α](h:C3 c)(l:List α)(x:α):(bT c (l++[x])).length=(bT c l).length+if x∈l then 0 else 1:=by
 obtain⟨h1,h2⟩:=bO h l
 rw[lB]
 split
 ·rename_i k;rw[wB h h1 ((h2 x).2 k)];rfl
 rename_i k;rw[(rJ h (fun e=>k ((h2 x).1 e))).length_eq];rfl
theorem aCd [DecidableEq α](h:C3 c)(f:α→Int)(l:List α)(x:α):((bT c (l++[x])).map f).sum=((bT c l).map f).sum+if x∈l then 0 else f x:=by
 obtain⟨h1,h2⟩:=bO h l
 rw[lB]
 split
 ·rename_i k;rw[wB h h1 ((h2 x).2 k)];simp
 rename_i k
 rw[aCk ((rJ h (fun e=>k ((h2 x).1 e))).map f),List.map_cons,List.sum_cons];omega
theorem aCc(h:C3 c){l:List α}{m d:α}(hs:Str c l)(hm:m∈l)(hz:∀z∈l,¬c z m<0):l.headD d=m:=by
 cases l with
 |nil=>cases hm
 |cons y l=>
  rcases List.mem_cons.1 hm with e|k
  ·exact e.symm
  exact absurd ((List.pairwise_cons.1 hs).1 m k) (hz y (by simp))
theorem aCb(h:C3 c){l:List α}{m d:α}(hs:Str c l)(hm:m∈l)(hz:∀z∈l,¬c m z<0):l.getLastD d=m:=by
 rcases List.eq_nil_or_concat l with rfl|⟨l',y,rfl⟩
 ·cases hm
 simp only[List.concat_eq_append] at*
 rw[List.getLastD_concat]
 rcases List.mem_append.1 hm with k|k
 ·exact absurd ((List.pairwise_append.1 hs).2.2 m k y (by simp)) (hz y (by simp))
 exact(List.mem_singleton.1 k).symm
end
theorem aCm{α:Type}{c:α→α→Int}(h:C3 c){l:List α}{i:Nat}{m:α}(hi:i<l.length)(hm:m∈l)(hz:∀z∈l.take i,¬c z m<0):
 (if decide (c l[i] m<0)=true then l[i] else m)∈l∧∀z∈l.take (i+1),¬c z (if decide (c l[i] m<0)=true then l[i] else m)<0:=by
 rw[List.take_succ_eq_append_getElem hi]
 by_cases k:c l[i] m<0
 ·simp only[k,decide_true,if_true]
  refine⟨List.getElem_mem _,fun z hz2=>?_⟩
  rcases List.mem_append.1 hz2 with q|q
  ·exact fun e=>hz z q (h.trans _ _ _ e k)
  have:z=l[i]:=by simpa using q
  rw[this,h.self];omega
 simp only[k,decide_false,Bool.false_eq_true,if_false]
 refine⟨hm,fun z hz2=>?_⟩
 rcases List.mem_append.1 hz2 with q|q
 ·exact hz z q
 have:z=l[i]:=by simpa using q
 rw[this];exact k
theorem aBB{α:Type}{c:α→α→Int}(h:C3 c){l:List α}{i:Nat}{m:α}(hi:i<l.length)(hm:m∈l)(hz:∀z∈l.take i,¬c m z<0):
 (if decide (c m l[i]<0)=true then l[i] else m)∈l∧∀z∈l.take (i+1),¬c (if decide (c m l[i]<0)=true then l[i] else m) z<0:=by
 rw[List.take_succ_eq_append_getElem hi]
 by_cases k:c m l[i]<0
 ·simp only[k,decide_true,if_true]
  refine⟨List.getElem_mem _,fun z hz2=>?_⟩
  rcases List.mem_append.1 hz2 with q|q
  ·exact fun e=>hz z q (h.trans _ _ _ k e)
  have:z=l[i]:=by simpa using q
  rw[this,h.self];omega
 simp only[k,decide_false,Bool.false_eq_true,if_false]
 refine⟨hm,fun z hz2=>?_⟩
 rcases List.mem_append.1 hz2 with q|q
 ·exact hz z q
 have:z=l[i]:=by simpa using q
 rw[this];exact k
def dF:Vl:=⟨0,0,⟨#[]⟩⟩
def ofV(n:Int):Vl×Int:=if fH n=true then (⟨1,n,⟨#[]⟩⟩,0) else (dF,10)
def gS(l:List Vl):Int:=(l.map Vl.n).sum
theorem aAX(l:List Vl)(x:Vl):gS (bT cQ (l++[x]))=gS (bT cQ l)+if x∈l then 0 else x.n:=aCd c3V Vl.n l x
theorem mL:∀l:List Vl,(∀x∈l,-2147483647≤x.n∧x.n≤2147483647)→-2147483647*(l.length:Int)≤gS l∧gS l≤2147483647*l.length
 | [],_=>by simp[gS]
 |x::l,h=>by
  have:=mL l fun y hy=>h y (by simp[hy])
  have:=h x (by simp)
  simp only[gS,List.map_cons,List.sum_cons,List.length_cons] at*
  omega
theorem yY{l:List Vl}(h:∀x∈l,cY x=true)(hl:l.length≤1000000):-2147483647000000≤gS (bT cQ l)∧gS (bT cQ l)≤2147483647000000:=by
 have:=mL (bT cQ l) fun x hx=>nL (h x (((bO c3V l).2 x).1 hx))
 have:=dV (c:=cQ) l
 omega
def cH(g:Int)(l:List Vl):Vl×Int:=
 if g<1∨4<g then (dF,1)
 else if l=[] then (dF,13)
 else if¬(∀x∈l,cY x=true) then (dF,2)
 else if g=2∧¬(∀x∈l,x.k=1) then (dF,7)
 else if g=1 then ofV (bT cQ l).length
 else if g=3 then ((bT cQ l).headD dF,0)
 else if g=4 then ((bT cQ l).getLastD dF,0)
 else ofV (gS (bT cQ l))
abbrev aU(c:Nat)(t:List Vl):List Vl:=t.eraseIdx c
def fA(c:Nat)(k:List Vl)(l:List (List Vl)):List Vl:=(l.filter fun s=>decide (aU c s=k)).map fun s=>s.getD c dF
def nN(c:Nat)(k:List Vl)(l:List (List Vl)):List (List Vl):=l.filter fun s=> !decide (aU c s=k)
def oT(g:Int)(c:Nat):Nat→List (List Vl)→List (List Vl)→List (List Vl)×Int
 |0,out,_=>(bT bS out,0)
 |_+1,out,[]=>(bT bS out,0)
 |n+1,out,t::l=>if (cH g (fA c (aU c t) (t::l))).2≠0 then ([],(cH g (fA c (aU c t) (t::l))).2)
  else oT g c n (out++[t.set c (cH g (fA c (aU c t) (t::l))).1]) (nN c (aU c t) (t::l))
theorem qQ(c:Nat)(t:List Vl)(l:List (List Vl)):nN c (aU c t) (t::l)=l.filter fun s=> !decide (aU c s=aU c t):=by
 unfold nN;rw[List.filter_cons_of_neg];simp
theorem lG(c:Nat)(t:List Vl)(l:List (List Vl)):(nN c (aU c t) (t::l)).length≤l.length:=by
 rw[qQ];exact List.length_filter_le _ _
theorem tI(g:Int)(c:Nat):∀n m out l,l.length≤n→l.length≤m→oT g c n out l=oT g c m out l
 |0,0,out,l,_,_=>rfl
 |0,m+1,out,[],_,_=>rfl
 |0,m+1,out,t::l,h,_=>by simp at h
 |n+1,0,out,[],_,_=>rfl
 |n+1,0,out,t::l,_,h=>by simp at h
 |n+1,m+1,out,[],_,_=>rfl
 |n+1,m+1,out,t::l,h1,h2=>by
  have:=lG c t l
  simp only[List.length_cons] at h1 h2
  rw[oT,oT,tI g c n m _ _ (by omega) (by omega)]
def gX(g:Int)(c:Nat)(out l:List (List Vl)):List (List Vl)×Int:=oT g c l.length out l
theorem tK(g:Int)(c:Nat)(out:List (List Vl)):gX g c out []=(bT bS out,0):=rfl
theorem tL{g:Int}{c:Nat}{out l:List (List Vl)}{t:List Vl}(h:(cH g (fA c (aU c t) (t::l))).2≠0):gX g c out (t::l)=([],(cH g (fA c (aU c t) (t::l))).2):=by
 unfold gX;rw[List.length_cons,oT,if_pos h]
theorem qJ{g:Int}{c:Nat}{out l:List (List Vl)}{t:List Vl}(h:(cH g (fA c (aU c t) (t::l))).2=0):gX g c out (t::l)=gX g c (out++[t.set c (cH g (fA c (aU c t) (t::l))).1]) (nN c (aU c t) (t::l)):=by
 unfold gX;rw[List.length_cons,oT,if_neg (by simpa using h)]
 exact tI g c _ _ _ _ (lG c t l) (Nat.le_refl _)
def bE(g col:Int)(rows:List (List Vl)):List (List Vl)×Int:=
 if g<0∨4<g then ([],1)
 else if 0<g∧¬(∀t∈rows,0≤col∧col<t.length) then ([],1)
 else if g=0 then (bT bS rows,0)
 else gX g col.toNat [] (bT bS rows)
def jV(c:Nat)(all:List (List Vl))(i:Nat):List (List Vl):=(all.drop i).filter fun t=>decide (∀s∈all.take i,aU c s≠aU c t)
theorem zV(c:Nat)(all:List (List Vl)):jV c all 0=all:=by
 unfold jV;simp
theorem aBs{c:Nat}{all:List (List Vl)}{i:Nat}(hi:i<all.length)(h:∃s∈all.take i,aU c s=aU c all[i]):jV c all (i+1)=jV c all i:=by
 obtain⟨s0,hs0,he⟩:=h
 unfold jV
 rw[List.drop_eq_getElem_cons hi,List.filter_cons_of_neg]
 ·refine List.filter_congr fun t _=>?_
  rw[List.take_succ_eq_append_getElem hi]
  congr 1
  rw[eq_iff_iff]
  constructor
  ·intro h s hs;exact h s (List.mem_append_left _ hs)
  intro h s hs
  rcases List.mem_append.1 hs with k|k
  ·exact h s k
  have:s=all[i]:=by simpa using k
  subst this
  rw[←he];exact h s0 hs0
 simp only[decide_eq_true_eq]
 exact fun k=>k s0 hs0 he
theorem tV{c:Nat}{all:List (List Vl)}{i:Nat}(hi:i<all.length)(h:∀s∈all.take i,aU c s≠aU c all[i]):
 ∃l,jV c all i=all[i]::l∧fA c (aU c all[i]) (all[i]::l)=fA c (aU c all[i]) all∧jV c all (i+1)=nN c (aU c all[i]) (all[i]::l):=by
 have hd:=List.drop_eq_getElem_cons hi
 have ht:=List.take_succ_eq_append_getElem hi
 obtain⟨x,hx⟩:∃x,all[i]=x:=⟨_,rfl⟩
 rw[hx] at hd ht h⊢
 refine⟨(all.drop (i+1)).filter fun t=>decide (∀s∈all.take i,aU c s≠aU c t),?_,?_,?_⟩
 ·unfold jV
  rw[hd,List.filter_cons_of_pos (by simpa using h)]
 ·unfold fA
  congr 1
  conv=>rhs;rw[←List.take_append_drop i all,hd]
  have h0:(all.take i).filter (fun s=>decide (aU c s=aU c x))=[]:=List.filter_eq_nil_iff.2 fun s hs=>by simpa using h s hs
  rw[List.filter_append,h0,List.nil_append,List.filter_cons_of_pos (by simp),List.filter_cons_of_pos (by simp),List.filter_filter]
  congr 1
  refine List.filter_congr fun t _=>?_
  by_cases e:aU c t=aU c x
  ·simp only[e,decide_true,Bool.true_and,decide_eq_true_eq]
   exact h
  simp[e]
 rw[qQ,List.filter_filter]
 unfold jV
 refine List.filter_congr fun t _=>?_
 rw[ht,←decide_not,←Bool.decide_and]
 congr 1
 rw[eq_iff_iff]
 constructor
 ·intro k;exact⟨fun e=>k x (by simp) e.symm,fun s hs=>k s (List.mem_append_left _ hs)⟩
 rintro⟨k1,k2⟩ s hs
 rcases List.mem_append.1 hs with q|q
 ·exact k2 s q
 rw[List.mem_singleton.1 q]
 exact fun e=>k1 e.symm
theorem aBt(c:Nat)(all:List (List Vl)):jV c all all.length=[]:=by
 unfold jV;simp
theorem zC{c:Nat}{s t:List Vl}(hs:c<s.length)(ht:c<t.length)(h:aU c s=aU c t):t.set c (s.getD c dF)=s:=by
 have h1:s.length=t.length:=by
  have:=congrArg List.length h
  rw[List.length_eraseIdx,List.length_eraseIdx] at this
  rw[if_pos hs,if_pos ht] at this
  omega
 apply List.ext_getElem
 ·simp[h1]
 intro i a b
 rw[List.getElem_set]
 split
 ·rename_i e;subst e;rw[List.getD_eq_getElem?_getD,List.getElem?_eq_getElem hs];rfl
 rename_i e
 simp only[aU,List.eraseIdx_eq_take_drop_succ] at h
 have hl:(s.take c).length=(t.take c).length:=by simp[h1]
 obtain⟨e1,e2⟩:=List.append_inj h hl
 have hi:i<t.length:=by simpa using a
 rcases Nat.lt_or_ge i c with k|k
 ·have p1:s[i]=(s.take c)[i]'(by simp;omega):=by simp
  have p2:t[i]=(t.take c)[i]'(by simp;omega):=by simp
  rw[p1,p2];congr 1;exact e1.symm
 have p1:s[i]=(s.drop (c+1))[i-(c+1)]'(by simp;omega):=by simp[show c+1+(i-(c+1))=i by omega]
 have p2:t[i]=(t.drop (c+1))[i-(c+1)]'(by simp;omega):=by simp[show c+1+(i-(c+1))=i by omega]
 rw[p1,p2];congr 1;exact e2.symm
theorem xA(g:Int)(c K:Nat):∀n out l,(∀t∈l,t.length≤K)→(∀t∈out,t.length≤K)→(∀t∈(oT g c n out l).1,t.length≤K)∧(oT g c n out l).1.length≤out.length+l.length
 |0,out,l,_,ho=>⟨fun t ht=>ho t (((bO c3T out).2 t).1 ht),by have:=dV (c:=bS) out;simp only[oT];omega⟩
 |n+1,out,[],_,ho=>⟨fun t ht=>ho t (((bO c3T out).2 t).1 ht),by have:=dV (c:=bS) out;simp only[oT,List.length_nil];omega⟩
 |n+1,out,t::l,hl,ho=>by
  rw[oT]
  split
  ·exact⟨by simp,by simp⟩
  have hm:=lG c t l
  have:=xA g c K n (out++[t.set c (cH g (fA c (aU c t) (t::l))).1]) (nN c (aU c t) (t::l)) (fun s hs=>hl s (List.mem_filter.1 hs).1) (fun s hs=>by
   rcases List.mem_append.1 hs with k|k
   ·exact ho s k
   rw[List.mem_singleton.1 k,List.length_set];exact hl t (by simp))
  refine⟨this.1,?_⟩
  have h2:=this.2
  simp only[List.length_append,List.length_cons,List.length_nil] at h2⊢
  omega
theorem aAb(g col:Int)(K:Nat)(rows:List (List Vl))(h:∀t∈rows,t.length≤K):(∀t∈(bE g col rows).1,t.length≤K)∧(bE g col rows).1.length≤rows.length:=by
 have hs:∀t∈bT bS rows,t.length≤K:=fun t ht=>h t (((bO c3T rows).2 t).1 ht)
 have hn:=dV (c:=bS) rows
 unfold bE
 repeat' split
 ·exact⟨by simp,by simp⟩
 ·exact⟨by simp,by simp⟩
 ·exact⟨hs,hn⟩
 have:=xA g col.toNat K (bT bS rows).length [] (bT bS rows) hs (by simp)
 exact⟨this.1,by have:=this.2;simp only[gX,List.length_nil] at this⊢;omega⟩
theorem aAF{α:Type}{c:α→α→Int}(h:C3 c){x:α}:∀{l:List α} {k:Nat},k≤l.length→(∀y∈l.take k,c y x<0)→(∀hk:k<l.length,¬c l[k] x<0)→x∉l→fU c x l=l.take k++x::l.drop k
 | [],k,hk,_,_,_=>by
  have:k=0:=by simpa using hk
  subst this;rfl
 |y::l,0,_,_,h2,h3=>by
  have h2:=h2 (by simp)
  simp only[List.getElem_cons_zero] at h2
  have hne:c y x≠0:=fun e=>h3 (by simp[(h.eq _ _).1 e])
  rw[fU,if_pos (h.pos hne h2)];rfl
 |y::l,k+1,hk,h1,h2,h3=>by
  have hy:c y x<0:=h1 y (by simp)
  have n1:¬c x y<0:=fun e=>by have:=(h.anti _ _).1 e;omega
  have n2:c x y≠0:=fun e=>by rw[(h.eq _ _).1 e,h.self] at hy;omega
  rw[fU,if_neg n1,if_neg n2,aAF h (k:=k) (by simpa using hk) (fun z hz=>h1 z (by simp[hz])) (fun hk=>by have:=h2 (by simpa using hk);simpa using this) (fun e=>h3 (by simp[e]))]
  rfl
structure gR(l:List Vl)(i:Nat)(many sum:Int)(low high:Vl):Prop where
 many:many=(bT cQ (l.take i)).length
 sum:sum=gS (bT cQ (l.take i))
 lowM:low∈l
 lowL:∀z∈l.take i,¬cQ z low<0
 highM:high∈l
 highL:∀z∈l.take i,¬cQ high z<0
theorem gR.zero{l:List Vl}{x:Vl}(hx:x∈l):gR l 0 0 0 x x:=⟨rfl,rfl,hx,by simp,hx,by simp⟩
theorem gR.step{l:List Vl}{i:Nat}{many sum:Int}{low high:Vl}(f:gR l i many sum low high)(hi:i<l.length):
 gR l (i+1) (if l[i]∈l.take i then many else many+1) (if l[i]∈l.take i then sum else sum+l[i].n) (if decide (cQ l[i] low<0)=true then l[i] else low) (if decide (cQ high l[i]<0)=true then l[i] else high):=by
 have h1:=aCm c3V hi f.lowM f.lowL
 have h2:=aBB c3V hi f.highM f.highL
 refine⟨?_,?_,h1.1,h1.2,h2.1,h2.2⟩
 ·rw[List.take_succ_eq_append_getElem hi,aAZ c3V,f.many]
  split<;>simp
 rw[List.take_succ_eq_append_getElem hi,aAX,f.sum]
 split<;>simp
theorem gR.done{l:List Vl}{g:Int}{many sum:Int}{low high:Vl}(f:gR l l.length many sum low high)(hg:¬(g<1∨4<g))(hr:∀x∈l,cY x=true)(hs:g=2→∀x∈l,x.k=1):
 cH g l=if g=3 then (low,0) else if g=4 then (high,0) else ofV (if g=1 then many else sum):=by
 have hne:l≠ []:=fun e=>by have:=f.lowM;rw[e] at this;cases this
 have hf:=f.many
 have hfs:=f.sum
 have hl:=f.lowL
 have hh:=f.highL
 rw[List.take_length] at hf hfs hl hh
 have hs2:=bO c3V l
 have q3:(bT cQ l).headD dF=low:=aCc c3V hs2.1 ((hs2.2 _).2 f.lowM) fun z hz=>hl z ((hs2.2 z).1 hz)
 have q4:(bT cQ l).getLastD dF=high:=aCb c3V hs2.1 ((hs2.2 _).2 f.highM) fun z hz=>hh z ((hs2.2 z).1 hz)
 unfold cH
 rw[if_neg hg,if_neg hne,if_neg (fun k=>k hr),if_neg (fun k=>k.2 (hs k.1)),q3,q4,←hf,←hfs]
 by_cases g1:g=1
 ·subst g1;rfl
 rw[if_neg g1,if_neg g1]
end Go.Proofs.YtemjhgboialjpaaGreat
