/-
Texts of this proof,one behind the other. No conditions.
-/
import Derived.Test.YtemjhgboialjpaaKe
import Derived.Shelf.GgClosure.StringsIndexFunc
set_option linter.unusedSimpArgs false
set_option linter.unusedVariables false
set_option linter.unusedSectionVars false
namespace Go.Proofs.Ytemjhgboialjpaa
open Go.RowKit Go.Sort
structure C3{α:Type}(c:α→α→Int):Prop where
 eq:∀x y,c x y=0↔x=y
 anti:∀x y,c x y<0↔0<c y x
 trans:∀x y z,c x y<0→c y z<0→c x z<0
section
variable{α β:Type}
def orC(a b:Int):Int:=if a=0 then b else a
theorem C3.self{c:α→α→Int}(h:C3 c)(x:α):c x x=0:=(h.eq x x).2 rfl
theorem C3.pos{c:α→α→Int}(h:C3 c){x y:α}(k:c x y≠0)(k2:¬c x y<0):c y x<0:=(h.anti y x).2 (by omega)
theorem C3.lex{c:α→α→Int}{d:β→β→Int}(hc:C3 c)(hd:C3 d):C3 fun x y:α×β=>orC (c x.1 y.1) (d x.2 y.2) where
 eq x y:=by
  unfold orC
  split
  ·rename_i h;rw[hd.eq,Prod.ext_iff,(hc.eq _ _).1 h];simp
  rename_i h;refine⟨fun e=>absurd e h,fun e=>absurd ((hc.eq _ _).2 (by rw[e])) h⟩
 anti x y:=by
  unfold orC
  by_cases h:c x.1 y.1=0
  ·have e:=(hc.eq _ _).1 h
   rw[if_pos h,if_pos (by rw[e];exact hc.self _)]
   exact hd.anti _ _
  have e:c y.1 x.1≠0:=fun e=>h ((hc.eq _ _).2 ((hc.eq _ _).1 e).symm)
  rw[if_neg h,if_neg e]
  exact hc.anti _ _
 trans x y z:=by
  unfold orC
  by_cases h:c x.1 y.1=0
  ·rw[if_pos h,(hc.eq _ _).1 h]
   by_cases h2:c y.1 z.1=0
   ·rw[if_pos h2,if_pos h2];exact hd.trans _ _ _
   rw[if_neg h2,if_neg h2];exact fun _ h=>h
  rw[if_neg h]
  intro h1
  by_cases h2:c y.1 z.1=0
  ·rw[if_pos h2]
   intro _
   have e:=(hc.eq _ _).1 h2
   rw[←e,if_neg h];exact h1
  rw[if_neg h2]
  intro h3
  have:=hc.trans _ _ _ h1 h3
  rw[if_neg (by omega)];exact this
theorem C3.on{c:β→β→Int}(hc:C3 c){f:α→β}(hf:∀x y,f x=f y→x=y):C3 fun x y=>c (f x) (f y):=
 ⟨fun x y=>(hc.eq _ _).trans ⟨hf x y,fun e=>by rw[e]⟩,fun x y=>hc.anti _ _,fun x y z=>hc.trans _ _ _⟩
def cO(c:α→α→Int):List α→List α→Int
 | [],[]=>0
 | [],_::_=>-1
 |_::_,[]=>1
 |a::x,b::y=>orC (c a b) (cO c x y)
theorem zO{c:α→α→Int}(h:C3 c):∀x y,cO c x y=0↔x=y
 | [],[]=>by simp[cO]
 | [],_::_=>by simp[cO]
 |_::_,[]=>by simp[cO]
 |a::x,b::y=>by
  unfold cO orC
  split
  ·rename_i e;rw[zO h x y,(h.eq _ _).1 e];simp
  rename_i e;refine⟨fun k=>absurd k e,fun k=>absurd ((h.eq _ _).2 (by injection k)) e⟩
theorem tF{c:α→α→Int}(h:C3 c):∀x y,cO c x y<0↔0<cO c y x
 | [],[]=>by simp[cO]
 | [],_::_=>by simp[cO]
 |_::_,[]=>by simp[cO]
 |a::x,b::y=>by
  unfold cO orC
  by_cases k:c a b=0
  ·have e:=(h.eq _ _).1 k
   rw[if_pos k,if_pos (by rw[e];exact h.self _)]
   exact tF h x y
  rw[if_neg k,if_neg fun e=>k ((h.eq _ _).2 ((h.eq _ _).1 e).symm)]
  exact h.anti _ _
theorem rB{c:α→α→Int}(h:C3 c):∀x y z,cO c x y<0→cO c y z<0→cO c x z<0
 | [],[],_=>by simp[cO]
 |_::_,[],_=>by simp[cO]
 | [],_::_,[]=>by simp[cO]
 | [],_::_,_::_=>by simp[cO]
 |_::_,_::_,[]=>by simp[cO]
 |a::x,b::y,d::z=>by
  unfold cO orC
  by_cases k:c a b=0
  ·rw[if_pos k,(h.eq _ _).1 k]
   by_cases k2:c b d=0
   ·rw[if_pos k2,if_pos k2];exact rB h x y z
   rw[if_neg k2,if_neg k2];exact fun _ h=>h
  rw[if_neg k]
  intro h1
  by_cases h2:c b d=0
  ·rw[if_pos h2]
   intro _
   rw[←(h.eq _ _).1 h2,if_neg k];exact h1
  rw[if_neg h2]
  intro h3
  have:=h.trans _ _ _ h1 h3
  rw[if_neg (by omega)];exact this
theorem C3.list{c:α→α→Int}(h:C3 c):C3 (cO c):=⟨zO h,tF h,rB h⟩
theorem C3.swo{c:α→α→Int}(h:C3 c):SWO (ltOf c) where
 irrefl x:=by simp[ltOf,h.self]
 trans x y z:=by simp only[ltOf,decide_eq_true_eq];exact h.trans x y z
 ntrans x y z:=by
  simp only[ltOf,decide_eq_false_iff_not]
  intro h1 h2 h3
  by_cases e1:c x y=0
  ·rw[(h.eq _ _).1 e1] at h3;exact h2 h3
  by_cases e2:c y z=0
  ·rw[←(h.eq _ _).1 e2] at h3;exact h1 h3
  have:=h.trans _ _ _ h3 (h.pos e2 h2)
  have h4:=(h.anti _ _).1 this
  exact h1 ((h.anti _ _).2 (by have:=(h.anti y x).1 (h.pos e1 h1);have:=(h.anti _ _).1 (h.trans _ _ _ h3 (h.pos e2 h2));have:=(h.anti _ _).1 (h.pos e1 h1);omega))
def Str(c:α→α→Int)(l:List α):Prop:=l.Pairwise fun x y=>c x y<0
theorem yX{c:α→α→Int}(h:C3 c){a b:List α}(ha:Str c a)(hb:Str c b)(hm:∀x,x∈a↔x∈b):a=b:=by
 have na:a.Nodup:=ha.imp fun{x y} k e=>by rw[e,h.self] at k;omega
 have nb:b.Nodup:=hb.imp fun{x y} k e=>by rw[e,h.self] at k;omega
 refine List.Perm.eq_of_pairwise (le:=fun x y=>c x y<0) (fun x y _ _ h1 h2=>?_) ha hb ((List.perm_ext_iff_of_nodup na nb).2 hm)
 have:=(h.anti _ _).1 h1;omega
def iI(c:α→α→Int)(x:α):List α→List α
 | []=>[x]
 |y::l=>if c x y<0 then x::y::l else if c x y=0 then y::l else y::iI c x l
theorem mX{c:α→α→Int}(h:C3 c)(x z:α):∀l,z∈iI c x l↔z=x∨z∈l
 | []=>by simp[iI]
 |y::l=>by
  unfold iI
  split
  ·simp
  split
  ·rename_i e;rw[(h.eq _ _).1 e];simp
  simp only[List.mem_cons,mX h x z l]
  constructor
  ·rintro(a|a|a)<;>simp[a]
  rintro(a|a|a)<;>simp[a]
theorem qH{c:α→α→Int}(h:C3 c)(x:α):∀l,Str c l→Str c (iI c x l)
 | [],_=>by simp[iI,Str]
 |y::l,hs=>by
  have⟨h1,h2⟩:=List.pairwise_cons.1 hs
  unfold iI
  split
  ·rename_i k
   exact List.pairwise_cons.2 ⟨fun z hz=>by
    rcases List.mem_cons.1 hz with rfl|hz
    ·exact k
    exact h.trans _ _ _ k (h1 z hz),hs⟩
  split
  ·exact hs
  rename_i k1 k2
  refine List.pairwise_cons.2 ⟨fun z hz=>?_,qH h x l h2⟩
  rcases(mX h x z l).1 hz with rfl|hz
  ·exact h.pos k2 k1
  exact h1 z hz
def cC(c:α→α→Int)(l:List α):List α:=l.foldl (fun a x=>iI c x a) []
theorem sG(c:α→α→Int)(l:List α)(x:α):cC c (l++[x])=iI c x (cC c l):=by simp[cC]
theorem cK{c:α→α→Int}(h:C3 c)(l:List α):Str c (cC c l)∧∀z,z∈cC c l↔z∈l:=by
 suffices∀(l a:List α),Str c a→Str c (l.foldl (fun a x=>iI c x a) a)∧∀z,z∈l.foldl (fun a x=>iI c x a) a↔z∈l∨z∈a by
  have:=this l [] List.Pairwise.nil
  exact⟨this.1,fun z=>by rw[cC,this.2 z];simp⟩
 intro l
 induction l with
 |nil=>exact fun a ha=>⟨ha,fun z=>by simp⟩
 |cons x l ih=>
  intro a ha
  obtain⟨h1,h2⟩:=ih _ (qH h x a ha)
  refine⟨h1,fun z=>?_⟩
  rw[List.foldl_cons,h2,mX h]
  simp only[List.mem_cons]
  constructor
  ·rintro(a|a|a)<;>simp[a]
  rintro((a|a)|a)<;>simp[a]
theorem yY{c:α→α→Int}(h:C3 c){a l:List α}(ha:Str c a)(hm:∀z,z∈a↔z∈l):a=cC c l:=
 yX h ha (cK h l).1 fun z=>by rw[hm,(cK h l).2]
theorem vC{c:α→α→Int}(h:C3 c){a b:List α}(hm:∀z,z∈a↔z∈b):cC c a=cC c b:=
 yY h (cK h a).1 fun z=>by rw[(cK h a).2,hm]
theorem iY{c:α→α→Int}(l:List α):(cC c l).length≤l.length:=by
 have hi:∀(x:α) (a:List α),(iI c x a).length≤a.length+1:=fun x a=>by
  induction a with
  |nil=>simp[iI]
  |cons y a ih=>unfold iI;split<;>(try split)<;>simp<;>omega
 suffices∀(l a:List α),(l.foldl (fun a x=>iI c x a) a).length≤l.length+a.length by simpa [cC] using this l []
 intro l
 induction l with
 |nil=>simp
 |cons x l ih=>intro a;have:=ih (iI c x a);have:=hi x a;simp only[List.foldl_cons,List.length_cons];omega
theorem mL{c:α→α→Int}(h:C3 c)(l:List α):cC c l=[]↔l=[]:=by
 constructor
 ·intro e
  cases l with
  |nil=>rfl
  |cons x l=>
   have:=((cK h (x::l)).2 x).2 (by simp)
   rw[e] at this;cases this
 rintro rfl;rfl
def oZ(p:α→α→Bool)(a:α):List α→List α
 | []=>[]
 |y::l=>if p y a=true then oZ p y l else y::oZ p y l
def cpt(p:α→α→Bool):List α→List α
 | []=>[]
 |x::l=>x::oZ p x l
theorem wL(p:α→α→Bool)(x y:α):∀l:List α,cpt p (l++[x,y])=cpt p (l++[x])++if p y x=true then [] else [y]
 | []=>by simp only[List.nil_append,cpt,oZ];split<;>rfl
 |a::l=>by
  simp only[List.cons_append,cpt,List.cons.injEq,true_and]
  induction l generalizing a with
  |nil=>simp only[List.nil_append,oZ];split<;>split<;>rfl
  |cons b l ih=>simp only[List.cons_append,oZ];split<;>simp[ih]
theorem tE{c:β→β→Int}(h:C3 c)(f:α→β):∀(l:List α) (a:α),((a::l).Pairwise fun x y=>¬c (f y) (f x)<0)→
 Str c ((oZ (fun x y=>decide (c (f x) (f y)=0)) a l).map f)∧(∀z∈(oZ (fun x y=>decide (c (f x) (f y)=0)) a l).map f,c (f a) z<0)∧∀z,z=f a∨z∈(oZ (fun x y=>decide (c (f x) (f y)=0)) a l).map f↔z∈(a::l).map f
 | [],a,_=>by simp[oZ,Str]
 |y::l,a,hs=>by
  have⟨h1,h2⟩:=List.pairwise_cons.1 hs
  obtain⟨i1,i2,i3⟩:=tE h f l y h2
  unfold oZ
  by_cases e:c (f y) (f a)=0
  ·have e':=(h.eq _ _).1 e
   rw[if_pos (by simpa using e)]
   rw[e'] at i2 i3
   refine⟨i1,i2,fun z=>?_⟩
   rw[i3];simp[e']
  rw[if_neg (by simpa using e)]
  have k:=h.pos e (h1 y (by simp))
  refine⟨?_,?_,fun z=>?_⟩
  ·rw[List.map_cons];exact List.pairwise_cons.2 ⟨i2,i1⟩
  ·intro z hz
   rw[List.map_cons] at hz
   rcases List.mem_cons.1 hz with rfl|hz
   ·exact k
   exact h.trans _ _ _ k (i2 z hz)
  have:=i3 z
  simp only[List.map_cons,List.mem_cons] at this⊢
  rw[this]
theorem zK{c:β→β→Int}(h:C3 c)(f:α→β)(l:List α)(hs:l.Pairwise fun x y=>¬c (f y) (f x)<0):(cpt (fun x y=>decide (c (f x) (f y)=0)) l).map f=cC c (l.map f):=by
 cases l with
 |nil=>rfl
 |cons x l=>
  obtain⟨i1,i2,i3⟩:=tE h f l x hs
  refine yY h ?_ fun z=>?_
  ·rw[cpt,List.map_cons];exact List.pairwise_cons.2 ⟨i2,i1⟩
  rw[←i3,cpt,List.map_cons,List.mem_cons]
theorem aCn(p:α→α→Bool)(l:List α):(cpt p l).Sublist l:=by
 cases l with
 |nil=>exact .slnil
 |cons x l=>
  refine .cons_cons _ ?_
  induction l generalizing x with
  |nil=>exact .slnil
  |cons y l ih=>
   unfold oZ
   split
   ·exact .cons _ (ih y)
   exact .cons_cons _ (ih y)
end
structure Vl where
 k:Int
 n:Int
 s:ByteArray
 deriving DecidableEq
instance:Inhabited Vl:=⟨0,0,⟨#[]⟩⟩
def Vl.v(x:Vl):V:= .agg [.int .i64 x.k, .int .i64 x.n, .str x.s]
theorem Vl.names_v(L:Nat→Prop)(x:Vl):x.v.names L:=by simp[Vl.v,V.names,bM]
theorem Vl.fits_v(x:Vl):x.v.fits (.agg 3)=true:=rfl
def rA(a b:UInt8):Int:=kY a.toNat b.toNat
def yS(a b:ByteArray):Int:=cO rA a.toList b.toList
def cG(a b:Vl):Int:=orC (kY a.k b.k) (orC (kY a.n b.n) (yS a.s b.s))
abbrev eY:List Vl→List Vl→Int:=cO cG
theorem c3I:C3 kY:=by
 refine⟨fun x y=>?_,fun x y=>?_,fun x y z=>?_⟩
 all_goals unfold kY;repeat' split
 all_goals omega
theorem tH{a b:ByteArray}(h:a.toList=b.toList):a=b:=by
 rw[ByteArray.toList_eq,ByteArray.toList_eq] at h
 cases a;cases b
 congr 1
 exact Array.toList_inj.1 h
theorem c3S:C3 yS:=((c3I.on (f:=fun u:UInt8=>(u.toNat:Int)) fun x y e=>UInt8.toNat_inj.1 (by exact_mod_cast e)).list).on fun x y=>tH
theorem c3V:C3 cG:=(c3I.lex (c3I.lex c3S)).on (f:=fun x:Vl=>(x.k,x.n,x.s)) fun x y e=>by
 cases x;cases y;simpa using e
theorem c3T:C3 eY:=c3V.list
theorem rE:∀x y:List UInt8,Op.bytesLess x y=decide (cO rA x y<0)
 | [],[]=>by simp[Op.bytesLess,cO]
 |_::_,[]=>by simp[Op.bytesLess,cO]
 | [],_::_=>by simp[Op.bytesLess,cO]
 |a::x,b::y=>by
  have e:(a<b)=(a.toNat<b.toNat):=rfl
  simp only[Op.bytesLess,rE x y,cO,orC,rA,kY,e]
  by_cases h1:a.toNat<b.toNat
  ·have:(a.toNat:Int)<b.toNat:=by omega
   simp[h1,this]
  by_cases h2:b.toNat<a.toNat
  ·have h3:(b.toNat:Int)<a.toNat:=by omega
   have h4:a≠b:=fun e=>by rw[e] at h2;omega
   have h5:¬(a.toNat:Int)<b.toNat:=by omega
   simp[h1,h3,h4,h5]
  have h3:a=b:=UInt8.toNat_inj.1 (by omega)
  subst h3
  simp
theorem nF(a b:ByteArray):(a.toList==b.toList)=decide (a=b):=by
 by_cases h:a=b
 ·subst h;simp
 have:a.toList≠b.toList:=fun e=>h (tH e)
 simp[h,this]
def vV(a b:Vl):Bool:=decide (cG a b<0)
def byt(s:ByteArray)(i:Nat):Nat:=(s.data.toList.getD i 0).toNat
theorem zP(s:ByteArray)(i:Nat):(s.get! i).toNat=byt s i:=by
 cases s with
 |mk d=>
 show(d[i]!).toNat=(d.toList.getD i 0).toNat
 rw[List.getD_eq_getElem?_getD,Array.getElem?_toList,getElem!_def]
 cases d[i]?<;>rfl
theorem uM(s:ByteArray)(i:Nat)(h:byt s i<128):Utf8.decode s i=(byt s i,1):=by
 unfold Utf8.decode
 simp only[Nat.add_zero,zP]
 rw[if_pos h]
theorem yP(s:ByteArray)(i:Nat)(h:128≤byt s i):128≤(Utf8.decode s i).1:=by
 unfold Utf8.decode
 simp only[Nat.add_zero,zP]
 rw[if_neg (by omega)]
 repeat' split
 all_goals simp only[Utf8.runeError]
 all_goals (try simp only[ge_iff_le,Bool.and_eq_true,decide_eq_true_eq] at*)
 all_goals omega
theorem zI(p:Nat→Bool)(hp:∀x,128≤x→p x=true)(s:ByteArray):∀f pos,s.size≤pos+f→(0≤Lib.idxFuncFrom p true s f pos↔∃i,pos≤i∧i<s.size∧p (byt s i)=true)
 |0,pos,h=>by
  simp only[Lib.idxFuncFrom]
  refine⟨fun k=>absurd k (by omega),fun⟨i,h1,h2,_⟩=>by omega⟩
 |f+1,pos,h=>by
  simp only[Lib.idxFuncFrom]
  by_cases hps:pos<s.size
  ·rw[if_pos hps]
   by_cases hb:byt s pos<128
   ·rw[uM s pos hb]
    by_cases hq:p (byt s pos)=true
    ·rw[if_pos hq]
     exact⟨fun _=>⟨pos,Nat.le_refl _,hps,hq⟩,fun _=>by omega⟩
    rw[if_neg hq,zI p hp s f (pos+1) (by omega)]
    constructor
    ·rintro⟨i,h1,h2⟩;exact⟨i,by omega,h2⟩
    rintro⟨i,h1,h2,h3⟩
    refine⟨i,?_,h2,h3⟩
    by_cases e:i=pos
    ·subst e;exact absurd h3 hq
    omega
   have h1:=hp _ (yP s pos (by omega))
   rw[if_pos h1]
   exact⟨fun _=>⟨pos,Nat.le_refl _,hps,hp _ (by omega)⟩,fun _=>by omega⟩
  rw[if_neg hps]
  refine⟨fun k=>absurd k (by omega),fun⟨i,h1,h2,_⟩=>by omega⟩
def fV(c:Nat):Bool:=decide (97≤c∧c≤122)
def gC(c:Nat):Bool:=decide ((97≤c∧c≤122)∨(48≤c∧c≤57)∨c=95)
def fO(c:Nat):Bool:= !gC c
theorem uZ(x:Nat)(h:128≤x):fO x=true:=by
 simp only[fO,gC,Bool.not_eq_true',decide_eq_false_iff_not];omega
def fY(s:ByteArray):Bool:=decide (1≤s.size∧s.size≤32∧fV (byt s 0)=true∧∀i,i<s.size→gC (byt s i)=true)
theorem vA(s:ByteArray):decide (0≤Lib.idxFunc fO true s)= !decide (∀i,i<s.size→gC (byt s i)=true):=by
 have:=zI fO uZ s s.size 0 (by omega)
 unfold Lib.idxFunc
 by_cases h:∀i,i<s.size→gC (byt s i)=true
 ·rw[decide_eq_true h]
  simp only[Bool.not_true,decide_eq_false_iff_not,this]
  rintro⟨i,_,h2,h3⟩
  simp[fO,h i h2] at h3
 rw[decide_eq_false h]
 simp only[Bool.not_false,decide_eq_true_eq,this]
 false_or_by_contra
 rename_i k
 refine h fun i hi=>?_
 by_cases e:gC (byt s i)=true
 ·exact e
 exact absurd ⟨i,Nat.zero_le _,hi,by simp[fO,e]⟩ k
def eX(n:Int):Bool:=decide (-2147483647≤n∧n≤2147483647)
def cT(x:Vl):Bool:=(decide (x.k=1)&&(decide (x.s.size=0)&&eX x.n))||(decide (x.k=2)&&(decide (x.n=0)&&fY x.s))
theorem mQ{x:Vl}(h:cT x=true):-2147483647≤x.n∧x.n≤2147483647:=by
 simp only[cT,eX,Bool.or_eq_true,Bool.and_eq_true,decide_eq_true_eq] at h
 omega
theorem aBj{a b:List Int}(h:a.Perm b):a.sum=b.sum:=by
 induction h with
 |nil=>rfl
 |cons x _ ih=>simp only[List.sum_cons,ih]
 |swap x y l=>simp only[List.sum_cons];omega
 |trans _ _ i1 i2=>exact i1.trans i2
section
variable{α:Type}{c:α→α→Int}
theorem zH(h:C3 c){x:α}{l:List α}(hs:Str c l)(hx:x∈l):iI c x l=l:=
 yX h (qH h x l hs) hs fun z=>by
  rw[mX h]
  exact⟨fun k=>k.elim (fun e=>e▸hx) id, .inr⟩
theorem qI(h:C3 c){x:α}:∀{l:List α},x∉l→(iI c x l).Perm (x::l)
 | [],_=> .refl _
 |y::l,hx=>by
  unfold iI
  split
  ·exact .refl _
  split
  ·rename_i e;exact absurd ((h.eq _ _).1 e) (fun e=>hx (by simp[e]))
  exact((qI h (fun k=>hx (by simp[k]))).cons y).trans (.swap x y l)
theorem aAb [DecidableEq α](h:C3 c)(l:List α)(x:α):(cC c (l++[x])).length=(cC c l).length+if x∈l then 0 else 1:=by
 obtain⟨h1,h2⟩:=cK h l
 rw[sG]
 split
 ·rename_i k;rw[zH h h1 ((h2 x).2 k)];rfl
 rename_i k;rw[(qI h (fun e=>k ((h2 x).1 e))).length_eq];rfl
theorem aBc [DecidableEq α](h:C3 c)(f:α→Int)(l:List α)(x:α):((cC c (l++[x])).map f).sum=((cC c l).map f).sum+if x∈l then 0 else f x:=by
 obtain⟨h1,h2⟩:=cK h l
 rw[sG]
 split
 ·rename_i k;rw[zH h h1 ((h2 x).2 k)];simp
 rename_i k
 rw[aBj ((qI h (fun e=>k ((h2 x).1 e))).map f),List.map_cons,List.sum_cons];omega
theorem aBb(h:C3 c){l:List α}{m d:α}(hs:Str c l)(hm:m∈l)(hz:∀z∈l,¬c z m<0):l.headD d=m:=by
 cases l with
 |nil=>cases hm
 |cons y l=>
  rcases List.mem_cons.1 hm with e|k
  ·exact e.symm
  exact absurd ((List.pairwise_cons.1 hs).1 m k) (hz y (by simp))
theorem aBa(h:C3 c){l:List α}{m d:α}(hs:Str c l)(hm:m∈l)(hz:∀z∈l,¬c m z<0):l.getLastD d=m:=by
 rcases List.eq_nil_or_concat l with rfl|⟨l',y,rfl⟩
 ·cases hm
 simp only[List.concat_eq_append] at*
 rw[List.getLastD_concat]
 rcases List.mem_append.1 hm with k|k
 ·exact absurd ((List.pairwise_append.1 hs).2.2 m k y (by simp)) (hz y (by simp))
 exact(List.mem_singleton.1 k).symm
end
theorem aBl{α:Type}{c:α→α→Int}(h:C3 c){l:List α}{i:Nat}{m:α}(hi:i<l.length)(hm:m∈l)(hz:∀z∈l.take i,¬c z m<0):
 (if decide (c l[i] m<0)=true then l[i] else m)∈l∧∀z∈l.take (i+1),¬c z (if decide (c l[i] m<0)=true then l[i] else m)<0:=by
 rw[List.take_succ_eq_append_getElem hi]
 by_cases k:c l[i] m<0
 ·simp only[k,decide_true,if_true]
  refine⟨List.getElem_mem _,fun z hz2=>?_⟩
  rcases List.mem_append.1 hz2 with q|q
  ·exact fun e=>hz z q (h.trans _ _ _ e k)
  have:z=l[i]:=by simpa using q
  rw[this,h.self];omega
 simp only[k,decide_false,Bool.false_eq_true,if_false]
 refine⟨hm,fun z hz2=>?_⟩
 rcases List.mem_append.1 hz2 with q|q
 ·exact hz z q
 have:z=l[i]:=by simpa using q
 rw[this];exact k
theorem aAB{α:Type}{c:α→α→Int}(h:C3 c){l:List α}{i:Nat}{m:α}(hi:i<l.length)(hm:m∈l)(hz:∀z∈l.take i,¬c m z<0):
 (if decide (c m l[i]<0)=true then l[i] else m)∈l∧∀z∈l.take (i+1),¬c (if decide (c m l[i]<0)=true then l[i] else m) z<0:=by
 rw[List.take_succ_eq_append_getElem hi]
 by_cases k:c m l[i]<0
 ·simp only[k,decide_true,if_true]
  refine⟨List.getElem_mem _,fun z hz2=>?_⟩
  rcases List.mem_append.1 hz2 with q|q
  ·exact fun e=>hz z q (h.trans _ _ _ k e)
  have:z=l[i]:=by simpa using q
  rw[this,h.self];omega
 simp only[k,decide_false,Bool.false_eq_true,if_false]
 refine⟨hm,fun z hz2=>?_⟩
 rcases List.mem_append.1 hz2 with q|q
 ·exact hz z q
 have:z=l[i]:=by simpa using q
 rw[this];exact k
def eC:Vl:=⟨0,0,⟨#[]⟩⟩
def ofV(n:Int):Vl×Int:=if eX n=true then (⟨1,n,⟨#[]⟩⟩,0) else (eC,10)
def gI(l:List Vl):Int:=(l.map Vl.n).sum
theorem zZ(l:List Vl)(x:Vl):gI (cC cG (l++[x]))=gI (cC cG l)+if x∈l then 0 else x.n:=aBc c3V Vl.n l x
theorem lQ:∀l:List Vl,(∀x∈l,-2147483647≤x.n∧x.n≤2147483647)→-2147483647*(l.length:Int)≤gI l∧gI l≤2147483647*l.length
 | [],_=>by simp[gI]
 |x::l,h=>by
  have:=lQ l fun y hy=>h y (by simp[hy])
  have:=h x (by simp)
  simp only[gI,List.map_cons,List.sum_cons,List.length_cons] at*
  omega
theorem xD{l:List Vl}(h:∀x∈l,cT x=true)(hl:l.length≤1000000):-2147483647000000≤gI (cC cG l)∧gI (cC cG l)≤2147483647000000:=by
 have:=lQ (cC cG l) fun x hx=>mQ (h x (((cK c3V l).2 x).1 hx))
 have:=iY (c:=cG) l
 omega
def dL(g:Int)(l:List Vl):Vl×Int:=
 if g<1∨4<g then (eC,1)
 else if l=[] then (eC,13)
 else if¬(∀x∈l,cT x=true) then (eC,2)
 else if g=2∧¬(∀x∈l,x.k=1) then (eC,7)
 else if g=1 then ofV (cC cG l).length
 else if g=3 then ((cC cG l).headD eC,0)
 else if g=4 then ((cC cG l).getLastD eC,0)
 else ofV (gI (cC cG l))
abbrev bV(c:Nat)(t:List Vl):List Vl:=t.eraseIdx c
def iE(c:Nat)(k:List Vl)(l:List (List Vl)):List Vl:=(l.filter fun s=>decide (bV c s=k)).map fun s=>s.getD c eC
def pR(c:Nat)(k:List Vl)(l:List (List Vl)):List (List Vl):=l.filter fun s=> !decide (bV c s=k)
def vF(g:Int)(c:Nat):Nat→List (List Vl)→List (List Vl)→List (List Vl)×Int
 |0,out,_=>(cC eY out,0)
 |_+1,out,[]=>(cC eY out,0)
 |n+1,out,t::l=>if (dL g (iE c (bV c t) (t::l))).2≠0 then ([],(dL g (iE c (bV c t) (t::l))).2)
  else vF g c n (out++[t.set c (dL g (iE c (bV c t) (t::l))).1]) (pR c (bV c t) (t::l))
theorem xR(c:Nat)(t:List Vl)(l:List (List Vl)):pR c (bV c t) (t::l)=l.filter fun s=> !decide (bV c s=bV c t):=by
 unfold pR;rw[List.filter_cons_of_neg];simp
theorem nV(c:Nat)(t:List Vl)(l:List (List Vl)):(pR c (bV c t) (t::l)).length≤l.length:=by
 rw[xR];exact List.length_filter_le _ _
theorem sK(g:Int)(c:Nat):∀n m out l,l.length≤n→l.length≤m→vF g c n out l=vF g c m out l
 |0,0,out,l,_,_=>rfl
 |0,m+1,out,[],_,_=>rfl
 |0,m+1,out,t::l,h,_=>by simp at h
 |n+1,0,out,[],_,_=>rfl
 |n+1,0,out,t::l,_,h=>by simp at h
 |n+1,m+1,out,[],_,_=>rfl
 |n+1,m+1,out,t::l,h1,h2=>by
  have:=nV c t l
  simp only[List.length_cons] at h1 h2
  rw[vF,vF,sK g c n m _ _ (by omega) (by omega)]
def lE(g:Int)(c:Nat)(out l:List (List Vl)):List (List Vl)×Int:=vF g c l.length out l
theorem aAf(g:Int)(c:Nat)(out:List (List Vl)):lE g c out []=(cC eY out,0):=rfl
theorem aAg{g:Int}{c:Nat}{out l:List (List Vl)}{t:List Vl}(h:(dL g (iE c (bV c t) (t::l))).2≠0):lE g c out (t::l)=([],(dL g (iE c (bV c t) (t::l))).2):=by
 unfold lE;rw[List.length_cons,vF,if_pos h]
theorem xO{g:Int}{c:Nat}{out l:List (List Vl)}{t:List Vl}(h:(dL g (iE c (bV c t) (t::l))).2=0):lE g c out (t::l)=lE g c (out++[t.set c (dL g (iE c (bV c t) (t::l))).1]) (pR c (bV c t) (t::l)):=by
 unfold lE;rw[List.length_cons,vF,if_neg (by simpa using h)]
 exact sK g c _ _ _ _ (nV c t l) (Nat.le_refl _)
def dU(g col:Int)(rows:List (List Vl)):List (List Vl)×Int:=
 if g<0∨4<g then ([],1)
 else if 0<g∧¬(∀t∈rows,0≤col∧col<t.length) then ([],1)
 else if g=0 then (cC eY rows,0)
 else lE g col.toNat [] (cC eY rows)
structure gH(l:List Vl)(i:Nat)(many sum:Int)(low high:Vl):Prop where
 many:many=(cC cG (l.take i)).length
 sum:sum=gI (cC cG (l.take i))
 lowM:low∈l
 lowL:∀z∈l.take i,¬cG z low<0
 highM:high∈l
 highL:∀z∈l.take i,¬cG high z<0
theorem gH.zero{l:List Vl}{x:Vl}(hx:x∈l):gH l 0 0 0 x x:=⟨rfl,rfl,hx,by simp,hx,by simp⟩
theorem gH.step{l:List Vl}{i:Nat}{many sum:Int}{low high:Vl}(f:gH l i many sum low high)(hi:i<l.length):
 gH l (i+1) (if l[i]∈l.take i then many else many+1) (if l[i]∈l.take i then sum else sum+l[i].n) (if decide (cG l[i] low<0)=true then l[i] else low) (if decide (cG high l[i]<0)=true then l[i] else high):=by
 have h1:=aBl c3V hi f.lowM f.lowL
 have h2:=aAB c3V hi f.highM f.highL
 refine⟨?_,?_,h1.1,h1.2,h2.1,h2.2⟩
 ·rw[List.take_succ_eq_append_getElem hi,aAb c3V,f.many]
  split<;>simp
 rw[List.take_succ_eq_append_getElem hi,zZ,f.sum]
 split<;>simp
theorem gH.done{l:List Vl}{g:Int}{many sum:Int}{low high:Vl}(f:gH l l.length many sum low high)(hg:¬(g<1∨4<g))(hr:∀x∈l,cT x=true)(hs:g=2→∀x∈l,x.k=1):
 dL g l=if g=3 then (low,0) else if g=4 then (high,0) else ofV (if g=1 then many else sum):=by
 have hne:l≠ []:=fun e=>by have:=f.lowM;rw[e] at this;cases this
 have hf:=f.many
 have hfs:=f.sum
 have hl:=f.lowL
 have hh:=f.highL
 rw[List.take_length] at hf hfs hl hh
 have hs2:=cK c3V l
 have q3:(cC cG l).headD eC=low:=aBb c3V hs2.1 ((hs2.2 _).2 f.lowM) fun z hz=>hl z ((hs2.2 z).1 hz)
 have q4:(cC cG l).getLastD eC=high:=aBa c3V hs2.1 ((hs2.2 _).2 f.highM) fun z hz=>hh z ((hs2.2 z).1 hz)
 unfold dL
 rw[if_neg hg,if_neg hne,if_neg (fun k=>k hr),if_neg (fun k=>k.2 (hs k.1)),q3,q4,←hf,←hfs]
 by_cases g1:g=1
 ·subst g1;rfl
 rw[if_neg g1,if_neg g1]
end Go.Proofs.Ytemjhgboialjpaa
