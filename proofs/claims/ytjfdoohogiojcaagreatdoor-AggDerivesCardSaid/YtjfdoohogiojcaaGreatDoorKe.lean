/-
Texts of this proof,one behind the other. No conditions.
-/
import Derived.Test.YtjfdoohogiojcaaGreatDoorKd
import Derived.Test.YtjfdoohogiojcaaGreatDoorKdb
import Derived.Shelf.GgClosure.StringsIndexFunc
open Go.Proofs.YtjfdoohogiojcaaGreatDoor.Hp renaming le_refl→Ka
open Nat renaming le_refl→Kb,zero_le→Kk,eq_zero_or_pos→Ku,add_zero→KB,lt_or_ge→KC
open List renaming pairwise_cons→Kc,mem_cons→Kd,mem_cons_self→Ke,mem_cons_of_mem→Kf,map_cons→Kg,length_cons→Kh,mem_append→Ki,take_succ_eq_append_getElem→Kj,getD_eq_getElem?_getD→Ko,sum_cons→Kp,sizeOf_lt_of_mem→Ks,cons_append→Kv,getElem_mem→Ky,foldl_cons→Kz,nil_append→KA
open Bool renaming or_eq_true→Km,false_eq_true→Kt,and_eq_true→Kx
open Array renaming getElem?_toList→Kq,toList_inj→Kw
open Int renaming le_refl→KD
open Nat renaming reduceAdd→jA,reduceSub→jB,reduceLT→jC,reduceLeDiff→jD,reduceEqDiff→jE
open Int renaming reduceToNat→jF,natCast_add→jH,natCast_one→jI,natCast_zero→jJ
open List renaming length_cons→jL,length_nil→jM,replicate_succ→jN,replicate_zero→jO,cons_append→jP,nil_append→jQ
set_option linter.unusedSimpArgs false
set_option linter.unusedVariables false
set_option linter.unusedSectionVars false
set_option maxHeartbeats 8000000
namespace Go.Proofs.YtjfdoohogiojcaaGreatDoor
open Go.RowKit
def qE(a b:Int):Int:=if a<b then-1 else if b<a then 1 else 0
theorem cn{P:Program}{f:Nat}(hL:aF P f=some LB.aDA)(a:Int)(h:Hp):aO P f [.int .i64 a] h (.bool false):=by
 refine aI (fun L=>trivial) fun h' nx hh=>aB hL fun hd=>?_;simp only[jL,jM,jA,jB,jN,jO,jP,jQ,V.undef];refine wl ?_;refine cA (aC h' (Ka _) ⟨?_,rfl⟩);simp[bne]
theorem zF{P:Program}{f f0:Nat}(hL:aF P f=some (LB.aEZ f0))(hL0:aF P f0=some LB.aDA)(a b:Int)(h:Hp):aO P f [.int .i64 a, .int .i64 b] h (.int .i64 (qE a b)):=by
 refine aI (fun L=>trivial) fun h' nx hh=>aB hL fun hd=>?_;simp only[jL,jM,jA,jB,jN,jO,jP,jQ,V.undef];refine wl ?_;refine aP (cn hL0 a _) rfl (aM _) ?_;refine Zn ?_;refine wl ?_;refine aP (cn hL0 b _) rfl (aM _) ?_;refine Zn ?_;refine wl ?_;refine cL _ rfl (fun hc=>?_) (fun hc=>?_)
 ·cases hc
 refine wl ?_;refine cL _ rfl (fun hc=>?_) (fun hc=>?_)
 ·cases hc
 refine wl ?_;refine cL _ rfl (fun hc=>?_) (fun hc=>?_)
 ·refine wl ?_;refine cA ?_;repeat (first|with_reducible refine gZ ?_|with_reducible refine fS ?_|with_reducible refine gJ ?_|with_reducible refine fM ?_)
  refine aC h' (Ka _) ⟨?_,rfl⟩;have:a<b:=by simpa using hc
  simp only[qE,if_pos this,go_sem,reduceIte,jA,jB,jC,jD,reduceCtorEq,jE,jF]
 refine wl ?_;have h1:¬a<b:=by simpa using hc
 refine cL _ rfl (fun hc2=>?_) (fun hc2=>?_)
 ·refine wl ?_;refine cA ?_;repeat (first|with_reducible refine gZ ?_|with_reducible refine fS ?_|with_reducible refine gJ ?_|with_reducible refine fM ?_)
  refine aC h' (Ka _) ⟨?_,rfl⟩;have:b<a:=by simpa using hc2
  simp only[qE,if_neg h1,if_pos this,go_sem,reduceIte,jA,jB,jC,jD,reduceCtorEq,jE,jF]
 refine wl ?_;have h2:¬b<a:=by simpa using hc2
 refine cA (aC h' (Ka _) ⟨?_,rfl⟩);simp only[qE,if_neg h1,if_neg h2,go_sem,reduceIte,jA,jB,jC,jD,reduceCtorEq,jE,jF]
def orI:List Int→Int
 | []=>0
 |x::l=>if x=0 then orI l else x
theorem th{P:Program}{f:Nat}(hL:aF P f=some LB.aKS)(own:Own)(l:List Int)(hl:l.length≤1000000000)(h:Hp):aO P f [.sl .leaf own (l.map (V.int .i64))] h (.int .i64 (orI l)):=by
 refine aI (fun L=>trivial) fun h' nx hh=>aB hL fun hd=>?_;simp only[jL,jM,jA,jB,jN,jO,jP,jQ,V.undef];refine wle trivial ?_;refine oI (fun i:Nat=>i≤l.length∧orI l=orI (l.drop i)) (fun i=>⟨aD 18 0 [(0, .sl .leaf own (l.map (V.int .i64))),(3, .int .i64 0),(6, .sl .leaf own (l.map (V.int .i64))),(7, .int .i64 l.length),(8, .int .i64 i)],h',nx⟩) (fun i=>l.length-i) 0 ⟨Kk _,Zm⟩ ?_ ?_
 ·refine vD (by simp only[WkL,aD,jH,jI,jJ,go_sem,reduceIte,jA,jB,jC,jD,reduceCtorEq,jE,jF]) ?_ ?_
  ·exact Ka _
  omega
 rintro i ⟨hi,hno⟩;simp only[aD,go_sem,reduceIte,jA,jB,jC,jD,reduceCtorEq,jE,jF];refine wl ?_;refine cL _ rfl (fun hc=>?_) (fun hc=>?_)
 ·have hlt:i<l.length:=by simpa using hc
  have hg:=aR (V.int .i64) l i hlt;refine wle hg ?_;rw[List.drop_eq_getElem_cons hlt] at hno;refine cL _ rfl (fun hc=>?_) (fun hc=>?_)
  ·refine wl ?_;refine cA ?_;repeat (first|with_reducible refine gZ ?_|with_reducible refine fS ?_|with_reducible refine gJ ?_|with_reducible refine fM ?_)
   refine aC h' (Ka _) ⟨?_,rfl⟩;have:l[i]≠0:=by simpa using hc
   simp only[hno,orI,if_neg this,go_sem,reduceIte,jA,jB,jC,jD,reduceCtorEq,jE,jF]
  refine wl ?_;have:l[i]=0:=by simpa using hc
  refine iX (i+1) ⟨or,by rw[hno];simp[orI,this]⟩ or ?_;rw[pF or or];refine vD (by simp only[WkL,aD,jH,jI,jJ,go_sem,reduceIte,jA,jB,jC,jD,reduceCtorEq,jE,jF]) ?_ ?_
  ·exact Ka _
  omega
 have hge:i=l.length:=by have:¬i<l.length:=by simpa using hc
                         omega
 refine oJ ?_;repeat (first|with_reducible refine mH ?_|with_reducible refine lJ ?_|with_reducible refine fN ?_|with_reducible refine cD ZM ?_|with_reducible refine fT ?_|with_reducible refine bZ ?_)
 refine wl ?_;refine cA (aC h' (Ka _) ⟨?_,rfl⟩);refine Zn ?_;rw[hno,hge,List.drop_length];rfl
section
variable{P:Program}{k:Sh}{α:Type}(e:α→V)(aAG:∀x,(e x).fits k=true)
include aAG
end
def A2(k:Sh)(own:Own)(es:List V)(nx:Nat)(h:Hp)(v:V)(h':Hp):Prop:=(own= .nil∧v= .sl k .nil []∧h'=h)∨(own≠ .nil∧∃id,nx≤id∧v= .sl k (.tok id) es∧h'=h.set id .tip)
theorem ld{P:Program}{k:Sh}{f bs:Nat}(hL:aF P f=some (LB.aFH k bs))(hbs:bs≤140737)(own:Own)(es:List V)(hl:es.length≤1000000000)(hn:own= .nil→es=[])(h:Hp)(nx:Nat):
 aX P f [.sl k own es] h nx fun v h' _=>A2 k own es nx h v h':=by
 refine aB hL fun hd=>?_;simp only[jL,jM,jA,jB,jN,jO,jP,jQ,V.undef];refine wl ?_;by_cases ho:own= .nil
 ·subst ho;refine cL _ rfl (fun hc=>?_) (fun hc=>?_)
  ·refine wl ?_;refine cA ?_;repeat (first|with_reducible refine gZ ?_|with_reducible refine fS ?_|with_reducible refine gJ ?_|with_reducible refine fM ?_)
   refine aC h (Ka _) (.inl ⟨rfl,?_,rfl⟩);simp only[go_sem,reduceIte,jA,jB,jC,jD,reduceCtorEq,jE,jF]
  cases hc
 refine cL _ rfl (fun hc=>?_) (fun hc=>?_)
 ·exact absurd (by simpa using hc) ho
 have hb1:es.length*bs≤140737488355328:=qA hl hbs;repeat (first|with_reducible refine eO ?_|with_reducible refine dY ?_|with_reducible refine iC ?_|with_reducible refine bZ ?_|with_reducible refine bW ?_|with_reducible refine fI ?_|(refine iE rfl (by simp only[fK,hb1,go_sem,reduceIte,jA,jB,jC,jD,reduceCtorEq,jE,jF];try omega) ?_;simp only[fK,hb1,go_sem,reduceIte,jA,jB,jC,jD,reduceCtorEq,jE,jF])|(with_reducible refine fC ?_))
 refine cA (aC (h.set (nx+1) .tip) ?_ (.inr ⟨ho,nx+1,or,?_,rfl⟩))
 ·intro m b e;have hm:∀b,h m=some b→m<nx:=fun b hb=>hd m b hb;simp only[Hp.aAL,Hp.aAn] at e⊢;split at e
  ·rename_i e1;rw[if_pos e1];exact e
  rename_i e1;have:=hm _ e;rw[if_neg e1,if_neg or,if_neg or];exact e
 simp only[go_sem,reduceIte,jA,jB,jC,jD,reduceCtorEq,jE,jF]
theorem qe{P:Program}{k:Sh}{f bs:Nat}(hL:aF P f=some (LB.aFH k bs))(hbs:bs≤140737)(own:Own)(es:List V)(hl:es.length≤1000000000)(hn:own= .nil→es=[])(hnm:∀L,bM L es)(h:Hp):
 aO P f [.sl k own es] h (V.sl k own es).loose:=by
 refine lY (fun L=>by cases own<;>simp[V.loose,V.names,hnm L,bM]) fun h' nx hh=>?_;have c:=ld hL hbs own es hl hn h' nx;refine⟨c.1,fun K cargs hlv hr hv=>((c.mono (R':=fun v' h'' _=>v'.loose=(V.sl k own es).loose∧h'.le h'') ?_).2 K cargs hlv hr hv)⟩;rintro v h'' nx' hnx (⟨rfl,rfl,rfl⟩|⟨ho,id,hid,rfl,rfl⟩)
 ·have he:=hn rfl;subst he;exact⟨rfl,Ka _⟩
 refine⟨(by cases own<;>first|exact absurd rfl ho|rfl),gM (Ka _) (aW.none (fun m b hm=>hlv m (hr.lt m b hm)) hid) _⟩
end Go.Proofs.YtjfdoohogiojcaaGreatDoor
namespace Go.Proofs.YtjfdoohogiojcaaGreatDoor
open Go.RowKit Go.Sort
structure C3{α:Type}(c:α→α→Int):Prop where
 eq:∀x y,c x y=0↔x=y
 aC8:∀x y,c x y<0↔0<c y x
 trans:∀x y z,c x y<0→c y z<0→c x z<0
section
variable{α β:Type}
def orC(a b:Int):Int:=if a=0 then b else a
theorem C3.self{c:α→α→Int}(h:C3 c)(x:α):c x x=0:=(h.eq x x).2 rfl
theorem C3.pos{c:α→α→Int}(h:C3 c){x y:α}(k:c x y≠0)(k2:¬c x y<0):c y x<0:=(h.aC8 y x).2 or
theorem C3.lex{c:α→α→Int}{d:β→β→Int}(hc:C3 c)(hd:C3 d):C3 fun x y:α×β=>orC (c x.1 y.1) (d x.2 y.2) where
 eq x y:=by
  unfold orC;split
  ·rename_i h;rw[hd.eq,Prod.ext_iff,(hc.eq _ _).1 h];simp
  rename_i h;refine⟨fun e=>absurd e h,fun e=>absurd ((hc.eq _ _).2 (by rw[e])) h⟩
 aC8 x y:=by
  unfold orC;by_cases h:c x.1 y.1=0
  ·have e:=(hc.eq _ _).1 h;rw[if_pos h,if_pos (by rw[e];exact hc.self _)];exact hd.aC8 _ _
  have e:c y.1 x.1≠0:=fun e=>h ((hc.eq _ _).2 ((hc.eq _ _).1 e).symm);rw[if_neg h,if_neg e];exact hc.aC8 _ _
 trans x y z:=by
  unfold orC;by_cases h:c x.1 y.1=0
  ·rw[if_pos h,(hc.eq _ _).1 h];by_cases h2:c y.1 z.1=0
   ·rw[if_pos h2,if_pos h2];exact hd.trans _ _ _
   rw[if_neg h2,if_neg h2];exact fun _ h=>h
  rw[if_neg h];intro h1;by_cases h2:c y.1 z.1=0
  ·rw[if_pos h2];intro _;have e:=(hc.eq _ _).1 h2;rw[←e,if_neg h];exact h1
  rw[if_neg h2];intro h3;have:=hc.trans _ _ _ h1 h3;rw[if_neg or];exact this
theorem C3.on{c:β→β→Int}(hc:C3 c){f:α→β}(hf:∀x y,f x=f y→x=y):C3 fun x y=>c (f x) (f y):=
 ⟨fun x y=>(hc.eq _ _).trans ⟨hf x y,fun e=>by rw[e]⟩,fun x y=>hc.aC8 _ _,fun x y z=>hc.trans _ _ _⟩
def dM(c:α→α→Int):List α→List α→Int
 | [],[]=>0
 | [],_::_=>-1
 |_::_,[]=>1
 |a::x,b::y=>orC (c a b) (dM c x y)
theorem ru{c:α→α→Int}(h:C3 c):∀x y,dM c x y=0↔x=y
 | [],[]=>by simp[dM]
 | [],_::_=>by simp[dM]
 |_::_,[]=>by simp[dM]
 |a::x,b::y=>by
  unfold dM orC;split
  ·rename_i e;rw[ru h x y,(h.eq _ _).1 e];simp
  rename_i e;refine⟨fun k=>absurd k e,fun k=>absurd ((h.eq _ _).2 (by injection k)) e⟩
theorem de{c:α→α→Int}(h:C3 c):∀x y,dM c x y<0↔0<dM c y x
 | [],[]=>by simp[dM]
 | [],_::_=>by simp[dM]
 |_::_,[]=>by simp[dM]
 |a::x,b::y=>by
  unfold dM orC;by_cases k:c a b=0
  ·have e:=(h.eq _ _).1 k;rw[if_pos k,if_pos (by rw[e];exact h.self _)];exact de h x y
  rw[if_neg k,if_neg fun e=>k ((h.eq _ _).2 ((h.eq _ _).1 e).symm)];exact h.aC8 _ _
theorem zD{c:α→α→Int}(h:C3 c):∀x y z,dM c x y<0→dM c y z<0→dM c x z<0
 | [],[],_=>by simp[dM]
 |_::_,[],_=>by simp[dM]
 | [],_::_,[]=>by simp[dM]
 | [],_::_,_::_=>by simp[dM]
 |_::_,_::_,[]=>by simp[dM]
 |a::x,b::y,d::z=>by
  unfold dM orC;by_cases k:c a b=0
  ·rw[if_pos k,(h.eq _ _).1 k];by_cases k2:c b d=0
   ·rw[if_pos k2,if_pos k2];exact zD h x y z
   rw[if_neg k2,if_neg k2];exact fun _ h=>h
  rw[if_neg k];intro h1;by_cases h2:c b d=0
  ·rw[if_pos h2];intro _;rw[←(h.eq _ _).1 h2,if_neg k];exact h1
  rw[if_neg h2];intro h3;have:=h.trans _ _ _ h1 h3;rw[if_neg or];exact this
theorem C3.list{c:α→α→Int}(h:C3 c):C3 (dM c):=⟨ru h,de h,zD h⟩
theorem C3.swo{c:α→α→Int}(h:C3 c):SWO (ltOf c) where
 irrefl x:=by simp[ltOf,h.self]
 trans x y z:=by simp only[ltOf,decide_eq_true_eq];exact h.trans x y z
 ntrans x y z:=by
  simp only[ltOf,decide_eq_false_iff_not];intro h1 h2 h3;by_cases e1:c x y=0
  ·rw[(h.eq _ _).1 e1] at h3;exact h2 h3
  by_cases e2:c y z=0
  ·rw[←(h.eq _ _).1 e2] at h3;exact h1 h3
  have:=h.trans _ _ _ h3 (h.pos e2 h2);have h4:=(h.aC8 _ _).1 this;exact h1 ((h.aC8 _ _).2 (by have:=(h.aC8 y x).1 (h.pos e1 h1);have:=(h.aC8 _ _).1 (h.trans _ _ _ h3 (h.pos e2 h2));have:=(h.aC8 _ _).1 (h.pos e1 h1);omega))
def Str(c:α→α→Int)(l:List α):Prop:=l.Pairwise fun x y=>c x y<0
theorem qs{c:α→α→Int}(h:C3 c){a b:List α}(ha:Str c a)(hb:Str c b)(hm:∀x,x∈a↔x∈b):a=b:=by
 have na:a.Nodup:=ha.imp fun{x y} k e=>by rw[e,h.self] at k;omega
 have nb:b.Nodup:=hb.imp fun{x y} k e=>by rw[e,h.self] at k;omega
 refine List.Perm.eq_of_pairwise (le:=fun x y=>c x y<0) (fun x y _ _ h1 h2=>?_) ha hb ((List.perm_ext_iff_of_nodup na nb).2 hm);have:=(h.aC8 _ _).1 h1;omega
def jY(c:α→α→Int)(x:α):List α→List α
 | []=>[x]
 |y::l=>if c x y<0 then x::y::l else if c x y=0 then y::l else y::jY c x l
theorem sM{c:α→α→Int}(h:C3 c)(x z:α):∀l,z∈jY c x l↔z=x∨z∈l
 | []=>by simp[jY]
 |y::l=>by
  unfold jY;split
  ·simp
  split
  ·rename_i e;rw[(h.eq _ _).1 e];simp
  simp only[Kd,sM h x z l];constructor
  ·rintro(a|a|a)<;>simp[a]
  rintro(a|a|a)<;>simp[a]
theorem yG{c:α→α→Int}(h:C3 c)(x:α):∀l,Str c l→Str c (jY c x l)
 | [],_=>by simp[jY,Str]
 |y::l,hs=>by
  have⟨h1,h2⟩:=Kc.1 hs;unfold jY;split
  ·rename_i k;exact Kc.2 ⟨fun z hz=>by
    rcases Kd.1 hz with rfl|hz
    ·exact k
    exact h.trans _ _ _ k (h1 z hz),hs⟩
  split
  ·exact hs
  rename_i k1 k2;refine Kc.2 ⟨fun z hz=>?_,yG h x l h2⟩;rcases(sM h x z l).1 hz with rfl|hz
  ·exact h.pos k2 k1
  exact h1 z hz
def bL(c:α→α→Int)(l:List α):List α:=l.foldl (fun a x=>jY c x a) []
theorem mG(c:α→α→Int)(l:List α)(x:α):bL c (l++[x])=jY c x (bL c l):=by simp[bL]
theorem bR{c:α→α→Int}(h:C3 c)(l:List α):Str c (bL c l)∧∀z,z∈bL c l↔z∈l:=by
 suffices∀(l a:List α),Str c a→Str c (l.foldl (fun a x=>jY c x a) a)∧∀z,z∈l.foldl (fun a x=>jY c x a) a↔z∈l∨z∈a by
  have:=this l [] List.Pairwise.nil;exact⟨this.1,fun z=>by rw[bL,this.2 z];simp⟩
 intro l;induction l with
 |nil=>exact fun a ha=>⟨ha,fun z=>Zm⟩
 |cons x l ih=>
  intro a ha;obtain⟨h1,h2⟩:=ih _ (yG h x a ha);refine⟨h1,fun z=>?_⟩;rw[Kz,h2,sM h];simp only[Kd];constructor
  ·rintro(a|a|a)<;>simp[a]
  rintro((a|a)|a)<;>simp[a]
theorem qt{c:α→α→Int}(h:C3 c){a l:List α}(ha:Str c a)(hm:∀z,z∈a↔z∈l):a=bL c l:=
 qs h ha (bR h l).1 fun z=>by rw[hm,(bR h l).2]
theorem io{c:α→α→Int}(h:C3 c){a b:List α}(hm:∀z,z∈a↔z∈b):bL c a=bL c b:=
 qt h (bR h a).1 fun z=>by rw[(bR h a).2,hm]
theorem dV{c:α→α→Int}(l:List α):(bL c l).length≤l.length:=by
 have hi:∀(x:α) (a:List α),(jY c x a).length≤a.length+1:=fun x a=>by
  induction a with
  |nil=>simp[jY]
  |cons y a ih=>unfold jY;split<;>(try split)<;>simp<;>omega
 suffices∀(l a:List α),(l.foldl (fun a x=>jY c x a) a).length≤l.length+a.length by simpa [bL] using this l []
 intro l;induction l with
 |nil=>simp
 |cons x l ih=>intro a;have:=ih (jY c x a);have:=hi x a;simp only[Kz,Kh];omega
theorem rV{c:α→α→Int}(h:C3 c)(l:List α):bL c l=[]↔l=[]:=by
 constructor
 ·intro e;cases l with
  |nil=>rfl
  |cons x l=>
   have:=((bR h (x::l)).2 x).2 Zm;rw[e] at this;cases this
 rintro rfl;rfl
def wB(p:α→α→Bool)(a:α):List α→List α
 | []=>[]
 |y::l=>if p y a=true then wB p y l else y::wB p y l
def cpt(p:α→α→Bool):List α→List α
 | []=>[]
 |x::l=>x::wB p x l
theorem kz(p:α→α→Bool)(x y:α):∀l:List α,cpt p (l++[x,y])=cpt p (l++[x])++if p y x=true then [] else [y]
 | []=>by simp only[KA,cpt,wB];split<;>rfl
 |a::l=>by
  simp only[Kv,cpt,List.cons.injEq,true_and];induction l generalizing a with
  |nil=>simp only[KA,wB];split<;>split<;>rfl
  |cons b l ih=>simp only[Kv,wB];split<;>simp[ih]
theorem da{c:β→β→Int}(h:C3 c)(f:α→β):∀(l:List α) (a:α),((a::l).Pairwise fun x y=>¬c (f y) (f x)<0)→
 Str c ((wB (fun x y=>decide (c (f x) (f y)=0)) a l).map f)∧(∀z∈(wB (fun x y=>decide (c (f x) (f y)=0)) a l).map f,c (f a) z<0)∧∀z,z=f a∨z∈(wB (fun x y=>decide (c (f x) (f y)=0)) a l).map f↔z∈(a::l).map f
 | [],a,_=>by simp[wB,Str]
 |y::l,a,hs=>by
  have⟨h1,h2⟩:=Kc.1 hs;obtain⟨i1,i2,i3⟩:=da h f l y h2;unfold wB;by_cases e:c (f y) (f a)=0
  ·have e':=(h.eq _ _).1 e;rw[if_pos (by simpa using e)];rw[e'] at i2 i3;refine⟨i1,i2,fun z=>?_⟩;rw[i3];simp[e']
  rw[if_neg (by simpa using e)];have k:=h.pos e (h1 y Zm);refine⟨?_,?_,fun z=>?_⟩
  ·rw[Kg];exact Kc.2 ⟨i2,i1⟩
  ·intro z hz;rw[Kg] at hz;rcases Kd.1 hz with rfl|hz
   ·exact k
   exact h.trans _ _ _ k (i2 z hz)
  have:=i3 z;simp only[Kg,Kd] at this⊢;rw[this]
theorem ro{c:β→β→Int}(h:C3 c)(f:α→β)(l:List α)(hs:l.Pairwise fun x y=>¬c (f y) (f x)<0):(cpt (fun x y=>decide (c (f x) (f y)=0)) l).map f=bL c (l.map f):=by
 cases l with
 |nil=>rfl
 |cons x l=>
  obtain⟨i1,i2,i3⟩:=da h f l x hs;refine qt h ?_ fun z=>?_
  ·rw[cpt,Kg];exact Kc.2 ⟨i2,i1⟩
  rw[←i3,cpt,Kg,Kd]
theorem Ap(p:α→α→Bool)(l:List α):(cpt p l).Sublist l:=by
 cases l with
 |nil=>exact .slnil
 |cons x l=>
  refine .cons_cons _ ?_;induction l generalizing x with
  |nil=>exact .slnil
  |cons y l ih=>
   unfold wB;split
   ·exact .cons _ (ih y)
   exact .cons_cons _ (ih y)
end
structure Vl where
 k:Int
 n:Int
 s:ByteArray
 deriving DecidableEq
instance:Inhabited Vl:=⟨0,0,⟨#[]⟩⟩
def Vl.v(x:Vl):V:= .agg [.int .i64 x.k, .int .i64 x.n, .str x.s]
theorem Vl.aAI(L:Nat→Prop)(x:Vl):x.v.names L:=by simp[Vl.v,V.names,bM]
theorem Vl.aAA(x:Vl):x.v.fits (.agg 3)=true:=rfl
def zC(a b:UInt8):Int:=qE a.toNat b.toNat
def qd(a b:ByteArray):Int:=dM zC a.toList b.toList
def dQ(a b:Vl):Int:=orC (qE a.k b.k) (orC (qE a.n b.n) (qd a.s b.s))
abbrev bK:List Vl→List Vl→Int:=dM dQ
theorem c3I:C3 qE:=by
 refine⟨fun x y=>?_,fun x y=>?_,fun x y z=>?_⟩;all_goals unfold qE;repeat' split
 all_goals omega
theorem dg{a b:ByteArray}(h:a.toList=b.toList):a=b:=by
 rw[ByteArray.toList_eq,ByteArray.toList_eq] at h;cases a;cases b;congr 1;exact Kw.1 h
theorem c3S:C3 qd:=((c3I.on (f:=fun u:UInt8=>(u.toNat:Int)) fun x y e=>UInt8.toNat_inj.1 (by exact_mod_cast e)).list).on fun x y=>dg
theorem c3V:C3 dQ:=(c3I.lex (c3I.lex c3S)).on (f:=fun x:Vl=>(x.k,x.n,x.s)) fun x y e=>by
 cases x;cases y;simpa using e
theorem c3T:C3 bK:=c3V.list
theorem zI:∀x y:List UInt8,Op.bytesLess x y=decide (dM zC x y<0)
 | [],[]=>by simp[Op.bytesLess,dM]
 |_::_,[]=>by simp[Op.bytesLess,dM]
 | [],_::_=>by simp[Op.bytesLess,dM]
 |a::x,b::y=>by
  have e:(a<b)=(a.toNat<b.toNat):=rfl;simp only[Op.bytesLess,zI x y,dM,orC,zC,qE,e];by_cases h1:a.toNat<b.toNat
  ·have:(a.toNat:Int)<b.toNat:=or;simp[h1,this]
  by_cases h2:b.toNat<a.toNat
  ·have h3:(b.toNat:Int)<a.toNat:=or;have h4:a≠b:=fun e=>by rw[e] at h2;omega
   have h5:¬(a.toNat:Int)<b.toNat:=or;simp[h1,h3,h4,h5]
  have h3:a=b:=UInt8.toNat_inj.1 or;subst h3;simp
theorem eA(a b:ByteArray):(a.toList==b.toList)=decide (a=b):=by
 by_cases h:a=b
 ·subst h;simp
 have:a.toList≠b.toList:=fun e=>h (dg e);simp[h,this]
def yA(a b:Vl):Bool:=decide (dQ a b<0)
def nL(a b:List Vl):Bool:=decide (bK a b<0)
def byt(s:ByteArray)(i:Nat):Nat:=(s.data.toList.getD i 0).toNat
theorem rv(s:ByteArray)(i:Nat):(s.get! i).toNat=byt s i:=by
 cases s with
 |mk d=>
 show(d[i]!).toNat=(d.toList.getD i 0).toNat
 rw[Ko,Kq,getElem!_def];cases d[i]?<;>rfl
theorem gp(s:ByteArray)(i:Nat)(h:byt s i<128):Utf8.decode s i=(byt s i,1):=by
 unfold Utf8.decode;simp only[KB,rv];rw[if_pos h]
theorem qa(s:ByteArray)(i:Nat)(h:128≤byt s i):128≤(Utf8.decode s i).1:=by
 unfold Utf8.decode;simp only[KB,rv];rw[if_neg or];repeat' split
 all_goals simp only[Utf8.runeError]
 all_goals (try simp only[ge_iff_le,Kx,decide_eq_true_eq] at*)
 all_goals omega
theorem rn(p:Nat→Bool)(hp:∀x,128≤x→p x=true)(s:ByteArray):∀f pos,s.size≤pos+f→(0≤Lib.idxFuncFrom p true s f pos↔∃i,pos≤i∧i<s.size∧p (byt s i)=true)
 |0,pos,h=>by
  simp only[Lib.idxFuncFrom];refine⟨fun k=>absurd k or,fun⟨i,h1,h2,_⟩=>or⟩
 |f+1,pos,h=>by
  simp only[Lib.idxFuncFrom];by_cases hps:pos<s.size
  ·rw[if_pos hps];by_cases hb:byt s pos<128
   ·rw[gp s pos hb];by_cases hq:p (byt s pos)=true
    ·rw[if_pos hq];exact⟨fun _=>⟨pos,Kb _,hps,hq⟩,fun _=>or⟩
    rw[if_neg hq,rn p hp s f (pos+1) or];constructor
    ·rintro⟨i,h1,h2⟩;exact⟨i,or,h2⟩
    rintro⟨i,h1,h2,h3⟩;refine⟨i,?_,h2,h3⟩;by_cases e:i=pos
    ·subst e;exact absurd h3 hq
    omega
   have h1:=hp _ (qa s pos or);rw[if_pos h1];exact⟨fun _=>⟨pos,Kb _,hps,hp _ or⟩,fun _=>or⟩
  rw[if_neg hps];refine⟨fun k=>absurd k or,fun⟨i,h1,h2,_⟩=>or⟩
def cZ(c:Nat):Bool:=decide (97≤c∧c≤122)
def jT(c:Nat):Bool:=decide ((97≤c∧c≤122)∨(48≤c∧c≤57)∨c=95)
def kD(c:Nat):Bool:= !jT c
theorem ig(x:Nat)(h:128≤x):kD x=true:=by
 simp only[kD,jT,Bool.not_eq_true',decide_eq_false_iff_not];omega
def gA(s:ByteArray):Bool:=decide (1≤s.size∧s.size≤32∧cZ (byt s 0)=true∧∀i,i<s.size→jT (byt s i)=true)
theorem ij(s:ByteArray):decide (0≤Lib.idxFunc kD true s)= !decide (∀i,i<s.size→jT (byt s i)=true):=by
 have:=rn kD ig s s.size 0 or;unfold Lib.idxFunc;by_cases h:∀i,i<s.size→jT (byt s i)=true
 ·rw[decide_eq_true h];simp only[Bool.not_true,decide_eq_false_iff_not,this];rintro⟨i,_,h2,h3⟩;simp[kD,h i h2] at h3
 rw[decide_eq_false h];simp only[Bool.not_false,decide_eq_true_eq,this]
 false_or_by_contra
 rename_i k;refine h fun i hi=>?_;by_cases e:jT (byt s i)=true
 ·exact e
 exact absurd ⟨i,Kk _,hi,by simp[kD,e]⟩ k
def iI(n:Int):Bool:=decide (-2147483647≤n∧n≤2147483647)
def cF(x:Vl):Bool:=(decide (x.k=1)&&(decide (x.s.size=0)&&iI x.n))||(decide (x.k=2)&&(decide (x.n=0)&&gA x.s))
theorem rZ{x:Vl}(h:cF x=true):-2147483647≤x.n∧x.n≤2147483647:=by
 simp only[cF,iI,Km,Kx,decide_eq_true_eq] at h;omega
theorem w9{a b:List Int}(h:a.Perm b):a.sum=b.sum:=by
 induction h with
 |nil=>rfl
 |cons x _ ih=>simp only[Kp,ih]
 |swap x y l=>simp only[Kp];omega
 |trans _ _ i1 i2=>exact i1.trans i2
section
variable{α:Type}{c:α→α→Int}
theorem fq(h:C3 c){x:α}{l:List α}(hs:Str c l)(hx:x∈l):jY c x l=l:=
 qs h (yG h x l hs) hs fun z=>by
  rw[sM h];exact⟨fun k=>k.elim (fun e=>e▸hx) id, .inr⟩
theorem yH(h:C3 c){x:α}:∀{l:List α},x∉l→(jY c x l).Perm (x::l)
 | [],_=> .refl _
 |y::l,hx=>by
  unfold jY;split
  ·exact .refl _
  split
  ·rename_i e;exact absurd ((h.eq _ _).1 e) (fun e=>hx (by simp[e]))
  exact((yH h (fun k=>hx (by simp[k]))).cons y).trans (.swap x y l)
theorem sj [DecidableEq α](h:C3 c)(l:List α)(x:α):(bL c (l++[x])).length=(bL c l).length+if x∈l then 0 else 1:=by
 obtain⟨h1,h2⟩:=bR h l;rw[mG];split
 ·rename_i k;rw[fq h h1 ((h2 x).2 k)];rfl
 rename_i k;rw[(yH h (fun e=>k ((h2 x).1 e))).length_eq];rfl
theorem wq [DecidableEq α](h:C3 c)(f:α→Int)(l:List α)(x:α):((bL c (l++[x])).map f).sum=((bL c l).map f).sum+if x∈l then 0 else f x:=by
 obtain⟨h1,h2⟩:=bR h l;rw[mG];split
 ·rename_i k;rw[fq h h1 ((h2 x).2 k)];simp
 rename_i k;rw[w9 ((yH h (fun e=>k ((h2 x).1 e))).map f),Kg,Kp];omega
theorem wn(h:C3 c){l:List α}{m d:α}(hs:Str c l)(hm:m∈l)(hz:∀z∈l,¬c z m<0):l.headD d=m:=by
 cases l with
 |nil=>cases hm
 |cons y l=>
  rcases Kd.1 hm with e|k
  ·exact e.symm
  exact absurd ((Kc.1 hs).1 m k) (hz y Zm)
theorem wm(h:C3 c){l:List α}{m d:α}(hs:Str c l)(hm:m∈l)(hz:∀z∈l,¬c m z<0):l.getLastD d=m:=by
 rcases List.eq_nil_or_concat l with rfl|⟨l',y,rfl⟩
 ·cases hm
 simp only[List.concat_eq_append] at*;rw[List.getLastD_concat];rcases Ki.1 hm with k|k
 ·exact absurd ((List.pairwise_append.1 hs).2.2 m k y Zm) (hz y Zm)
 exact(List.mem_singleton.1 k).symm
end
theorem xg{α:Type}{c:α→α→Int}(h:C3 c){l:List α}{i:Nat}{m:α}(hi:i<l.length)(hm:m∈l)(hz:∀z∈l.take i,¬c z m<0):
 (if decide (c l[i] m<0)=true then l[i] else m)∈l∧∀z∈l.take (i+1),¬c z (if decide (c l[i] m<0)=true then l[i] else m)<0:=by
 rw[Kj hi];by_cases k:c l[i] m<0
 ·simp only[k,decide_true,if_true];refine⟨Ky _,fun z hz2=>?_⟩;rcases Ki.1 hz2 with q|q
  ·exact fun e=>hz z q (h.trans _ _ _ e k)
  have:z=l[i]:=by simpa using q
  rw[this,h.self];omega
 simp only[k,decide_false,Kt,if_false];refine⟨hm,fun z hz2=>?_⟩;rcases Ki.1 hz2 with q|q
 ·exact hz z q
 have:z=l[i]:=by simpa using q
 rw[this];exact k
theorem um{α:Type}{c:α→α→Int}(h:C3 c){l:List α}{i:Nat}{m:α}(hi:i<l.length)(hm:m∈l)(hz:∀z∈l.take i,¬c m z<0):
 (if decide (c m l[i]<0)=true then l[i] else m)∈l∧∀z∈l.take (i+1),¬c (if decide (c m l[i]<0)=true then l[i] else m) z<0:=by
 rw[Kj hi];by_cases k:c m l[i]<0
 ·simp only[k,decide_true,if_true];refine⟨Ky _,fun z hz2=>?_⟩;rcases Ki.1 hz2 with q|q
  ·exact fun e=>hz z q (h.trans _ _ _ k e)
  have:z=l[i]:=by simpa using q
  rw[this,h.self];omega
 simp only[k,decide_false,Kt,if_false];refine⟨hm,fun z hz2=>?_⟩;rcases Ki.1 hz2 with q|q
 ·exact hz z q
 have:z=l[i]:=by simpa using q
 rw[this];exact k
def eD:Vl:=⟨0,0,⟨#[]⟩⟩
def ofV(n:Int):Vl×Int:=if iI n=true then (⟨1,n,⟨#[]⟩⟩,0) else (eD,10)
def lB(l:List Vl):Int:=(l.map Vl.n).sum
theorem sh(l:List Vl)(x:Vl):lB (bL dQ (l++[x]))=lB (bL dQ l)+if x∈l then 0 else x.n:=wq c3V Vl.n l x
theorem qV:∀l:List Vl,(∀x∈l,-2147483647≤x.n∧x.n≤2147483647)→-2147483647*(l.length:Int)≤lB l∧lB l≤2147483647*l.length
 | [],_=>by simp[lB]
 |x::l,h=>by
  have:=qV l fun y hy=>h y (by simp[hy]);have:=h x Zm;simp only[lB,Kg,Kp,Kh] at*;omega
theorem mr{l:List Vl}(h:∀x∈l,cF x=true)(hl:l.length≤1000000):-2147483647000000≤lB (bL dQ l)∧lB (bL dQ l)≤2147483647000000:=by
 have:=qV (bL dQ l) fun x hx=>rZ (h x (((bR c3V l).2 x).1 hx));have:=dV (c:=dQ) l;omega
def dD(g:Int)(l:List Vl):Vl×Int:=
 if g<1∨4<g then (eD,1)
 else if l=[] then (eD,13)
 else if¬(∀x∈l,cF x=true) then (eD,2)
 else if g=2∧¬(∀x∈l,x.k=1) then (eD,7)
 else if g=1 then ofV (bL dQ l).length
 else if g=3 then ((bL dQ l).headD eD,0)
 else if g=4 then ((bL dQ l).getLastD eD,0)
 else ofV (lB (bL dQ l))
def eR(c:Nat):Bool:=decide (65≤c∧c≤90)
def tZ(c:Nat):Bool:=decide (48≤c∧c≤57)
def bU(c:Nat):Bool:=cZ c||eR c||tZ c||decide (c=95)
def iJ(c:Nat):Bool:=decide (c=9∨c=10∨c=13∨c=32)
def lV(p:Nat→Bool)(s:ByteArray):Nat→Nat→Nat
 |0,i=>i
 |f+1,i=>if i<s.size∧p (byt s i)=true then lV p s f (i+1) else i
def dP(p:Nat→Bool)(s:ByteArray)(i:Nat):Nat:=lV p s (s.size-i) i
theorem g9(p:Nat→Bool)(s:ByteArray):∀(f i j:Nat),i≤j→j≤s.size→s.size≤i+f→(∀k,i≤k→k<j→p (byt s k)=true)→(j=s.size∨p (byt s j)=false)→lV p s f i=j
 |0,i,j,h1,h2,h3,_,_=>by show i=j;omega
 |f+1,i,j,h1,h2,h3,h4,h5=>by
  unfold lV;by_cases e:i=j
  ·subst e;rw[if_neg];rintro⟨q1,q2⟩;rcases h5 with h5|h5
   ·omega
   rw[q2] at h5;cases h5
  rw[if_pos ⟨or,h4 i (Kb _) or⟩];exact g9 p s f (i+1) j or h2 or (fun k hk=>h4 k or) h5
theorem pI{p:Nat→Bool}{s:ByteArray}{i j:Nat}(h1:i≤j)(h2:j≤s.size)(h4:∀k,i≤k→k<j→p (byt s k)=true)(h5:j=s.size∨p (byt s j)=false):dP p s i=j:=
 g9 p s _ i j h1 h2 or h4 h5
theorem wL(p:Nat→Bool)(s:ByteArray):∀(f i:Nat),i≤s.size→s.size≤i+f→i≤lV p s f i∧lV p s f i≤s.size∧(∀k,i≤k→k<lV p s f i→p (byt s k)=true)∧(lV p s f i=s.size∨p (byt s (lV p s f i))=false)
 |0,i,h1,h2=>⟨Kb _,h1,fun k a b=>absurd b (by show¬k<i;omega), .inl (by show i=_;omega)⟩
 |f+1,i,h1,h2=>by
  unfold lV;split
  ·rename_i h;obtain⟨a,b,c,d⟩:=wL p s f (i+1) or or;exact⟨or,b,fun k h3 h4=>by
    by_cases e:k=i
    ·subst e;exact h.2
    exact c k or h4,d⟩
  rename_i h;refine⟨Kb _,h1,fun k a b=>absurd b or,?_⟩;by_cases e:i<s.size
  ·right;cases hp:p (byt s i) with
   |false=>rfl
   |true=>exact absurd ⟨e,hp⟩ h
  left;omega
theorem dS(p:Nat→Bool)(s:ByteArray)(i:Nat)(h:i≤s.size):i≤dP p s i∧dP p s i≤s.size∧(∀k,i≤k→k<dP p s i→p (byt s k)=true)∧(dP p s i=s.size∨p (byt s (dP p s i))=false):=
 wL p s _ i h or
def kO(s:ByteArray):Nat→Nat→Nat
 |0,i=>i
 |f+1,i=>if i<s.size then if iJ (byt s i)=true then kO s f (i+1) else if byt s i=37 then kO s f (dP (fun c=>decide (c≠10)) s i) else i else i
def bI(s:ByteArray)(i:Nat):Nat:=kO s (s.size-i) i
theorem pS{s:ByteArray}{i:Nat}(h:i<s.size)(hp:byt s i=37):i<dP (fun c=>decide (c≠10)) s i∧dP (fun c=>decide (c≠10)) s i≤s.size:=by
 obtain⟨a,b,c,d⟩:=dS (fun c=>decide (c≠10)) s i or;refine⟨?_,b⟩;rcases KC i (dP (fun c=>decide (c≠10)) s i) with k|k
 ·exact k
 have e:dP (fun c=>decide (c≠10)) s i=i:=or;rw[e] at d;rcases d with d|d
 ·omega
 rw[hp] at d;cases d
theorem mV(s:ByteArray):∀(f g i:Nat),s.size≤i+f→s.size≤i+g→kO s f i=kO s g i
 |0,0,_,_,_=>rfl
 |0,g+1,i,h,_=>by unfold kO;rw[if_neg or]
 |f+1,0,i,_,h=>by unfold kO;rw[if_neg or]
 |f+1,g+1,i,h1,h2=>by
  unfold kO;by_cases h:i<s.size
  ·rw[if_pos h,if_pos h];split
   ·exact mV s f g _ or or
   split
   ·rename_i hp;have:=pS h hp;exact mV s f g _ or or
   rfl
  rw[if_neg h,if_neg h]
theorem kJ{s:ByteArray}{i:Nat}(h:s.size≤i):bI s i=i:=by
 unfold bI;cases s.size-i with
 |zero=>rfl
 |succ n=>unfold kO;rw[if_neg or]
theorem vF{s:ByteArray}{i:Nat}(h:i<s.size)(hb:iJ (byt s i)=true):bI s i=bI s (i+1):=by
 unfold bI;obtain⟨n,hn⟩:∃n,s.size-i=n+1:=⟨s.size-i-1,or⟩;rw[hn,kO,if_pos h,if_pos hb];exact mV s _ _ _ or or
theorem wQ{s:ByteArray}{i:Nat}(h:i<s.size)(hb:iJ (byt s i)=false)(hp:byt s i=37):bI s i=bI s (dP (fun c=>decide (c≠10)) s i):=by
 unfold bI;obtain⟨n,hn⟩:∃n,s.size-i=n+1:=⟨s.size-i-1,or⟩;rw[hn,kO,if_pos h,hb,if_neg Zm,if_pos hp];have:=pS h hp;exact mV s _ _ _ or or
theorem qW{s:ByteArray}{i:Nat}(h:i<s.size)(hb:iJ (byt s i)=false)(hp:byt s i≠37):bI s i=i:=by
 unfold bI;obtain⟨n,hn⟩:∃n,s.size-i=n+1:=⟨s.size-i-1,or⟩;rw[hn,kO,if_pos h,hb,if_neg Zm,if_neg hp]
theorem rQ(s:ByteArray):∀(f i:Nat),i≤kO s f i∧(i≤s.size→kO s f i≤s.size)
 |0,i=>⟨Kb _,id⟩
 |f+1,i=>by
  unfold kO;split
  ·rename_i h;split
   ·have:=rQ s f (i+1);exact⟨or,fun _=>this.2 or⟩
   split
   ·rename_i hp;have h1:=pS h hp;have:=rQ s f (dP (fun c=>decide (c≠10)) s i);exact⟨or,fun _=>this.2 h1.2⟩
   exact⟨Kb _,id⟩
  exact⟨Kb _,id⟩
theorem rR(s:ByteArray)(i:Nat):i≤bI s i:=(rQ s _ i).1
theorem im{s:ByteArray}{i:Nat}(h:i≤s.size):bI s i≤s.size:=(rQ s _ i).2 h
structure Tk where
 k:Int
 t:ByteArray
 a:Nat
 deriving Inhabited
def yE:List ByteArray:=[⟨[114,101,108].toArray⟩,⟨[105,110,116].toArray⟩,⟨[115,121,109].toArray⟩,⟨[110,111,116].toArray⟩,⟨[99,111,117,110,116].toArray⟩,⟨[115,117,109].toArray⟩,⟨[109,105,110].toArray⟩,⟨[109,97,120].toArray⟩]
def dU:List ByteArray:=[⟨[58,45].toArray⟩,⟨[33,61].toArray⟩,⟨[60,61].toArray⟩,⟨[62,61].toArray⟩,⟨[40].toArray⟩,⟨[41].toArray⟩,⟨[44].toArray⟩,⟨[46].toArray⟩,⟨[61].toArray⟩,⟨[60].toArray⟩,⟨[62].toArray⟩,⟨[43].toArray⟩,⟨[45].toArray⟩,⟨[42].toArray⟩]
def yF(w:ByteArray):Bool:=yE.any fun t=>t.data.toList==w.data.toList
theorem j0(w:ByteArray):yF w=true↔w∈yE:=by
 simp only[yF,List.any_eq_true,beq_iff_eq];constructor
 ·rintro⟨t,h1,h2⟩;have:t=w:=by
   cases t;cases w;simp only[Kw] at h2;rw[h2]
  exact this▸h1
 exact fun h=>⟨w,h,rfl⟩
def dO(κ:ByteArray→Int)(w:ByteArray):Int:=
 if yF w=true then 1 else if gA w=true then 2 else if eR (byt w 0)=true∧w.size≤32 then 3 else κ w
def oD(s t:ByteArray):Bool:=t.data.toList.isPrefixOf s.data.toList
def lC(s:ByteArray):Nat:=dP bU s 0
def nX(r:ByteArray):Int×ByteArray:=match dU.find? (oD r) with
 |some t=>(5,t)
 |none=>(0,⟨#[]⟩)
def bT(κ:ByteArray→Int)(r:ByteArray):Int×ByteArray:=
 if 0<lC r∧byt r 0≠95 then (dO κ (r.extract 0 (lC r)),r.extract 0 (lC r)) else nX r
def xZ(κ:ByteArray→Int)(s:ByteArray):Nat→Nat→List Tk×Option Nat
 |0,_=>([],none)
 |f+1,i=>if i<s.size then
  if (bT κ (s.extract i s.size)).1=0 then ([],some i)
  else (⟨(bT κ (s.extract i s.size)).1,(bT κ (s.extract i s.size)).2,i⟩::(xZ κ s f (bI s (i+(bT κ (s.extract i s.size)).2.size))).1,(xZ κ s f (bI s (i+(bT κ (s.extract i s.size)).2.size))).2)
  else ([],none)
def eP(κ:ByteArray→Int)(s:ByteArray)(i:Nat):List Tk×Option Nat:=xZ κ s (s.size-i) i
def dp(s:ByteArray):Bool:=decide (1≤s.size∧s.size≤32∧eR (byt s 0)=true∧∀i,i<s.size→bU (byt s i)=true)
def oa(s:ByteArray):Bool:=decide (gA s=true∧yF s=false)
theorem cC(s:ByteArray)(i j:Nat):(s.extract i j).size=min j s.size-i:=by
 rw[←ByteArray.size_data,ByteArray.data_extract,Array.size_extract,ByteArray.size_data]
theorem sP(s:ByteArray):s.extract 0 s.size=s:=by
 apply ByteArray.ext;rw[ByteArray.data_extract,←ByteArray.size_data];exact Array.extract_size
theorem pZ{s:ByteArray}{i j k:Nat}(h:i+k<j)(h2:j≤s.size):byt (s.extract i j) k=byt s (i+k):=by
 unfold byt;rw[ByteArray.data_extract];have h2:j≤s.data.size:=h2;congr 1;simp only[Ko,Kq];rw[Array.getElem?_extract,if_pos or]
theorem ef(s:ByteArray):lC s≤s.size:=(dS bU s 0 (Kk _)).2.1
theorem wR(r:ByteArray):nX r=(0,⟨#[]⟩)∨∃t,nX r=(5,t)∧t∈dU∧oD r t=true:=by
 unfold nX;cases h:dU.find? (oD r) with
 |none=>exact .inl rfl
 |some t=>exact .inr ⟨t,rfl,List.mem_of_find?_eq_some h,List.find?_some h⟩
theorem m6:∀t∈dU,0<t.size:=by decide+kernel
theorem s8{r t:ByteArray}(h:oD r t=true):t.size≤r.size:=by
 have:=(List.isPrefixOf_iff_prefix.1 h).length_le;simpa only[Array.length_toList,ByteArray.size_data] using this
theorem iP{κ:ByteArray→Int}{r:ByteArray}(h:(bT κ r).1≠0):0<(bT κ r).2.size∧(bT κ r).2.size≤r.size:=by
 unfold bT at h⊢;split
 ·rename_i c;have:=ef r;show 0<(r.extract 0 (lC r)).size∧(r.extract 0 (lC r)).size≤r.size;rw[cC];omega
 rename_i c;rw[if_neg c] at h;rcases wR r with e|⟨t,e,h1,h2⟩
 ·rw[e] at h;exact absurd rfl h
 rw[e];exact⟨m6 t h1,s8 h2⟩
theorem b8(κ:ByteArray→Int)(s:ByteArray):∀(f g i:Nat),s.size≤i+f→s.size≤i+g→xZ κ s f i=xZ κ s g i
 |0,0,_,_,_=>rfl
 |0,g+1,i,h,_=>by unfold xZ;rw[if_neg or]
 |f+1,0,i,_,h=>by unfold xZ;rw[if_neg or]
 |f+1,g+1,i,h1,h2=>by
  unfold xZ;by_cases h:i<s.size
  ·rw[if_pos h,if_pos h];split
   ·rfl
   rename_i h0;have h3:=(iP h0).1;have h4:=rR s (i+(bT κ (s.extract i s.size)).2.size);rw[b8 κ s f g _ or or]
  rw[if_neg h,if_neg h]
theorem iF{κ:ByteArray→Int}{s:ByteArray}{i:Nat}(h:s.size≤i):eP κ s i=([],none):=by
 unfold eP;cases s.size-i with
 |zero=>rfl
 |succ n=>unfold xZ;rw[if_neg or]
theorem sG{κ:ByteArray→Int}{s:ByteArray}{i:Nat}(h:i<s.size)(h0:(bT κ (s.extract i s.size)).1=0):eP κ s i=([],some i):=by
 unfold eP;obtain⟨n,hn⟩:∃n,s.size-i=n+1:=⟨s.size-i-1,or⟩;rw[hn,xZ,if_pos h,if_pos h0]
theorem mO{κ:ByteArray→Int}{s:ByteArray}{i:Nat}{k:Int}{t:ByteArray}(h:i<s.size)(hn:bT κ (s.extract i s.size)=(k,t))(h0:k≠0):
 eP κ s i=(⟨k,t,i⟩::(eP κ s (bI s (i+t.size))).1,(eP κ s (bI s (i+t.size))).2):=by
 have h1:=iP (κ:=κ) (r:=s.extract i s.size) (by rw[hn];exact h0);rw[hn] at h1;dsimp only at h1;have h4:=rR s (i+t.size);unfold eP;obtain⟨n,hn'⟩:∃n,s.size-i=n+1:=⟨s.size-i-1,or⟩;rw[hn',xZ,if_pos h,hn,if_neg h0];dsimp only;rw[b8 κ s n (s.size-bI s (i+t.size)) _ or or]
theorem pf:∀t∈yE,cZ (byt t 0)=true:=by decide+kernel
theorem vP{c:Nat}(h:eR c=true):cZ c=false:=by
 simp only[eR,cZ,decide_eq_true_eq,decide_eq_false_iff_not] at*;omega
theorem uo{c:Nat}(h:jT c=true):bU c=true:=by
 simp only[jT,bU,cZ,eR,tZ,decide_eq_true_eq,Km] at*;omega
theorem wg{κ:ByteArray→Int}{s:ByteArray}(h:dp s=true):dO κ s=3:=by
 obtain⟨h1,h2,h3,h4⟩:=of_decide_eq_true h;unfold dO;rw[if_neg (fun k=>by have:=pf s ((j0 s).1 k);rw[vP h3] at this;cases this),if_neg (fun k=>by have:=(of_decide_eq_true k).2.2.1;rw[vP h3] at this;cases this),if_pos ⟨h3,h2⟩]
theorem w5{κ:ByteArray→Int}{s:ByteArray}(h:oa s=true):dO κ s=2:=by
 obtain⟨h1,h2⟩:=of_decide_eq_true h;unfold dO;rw[if_neg (by rw[h2];simp),if_pos h1]
theorem ri{κ:ByteArray→Int}{s:ByteArray}(h1:1≤s.size)(h2:∀i,i<s.size→bU (byt s i)=true)(h3:byt s 0≠95)(h0:dO κ s≠0):eP κ s (bI s 0)=([⟨dO κ s,s,0⟩],none):=by
 have hw:=h2 0 or;have hb:iJ (byt s 0)=false:=by
  simp only[bU,cZ,eR,tZ,iJ,Km,decide_eq_true_eq,decide_eq_false_iff_not] at*;omega
 have hp:byt s 0≠37:=by
  simp only[bU,cZ,eR,tZ,Km,decide_eq_true_eq] at hw;omega
 rw[qW or hb hp];have hr:lC s=s.size:=pI (Kk _) (Kb _) (fun k _ hk=>h2 k hk) (.inl rfl);have hn:bT κ (s.extract 0 s.size)=(dO κ s,s):=by
  rw[sP];unfold bT;rw[hr,if_pos ⟨or,h3⟩,sP]
 rw[mO or hn h0,kJ or,iF or]
theorem xY{κ:ByteArray→Int}{s:ByteArray}{k:Int}{l:List Tk}{b:Option Nat}{t:Tk}(h:eP κ s (bI s 0)=(t::l,b))(hk:t.k=k)(h5:k≠5)(ht:t.t=s)(hs:0<s.size):
 t.a=0∧dO κ s=k∧byt s 0≠95∧∀i,i<s.size→bU (byt s i)=true:=by
 rcases KC (bI s 0) s.size with hi|hi
 ·obtain⟨k',t',hn⟩:∃k' t',bT κ (s.extract (bI s 0) s.size)=(k',t'):=⟨_,_,rfl⟩;by_cases h0:k'=0
  ·rw[sG hi (by rw[hn];exact h0)] at h;cases h
  have hz:=iP (κ:=κ) (r:=s.extract (bI s 0) s.size) (by rw[hn];exact h0);rw[mO hi hn h0] at h;injection h with h _;injection h with h _;subst h;simp only at ht hk;subst ht hk;rw[hn,cC] at hz;have h00:bI t' 0=0:=by simp only at hz;omega
  rw[h00,sP] at hn;unfold bT at hn;split at hn
  ·rename_i c;injection hn with e1 e2;have hr:lC t'=t'.size:=by
    have:=ef t';have:=congrArg ByteArray.size e2;rw[cC] at this;omega
   rw[hr,sP] at e1;obtain⟨_,_,q,_⟩:=dS bU t' 0 (Kk _);exact⟨h00,e1,c.2,fun i hi=>q i (Kk _) (by show i<lC t';omega)⟩
  rcases wR t' with e|⟨t2,e,_⟩
  ·rw[e] at hn;injection hn with e1;exact absurd e1.symm h0
  rw[e] at hn;injection hn with e1;exact absurd e1.symm h5
 rw[iF hi] at h;cases h
theorem qx{κ:ByteArray→Int}(hκ:∀w,κ w=0∨κ w=4)(s:ByteArray):eP κ s (bI s 0)=([⟨3,s,0⟩],none)↔dp s=true:=by
 constructor
 ·intro h;have hs:0<s.size:=by
   rcases Ku s.size with e|e
   ·rw[kJ or,iF or] at h;cases h
   exact e
  obtain⟨_,hw,_,aAe⟩:=xY h rfl Zm rfl hs;dsimp only at hw;refine decide_eq_true ?_;unfold dO at hw;split at hw
  ·cases hw
  split at hw
  ·cases hw
  split at hw
  ·rename_i c;exact⟨or,c.2,c.1,aAe⟩
  have:=hκ s;omega
 intro h;have hv:=wg (κ:=κ) h;obtain⟨h1,h2,h3,h4⟩:=of_decide_eq_true h;have:=ri (κ:=κ) h1 h4 (by simp only[eR,decide_eq_true_eq] at h3;omega) (by rw[hv];decide);rw[hv] at this;exact this
theorem qy{κ:ByteArray→Int}(hκ:∀w,κ w=0∨κ w=4)(s:ByteArray):eP κ s (bI s 0)=([⟨2,s,0⟩],none)↔oa s=true:=by
 constructor
 ·intro h;have hs:0<s.size:=by
   rcases Ku s.size with e|e
   ·rw[kJ or,iF or] at h;cases h
   exact e
  obtain⟨_,hw,_,aAe⟩:=xY h rfl Zm rfl hs;dsimp only at hw;refine decide_eq_true ?_;unfold dO at hw;split at hw
  ·cases hw
  split at hw
  ·rename_i c1 c2;exact⟨c2,by simpa using c1⟩
  split at hw
  ·cases hw
  have:=hκ s;omega
 intro h;have hv:=w5 (κ:=κ) h;obtain⟨h1,h2⟩:=of_decide_eq_true h;obtain⟨g1,g2,g3,g4⟩:=of_decide_eq_true h1;have:=ri (κ:=κ) g1 (fun i hi=>uo (g4 i hi)) (by simp only[cZ,decide_eq_true_eq] at g3;omega) (by rw[hv];decide);rw[hv] at this;exact this
structure Tr where
 x:ByteArray
 w:Vl
 deriving DecidableEq
instance:Inhabited Tr:=⟨⟨#[]⟩,default⟩
def Tr.cs(t:Tr):List V:=[.str t.x, .int .i64 t.w.k, .int .i64 t.w.n, .str t.w.s]
def Tr.v(t:Tr):V:= .agg [.str t.x, .int .i64 t.w.k, .int .i64 t.w.n, .str t.w.s]
theorem Tr.aAA(t:Tr):t.v.fits (.agg 4)=true:=rfl
theorem Tr.aAI(L:Nat→Prop)(t:Tr):t.v.names L:=by simp[Tr.v,V.names,bM]
abbrev trs(o:Own)(l:List Tr):V:= .sl (.agg 4) o (l.map Tr.v)
def qp:Tr:=⟨⟨#[]⟩,eD⟩
inductive Ex where
 |mk (op:Int) (t:Tr) (o:Own) (kids:List Ex)
mutual
def Ex.v:Ex→V
 | .mk op t o ks=> .agg [.int .i64 op, .str t.x, .int .i64 t.w.k, .int .i64 t.w.n, .str t.w.s, .sl (.agg 6) o (Ex.vs ks)]
def Ex.vs:List Ex→List V
 | []=>[]
 |e::r=>e.v::Ex.vs r
end
instance:Inhabited Ex:=⟨.mk 0 qp .nil []⟩
theorem Ex.aFI:∀l:List Ex,Ex.vs l=l.map Ex.v
 | []=>rfl
 |e::r=>by rw[Ex.vs,Ex.aFI r];rfl
theorem Ex.aAA(e:Ex):e.v.fits (.agg 6)=true:=by cases e;rfl
def Ex.op:Ex→Int| .mk op _ _ _=>op
def Ex.t:Ex→Tr| .mk _ t _ _=>t
def Ex.o:Ex→Own| .mk _ _ o _=>o
def Ex.kids:Ex→List Ex| .mk _ _ _ ks=>ks
def Ex.cs(e:Ex):List V:=[.int .i64 e.op, .str e.t.x, .int .i64 e.t.w.k, .int .i64 e.t.w.n, .str e.t.w.s, .sl (.agg 6) e.o (e.kids.map Ex.v)]
theorem Ex.aAp(e:Ex):e.v= .agg e.cs:=by cases e;simp[Ex.v,Ex.cs,Ex.aFI,Ex.op,Ex.t,Ex.o,Ex.kids]
structure Am where
 r:ByteArray
 o:Own
 l:List Tr
def Am.v(a:Am):V:= .agg [.str a.r,trs a.o a.l]
structure Li where
 k:Int
 a:Am
 op:Int
 x:Ex
 y:Ex
 at_:Int
def Li.v(l:Li):V:= .agg ([.int .i64 l.k, .str l.a.r,trs l.a.o l.a.l, .int .i64 l.op]++l.x.cs++l.y.cs++[.int .i64 l.at_])
theorem Li.aAA(l:Li):l.v.fits (.agg 17)=true:=rfl
structure Ru where
 h:Am
 g:Int
 c:Int
 o:Own
 b:List Li
 at_:Int
def Ru.v(r:Ru):V:= .agg [.str r.h.r,trs r.h.o r.h.l, .int .i64 r.g, .int .i64 r.c, .sl (.agg 17) r.o (r.b.map Li.v), .int .i64 r.at_]
def lU(t:Tr):Bool:=decide (t.x.size=0∧t.w.k=0∧t.w.n=0∧t.w.s.size=0)
def ma(w:Vl):Bool:=decide (w.k=0∧w.n=0∧w.s.size=0)
def dG(t:Tr):Bool:=if t.x.size=0 then cF t.w else dp t.x&&ma t.w
def eJ:Nat→Ex→Int
 |0, .mk op t _ ks=>if op=0∧ks=[]∧dG t=true then 0 else-1
 |n+1, .mk op t _ ks=>if op=0∧ks=[]∧dG t=true then 0 else
  match ks with
  | [a,b]=>if 1≤op∧op≤3∧lU t=true then (if eJ n a<0∨eJ n b<0 then-1 else 1+fe true (eJ n a) (eJ n b)) else-1
  |_=>-1
def eL:Nat→Ex→Bool
 |0, .mk op t _ ks=>decide (op=0∧ks=[]∧dG t=true)
 |n+1, .mk op t _ ks=>if op=0 then decide (ks=[]∧dG t=true) else
  match ks with
  | [a,b]=>decide (1≤op∧op≤3∧lU t=true∧eL n a=true∧eL n b=true)
  |_=>false
theorem mQ:∀(n:Nat) (e:Ex),-1≤eJ n e∧eJ n e≤n
 |0, .mk op t o ks=>by unfold eJ;split<;>omega
 |n+1, .mk op t o ks=>by
  unfold eJ;split
  ·omega
  split
  ·rename_i a b _;have h1:=mQ n a;have h2:=mQ n b;split
   ·split
    ·omega
    unfold fe;rw[if_pos rfl];split<;>omega
   omega
  omega
theorem uV:∀(n:Nat) (e:Ex),0≤eJ n e↔eL n e=true
 |0, .mk op t o ks=>by
  unfold eJ eL;split
  ·rename_i h;simpa using h
  rename_i h;simpa using h
 |n+1, .mk op t o ks=>by
  unfold eJ eL;by_cases h0:op=0
  ·by_cases h1:ks=[]∧dG t=true
   ·rw[if_pos ⟨h0,h1⟩,if_pos h0];simpa using h1
   rw[if_neg (fun h=>h1 h.2),if_pos h0,decide_eq_false h1];split
   ·rw[if_neg or];simp
   simp
  rw[if_neg (fun h=>h0 h.1),if_neg h0];split
  ·rename_i a b;have h1:=uV n a;have h2:=uV n b;have g1:=mQ n a;have g2:=mQ n b;rw[decide_eq_true_eq,←h1,←h2];split
   ·rename_i c;split
    ·constructor
     ·intro h;omega
     intro h;omega
    unfold fe;rw[if_pos rfl];exact⟨fun _=>⟨c.1,c.2.1,c.2.2,or,or⟩,fun _=>by split<;>omega⟩
   rename_i c;exact⟨fun h=>or,fun h=>absurd ⟨h.1,h.2.1,h.2.2.1⟩ c⟩
  simp
def iN(e:Ex):Bool:=eL 20 e
def iO(a:Am):Bool:=oa a.r&&decide (a.l.length≤6)&&a.l.all dG
def kA(e:Ex):Bool:=decide (e.op=0∧e.kids=[])&&lU e.t
def fE(l:Li):Bool:=
 if l.k=1∨l.k=2 then iO l.a&&decide (l.op=0)&&kA l.x&&kA l.y
 else decide (l.k=3∧l.a.r.size=0∧l.a.l=[]∧1≤l.op∧l.op≤6)&&iN l.x&&iN l.y
def zQ(r:Ru):Bool:=
 if r.g=0 then decide (r.c=0) else decide (0≤r.g∧r.g≤4∧0≤r.c∧r.c<r.h.l.length∧(r.h.l.getD r.c.toNat qp).x.size≠0)
def gK(r:Ru):Bool:=iO r.h&&zQ r&&decide (r.b.length≤8)&&r.b.all fE
def mS:Nat:=140737488351232
def Tr.s47(t:Tr):Prop:=t.x.size≤mS∧t.w.s.size≤mS
mutual
def Ex.s47:Ex→Prop
 | .mk _ t _ ks=>t.s47∧Ex.aGl ks
def Ex.aGl:List Ex→Prop
 | []=>True
 |e::r=>e.s47∧Ex.aGl r
end
theorem Ex.aA0:∀{l:List Ex},Ex.aGl l↔∀e∈l,e.s47
 | []=>by simp[Ex.aGl]
 |e::r=>by simp[Ex.aGl,Ex.aA0 (l:=r)]
def Am.s47(a:Am):Prop:=a.r.size≤mS∧∀t∈a.l,t.s47
def Li.s47(l:Li):Prop:=l.a.s47∧l.x.s47∧l.y.s47
def Ru.s47(r:Ru):Prop:=r.h.s47∧∀l∈r.b,l.s47
def dE(t:Tr):Int:=1+((t.x.size+t.w.s.size)/ 50:Nat)
theorem mR{t:Tr}(h:t.s47):1≤dE t∧dE t≤5629499534050:=by
 obtain⟨h1,h2⟩:=h;unfold mS at h1 h2;unfold dE;omega
mutual
def iT:Ex→Int→Int
 | .mk _ t _ ks,l=>gE ks (l-dE t)
def gE:List Ex→Int→Int
 | [],l=>l
 |k::r,l=>if l<0 then-1 else gE r (iT k l)
end
def gC:List Tr→Int→Int
 | [],l=>l
 |t::r,l=>if l-dE t<0 then-1 else gC r (l-dE t)
def eB(a:Am)(l:Int):Int:=gC a.l (l-(1+(a.r.size / 50:Nat)))
def tU(b:Li)(l:Int):Int:=iT b.y (iT b.x (eB b.a l))
def oN:List Li→Int→Int
 | [],l=>l
 |b::r,l=>if l<0 then-1 else oN r (tU b l)
def bl(r:Ru):Int:=oN r.b (eB r.h 300)
theorem oX:∀(n:Nat) (e:Ex),SizeOf.sizeOf e≤n→e.s47→∀l:Int,(if l<0 then l else 0)-5629499534050≤iT e l∧(iT e l≤l-1∨iT e l=-1)
 |0, .mk op t o ks,h,_,l=>by simp at h
 |n+1, .mk op t o ks,h,hs,l=>by
  have hc:=mR hs.1;have key:∀(r:List Ex),(∀e∈r,SizeOf.sizeOf e≤n∧e.s47)→∀l:Int,((if l<0 then l else-5629499534050)≤gE r l)∧(gE r l≤l∨gE r l=-1):=by
   intro r;induction r with
   |nil=>intro _ l;unfold gE;refine⟨?_, .inl (KD _)⟩;split<;>omega
   |cons k r ih=>
    intro hr l;unfold gE;by_cases h0:l<0
    ·rw[if_pos h0,if_pos h0];exact⟨or, .inr rfl⟩
    rw[if_neg h0,if_neg h0];obtain⟨a,b⟩:=oX n k (hr k Ke).1 (hr k Ke).2 l;rw[if_neg h0] at a;obtain⟨c,d⟩:=ih (fun e he=>hr e (Kf _ he)) (iT k l);generalize gE r (iT k l)=z at c d;generalize iT k l=y at a b c d;split at c
    ·omega
    omega
  have hk:∀e∈ks,SizeOf.sizeOf e≤n∧e.s47:=fun e he=>by
   refine⟨?_,Ex.aA0.1 hs.2 e he⟩;have:=Ks he;simp only[Ex.mk.sizeOf_spec] at h;omega
  obtain⟨a,b⟩:=key ks hk (l-dE t);unfold iT;generalize gE ks (l-dE t)=z at a b;split at a<;>split<;>omega
mutual
def Ex.few:Ex→Prop
 | .mk _ _ _ ks=>ks.length≤300∧Ex.aKR ks
def Ex.aKR:List Ex→Prop
 | []=>True
 |e::r=>e.few∧Ex.aKR r
end
theorem Ex.aBx:∀{l:List Ex},Ex.aKR l↔∀e∈l,e.few
 | []=>by simp[Ex.aKR]
 |e::r=>by simp[Ex.aKR,Ex.aBx (l:=r)]
theorem fz:∀(n:Nat) (e:Ex),SizeOf.sizeOf e≤n→e.s47→∀l:Int,l≤300→0≤iT e l→e.few∧0≤l∧iT e l≤l
 |0, .mk op t o ks,h,_,l,_,_=>by simp at h
 |n+1, .mk op t o ks,h,hs,l,hl,h0=>by
  have hc:=mR hs.1;have key:∀(r:List Ex),(∀e∈r,SizeOf.sizeOf e≤n∧e.s47)→∀l:Int,l≤300→0≤gE r l→(∀e∈r,e.few)∧(r.length:Int)≤l-gE r l∧0≤l:=by
   intro r;induction r with
   |nil=>intro _ l hl h0;unfold gE at h0⊢;exact⟨Zm,Zm,h0⟩
   |cons k r ih=>
    intro hr l hl h0;unfold gE at h0⊢;by_cases hl0:l<0
    ·rw[if_pos hl0] at h0;omega
    rw[if_neg hl0] at h0⊢;obtain⟨hk1,hk2⟩:=hr k Ke;obtain⟨_,b⟩:=oX n k hk1 hk2 l;obtain⟨c1,c2,c3⟩:=ih (fun e he=>hr e (Kf _ he)) (iT k l) or h0;obtain⟨d1,d2,d3⟩:=fz n k hk1 hk2 l hl c3;refine⟨fun e he=>?_,by simp only[Kh];omega,or⟩;rcases Kd.1 he with rfl|he
    ·exact d1
    exact c1 e he
  have hk:∀e∈ks,SizeOf.sizeOf e≤n∧e.s47:=fun e he=>by
   refine⟨?_,Ex.aA0.1 hs.2 e he⟩;have:=Ks he;simp only[Ex.mk.sizeOf_spec] at h;omega
  unfold iT at h0⊢;obtain⟨a,b,c⟩:=key ks hk (l-dE t) or h0;exact⟨⟨or,Ex.aBx.2 a⟩,or,or⟩
theorem ic:∀(r:List Tr),(∀t∈r,t.s47)→∀l:Int,(if l<0 then l-5629499534050 else-5629499534050)≤gC r l∧(gC r l≤l∨gC r l=-1)
 | [],_,l=>by unfold gC;refine⟨?_, .inl (KD _)⟩;split<;>omega
 |t::r,h,l=>by
  have hc:=mR (h t Ke);unfold gC;by_cases q:l-dE t<0
  ·rw[if_pos q];refine⟨?_, .inr rfl⟩;split<;>omega
  rw[if_neg q];obtain⟨a,b⟩:=ic r (fun t ht=>h t (Kf _ ht)) (l-dE t);rw[if_neg q] at a;refine⟨?_,or⟩;split<;>omega
theorem tI:∀(r:List Tr),(∀t∈r,t.s47)→∀l:Int,0≤gC r l→(r.length:Int)≤l-gC r l
 | [],_,l,_=>by simp[gC]
 |t::r,h,l,h0=>by
  have hc:=mR (h t Ke);unfold gC at h0⊢;by_cases q:l-dE t<0
  ·rw[if_pos q] at h0;omega
  rw[if_neg q] at h0⊢;have:=tI r (fun t ht=>h t (Kf _ ht)) (l-dE t) h0;simp only[Kh];omega
theorem sB{a:Am}(h:a.s47):(0:Int)≤(a.r.size / 50:Nat)∧((a.r.size / 50:Nat):Int)≤2814749767024:=by
 have:=h.1;unfold mS at this;omega
theorem sZ{a:Am}(h:a.s47)(l:Int):(if l<0 then l else 0)-11258999068100≤eB a l∧(eB a l≤l-1∨eB a l=-1):=by
 have hn:=sB h;obtain⟨x,y⟩:=ic a.l h.2 (l-(1+(a.r.size / 50:Nat)));unfold eB;split at x<;>split<;>omega
theorem AU{b:Li}(h:b.s47)(l:Int):(if l<0 then l else 0)-22517998136200≤tU b l∧(tU b l≤l-1∨tU b l=-1∨tU b l≤-1):=by
 obtain⟨x1,y1⟩:=sZ h.1 l;obtain⟨x2,y2⟩:=oX _ b.x (Kb _) h.2.1 (eB b.a l);obtain⟨x3,y3⟩:=oX _ b.y (Kb _) h.2.2 (iT b.x (eB b.a l));unfold tU;split at x1<;>split at x2<;>split at x3<;>split<;>omega
def Ru.few(r:Ru):Prop:=r.h.l.length≤300∧r.b.length≤300∧∀b∈r.b,b.a.l.length≤300∧b.x.few∧b.y.few
theorem js:∀(r:List Li),(∀b∈r,b.s47)→∀l:Int,l≤300→0≤oN r l→(r.length:Int)≤l-oN r l∧0≤l∧∀b∈r,b.a.l.length≤300∧b.x.few∧b.y.few
 | [],_,l,_,h0=>by unfold oN at h0⊢;exact⟨Zm,h0,Zm⟩
 |b::r,h,l,hl,h0=>by
  have hb:=h b Ke;unfold oN at h0⊢;by_cases hl0:l<0
  ·rw[if_pos hl0] at h0;omega
  rw[if_neg hl0] at h0⊢;have hbd:=(AU hb l).2;obtain⟨c1,c2,c3⟩:=js r (fun b hb=>h b (Kf _ hb)) (tU b l) or h0;unfold tU at c2;obtain⟨x1,y1⟩:=sZ hb.1 l;obtain⟨x2,y2⟩:=oX _ b.x (Kb _) hb.2.1 (eB b.a l);obtain⟨d1,d2,d3⟩:=fz _ b.y (Kb _) hb.2.2 _ or c2;obtain⟨e1,e2,e3⟩:=fz _ b.x (Kb _) hb.2.1 _ or d2;have hn:=sB hb.1;have ft:=tI b.a.l hb.1.2 (l-(1+(b.a.r.size / 50:Nat))) e2;refine⟨by simp only[Kh];omega,or,fun z hz=>?_⟩;rcases Kd.1 hz with rfl|hz
  ·exact⟨by unfold eB at e2;omega,e1,d1⟩
  exact c3 z hz
theorem wv{r:Ru}(h:r.s47)(h0:0≤bl r):r.few:=by
 unfold bl at h0;have hn:=sB h.1;obtain⟨x1,y1⟩:=sZ h.1 300;obtain⟨a,b,c⟩:=js r.b h.2 _ or h0;have ft:=tI r.h.l h.1.2 (300-(1+(r.h.r.size / 50:Nat))) b;unfold eB at b;exact⟨or,or,c⟩
end Go.Proofs.YtjfdoohogiojcaaGreatDoor
