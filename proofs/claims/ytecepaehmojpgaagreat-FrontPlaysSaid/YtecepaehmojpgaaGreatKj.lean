/-
Texts of this proof,one behind the other. No conditions.
-/
import Derived.Test.YtecepaehmojpgaaGreatKd
import Derived.Test.YtecepaehmojpgaaGreatKh
open Go.Proofs.YtecepaehmojpgaaGreat.Hp renaming le_refl→Ka,same→Kb,set→Kd
open List renaming take_succ_eq_append_getElem→Kc,take_of_length_le→Ke,getElem_mem→Kh,mem_append→Ki,map_nil→Kj,mem_append_left→Kk,sum_nil→Km,map_append→Ko,sum_append→Kp,replicate→Kq,map_cons→Ks,sum_cons→Kt
open Nat renaming lt_or_ge→Kf,zero_le→Kg,le_trans→Ku
open Nat renaming reduceAdd→jA,reduceSub→jB,reduceLT→jC,reduceLeDiff→jD,reduceEqDiff→jE
open Int renaming reduceToNat→jF,toNat_natCast→jG,natCast_add→jH,natCast_one→jI,natCast_zero→jJ
open List renaming length_map→jK,length_cons→jL,length_nil→jM,replicate_succ→jN,replicate_zero→jO,cons_append→jP,nil_append→jQ
set_option linter.unusedSimpArgs false
set_option linter.unusedVariables false
set_option linter.unusedSectionVars false
set_option maxHeartbeats 8000000
namespace Go.Proofs.YtecepaehmojpgaaGreat
open Go.RowKit Go.Sort
attribute [local irreducible] IntKind.wrap
def kY(n m:Nat)(ν:Nat→Nat):List V:=fS n fun i=>if i<m then .rs (ν i) .leaf 0 n else .sl .leaf .nil []
def lD(n:Nat)(T:Nat→Nat→Bool)(i:Nat):List V:=fS n fun j=> .bool (T i j)
theorem rD(n m:Nat)(ν:Nat→Nat):(kY n m ν).length=n:=fH _ _
theorem lV(n:Nat)(T:Nat→Nat→Bool)(i:Nat):(lD n T i).length=n:=fH _ _
theorem rE{n m i:Nat}(ν:Nat→Nat)(h:i<n):(kY n m ν).getD i (.tup [])=if i<m then .rs (ν i) .leaf 0 n else .sl .leaf .nil []:=yX _ h
theorem pG{n j:Nat}(T:Nat→Nat→Bool)(i:Nat)(h:j<n):(lD n T i).getD j (.tup [])= .bool (T i j):=yX _ h
structure wH(h' hp:Hp)(nx nx1 n m:Nat)(mv:V)(T:Nat→Nat→Bool)(ν:Nat→Nat):Prop where
 box:hp nx=some (.arr (.agg 2) [mv])
 tab:hp (nx+1)=some (.arr .leaf (kY n m ν))
 row:∀i,i<m→i<n→hp (ν i)=some (.arr .leaf (lD n T i))∧nx+2≤ν i∧ν i<nx1
 apart:∀i j,i<m→j<m→i<n→j<n→i≠j→ν i≠ν j
 dom:aI hp nx1
 ge:nx+2≤nx1
 same:Kb nx h' hp
theorem wH.new{h' hp:Hp}{nx nx1 n m:Nat}{mv:V}{ν:Nat→Nat}(F:wH h' hp nx nx1 n m mv (fun _ _=>false) ν)(hm:m<n):
 wH h' ((hp.set nx1 (.arr .leaf (Kq n (.bool false)))).set (nx+1) (.arr .leaf ((kY n m ν).set m (.rs nx1 .leaf 0 n)))) nx (nx1+1) n (m+1) mv (fun _ _=>false) (fun k=>if k=m then nx1 else ν k):=by
 have hge:=F.ge;have hs:∀y,y≠nx1→y≠nx+1→∀b c,((hp.set nx1 b).set (nx+1) c) y=hp y:=fun y h1 h2 b c=>by unfold Kd;rw[if_neg h2,if_neg h1]
 refine⟨by rw[hs _ or or];exact F.box,?_,fun i hi hin=>?_,fun i j hi hj hin hjn hij=>?_,?_,or,fun y hy=>?_⟩
 ·have:(kY n m ν).set m (.rs nx1 .leaf 0 n)=kY n (m+1) (fun k=>if k=m then nx1 else ν k):=by
   unfold kY;rw[rT];refine kE fun i hi=>?_;by_cases e:i=m
   ·simp[e]
   by_cases e2:i<m
   ·have:i<m+1:=or;simp[e,e2,this]
   have:¬i<m+1:=or;simp[e,e2,this]
  rw[this];unfold Kd;rw[if_pos rfl]
 ·by_cases e:i=m
  ·simp only[e,if_true];refine⟨?_,or,or⟩;unfold Kd;rw[if_neg or,if_pos rfl,mW];rfl
  simp only[e,if_false];obtain⟨a,b,c⟩:=F.row i or hin;exact⟨by rw[hs _ or or];exact a,b,or⟩
 ·by_cases e:i=m<;>by_cases e2:j=m
  ·omega
  ·simp only[e,e2,if_true,if_false];have:=(F.row j or hjn).2.2;omega
  ·simp only[e,e2,if_true,if_false];have:=(F.row i or hin).2.2;omega
  simp only[e,e2,if_false];exact F.apart i j or or hin hjn hij
 ·exact(F.dom.set or or _).aAh or _
 rw[hs _ or or];exact F.same y hy
theorem wH.put{h' hp:Hp}{nx nx1 n:Nat}{mv:V}{T:Nat→Nat→Bool}{ν:Nat→Nat}(F:wH h' hp nx nx1 n n mv T ν){i j:Nat}(hi:i<n)(hj:j<n)(b:Bool):
 wH h' (hp.set (ν i) (.arr .leaf ((lD n T i).set j (.bool b)))) nx nx1 n n mv (upd T i j b) ν:=by
 obtain⟨a1,a2,a3⟩:=F.row i hi hi;have hs:∀y,y≠ν i→∀c,(hp.set (ν i) c) y=hp y:=fun y h1 c=>by unfold Kd;rw[if_neg h1]
 refine⟨by rw[hs _ or];exact F.box,by rw[hs _ or];exact F.tab,fun x hx hxn=>?_,F.apart,F.dom.aAh a3 _,F.ge,fun y hy=>by rw[hs _ or];exact F.same y hy⟩;obtain⟨b1,b2,b3⟩:=F.row x hx hxn;refine⟨?_,b2,b3⟩;by_cases e:x=i
 ·subst e;unfold Kd;rw[if_pos rfl];unfold lD;rw[rT];congr 2;refine kE fun y hy=>?_;unfold upd;by_cases e:y=j
  ·simp[e]
  simp[e]
 rw[hs _ (F.apart x i hxn hi hxn hi e),b1];congr 2;unfold lD;refine kE fun y hy=>?_;unfold upd;rw[if_neg (fun h=>e h.1)]
theorem wH.up{h' hp:Hp}{nx nx1 nx2 n m:Nat}{mv:V}{T:Nat→Nat→Bool}{ν:Nat→Nat}(F:wH h' hp nx nx1 n m mv T ν)(h:nx1≤nx2):wH h' hp nx nx2 n m mv T ν:=
 ⟨F.box,F.tab,fun i hi hn=>⟨(F.row i hi hn).1,(F.row i hi hn).2.1,Nat.lt_of_lt_of_le (F.row i hi hn).2.2 h⟩,F.apart,F.dom.up h,Ku F.ge h,F.same⟩
def pZ(idle:Bool)(l:List We)(i j:Nat):Prop:=∃w∈l,(idle=false∨w.p.a=0)∧w.f=i∧w.t=j
open Classical in
noncomputable def eE(idle:Bool)(l:List We)(i j:Nat):Bool:=decide (fL (pZ idle l) i j)
open Classical in
theorem pP(idle:Bool)(l:List We)(i j:Nat):eE idle l i j=true↔fL (pZ idle l) i j:=by unfold eE;exact decide_eq_true_iff
set_option maxRecDepth 100000 in
set_option maxHeartbeats 4000000 in
theorem wn(o:Own)(n:Nat)(l:List We)(idle:Bool)(aAG:yR n l)(hn:n≤200)(hl:l.length≤1000)(h':Hp)(nx:Nat):
 bD Tryz.prog 115 [.agg [.int .i64 n,wes o l], .bool idle] h' nx fun v h'' _=>∃O ν ls es,v= .rs O .leaf 0 ls.length∧nx≤O∧(∀i (hi:i<ls.length),ls[i]≠ []→nx≤ν i)∧ai h'' O .leaf ν ls 0 es∧(∀x,x<nx→h'' x=h' x)∧ls=fS n (lD n (eE idle l)):=by
 refine aF L.aW7 fun hd=>?_;have hmf:(V.agg [.int .i64 (n:Int),wes o l]).fits (.agg 2)=true:=by simp[V.fits,V.aAD]
 have aJd:∀b c,bW .leaf 0 (.bool b) (.bool c)= .bool c:=fun _ _=>rfl;have aNr:∀m,bW .leaf 0 (.sl .leaf .nil []) (.rs m .leaf 0 n)= .rs m .leaf 0 n:=fun _=>rfl;simp only[jL,jM,jA,jB,jN,jO,jP,jQ,V.undef];obtain⟨mv,hmv⟩:∃mv:V,mv= .agg [.int .i64 (n:Int),wes o l]:=⟨_,rfl⟩;refine aue hmf ?_;have F0:wH h' ((h'.set nx (.arr (.agg 2) [mv])).set (nx+1) (.arr .leaf (Kq n (.sl .leaf .nil [])))) nx (nx+2) n 0 mv (fun _ _=>false) (fun _=>0):=by
  refine⟨by simp only[go_sem,reduceIte,jA,jB,jC,jD,reduceCtorEq,jE,jF],?_,fun i hi=>absurd hi or,fun i j hi=>absurd hi or,(by(try dsimp only);repeat (first|exact aI.up hd or|refine aI.aAh ?_ or _|refine aI.del ?_|refine aI.aAb ?_ _)),Nat.le_refl _,(by(try dsimp only);repeat (first|exact Hp.same.aBG|refine aW ?_ or _|refine aX ?_ or))⟩;refine Zn ?_;rw[mW];rfl
 rw[hmv] at F0
 refine aO (fun q:Nat×(Nat→Nat)=>aB 111 0 [(1, .bool idle),(2, .ptr nx (.agg 2) 0 0),(5, .rs (nx+1) .leaf 0 n),(6, .int .i64 q.1)])
  (fun q hp nx1=>q.1≤n∧wH h' hp nx nx1 n q.1 mv (fun _ _=>false) q.2)
  (fun q=>n-q.1) (0,fun _=>0) ⟨Kg _,by rw[hmv];exact F0⟩ ?_ ?_
 ·simp only[WkL,aB,jH,jI,jJ,go_sem,reduceIte,jA,jB,jC,jD,reduceCtorEq,jE,jF]
 clear F0;rintro⟨i,ν⟩ hp nx1 ⟨hi,F⟩;generalize hQ:bH _ _ _ _ _=Q0;dsimp only at hi F;simp only[aB,go_sem,reduceIte,jA,jB,jC,jD,reduceCtorEq,jE,jF];have aAg:=F.box;rw[hmv] at aAg;have aBP:=F.tab;have hge:=F.ge;have l1:nx<nx1:=or;have l2:nx+1<nx1:=or;have hlen:=rD n i ν;rcases Kf i n with hlt|aDA
 ·have hc:decide ((i:Int)<(n:Int))=true:=decide_eq_true or;have hw:IntKind.i64.wrap ((i:Int)+1)=((i+1:Nat):Int):=by rw[bB]<;>omega
  have hg:(kY n i ν).getD i (.tup [])= .sl .leaf .nil []:=by rw[rE ν hlt,if_neg or]
  refine aue (xp aAg aBP hc hw hg hlen hlt aNr l1 l2) ?_;rw[←hQ];refine aD (i+1,fun k=>if k=i then nx1 else ν k) Zw ⟨hlt,(F.new hlt).up or⟩ ?_;simp only[WkL,aB,jH,jI,jJ,go_sem,reduceIte,jA,jB,jC,jD,reduceCtorEq,jE,jF]
 have hc:decide ((i:Int)<(n:Int))=false:=decide_eq_false or;have hin:i=n:=or;subst hin;refine aue (ee2 aAg hc) ?_;rw[←hQ];refine aue hc ?_;clear aAg aBP hge l1 l2 hlen aDA hc
 refine aO (fun q:Nat×(Nat→Nat→Bool)=>aB 111 0 [(1, .bool idle),(2, .ptr nx (.agg 2) 0 0),(5, .rs (nx+1) .leaf 0 i),(7, .int .i64 q.1)])
  (fun q hp nx1=>q.1≤l.length∧wH h' hp nx nx1 i i mv q.2 ν∧∀x y,x<i→y<i→(q.2 x y=true↔pZ idle (l.take q.1) x y))
  (fun q=>l.length-q.1) (0,fun _ _=>false) ⟨Kg _,F,fun x y _ _=>by simp[pZ]⟩ ?_ ?_
 ·simp only[WkL,aB,jH,jI,jJ,go_sem,reduceIte,jA,jB,jC,jD,reduceCtorEq,jE,jF]
 clear F;rintro⟨j,T⟩ hp nx1 ⟨hj,F,hT⟩;generalize hQ1:bH _ _ _ _ _=Q1;dsimp only at hj F hT;simp only[aB,go_sem,reduceIte,jA,jB,jC,jD,reduceCtorEq,jE,jF];have aAg:=F.box;rw[hmv] at aAg;have aBP:=F.tab;have hge:=F.ge;have l1:nx<nx1:=or;have l2:nx+1<nx1:=or;have hlen:=rD i i ν;rcases Kf j l.length with hlt|aDA
 ·have hc:decide ((j:Int)<(l.length:Int))=true:=decide_eq_true or;have hw:IntKind.i64.wrap ((j:Int)+1)=((j+1:Nat):Int):=by rw[bB]<;>omega
  have hg:(l.map We.v).getD j (.tup [])= .agg [.int .i64 l[j].f, .int .i64 l[j].t, .bool l[j].p.n, .int .i64 l[j].p.a]:=bO We.v l j hlt;have hwf:=aAG l[j] (Kh _);have htk:l.take (j+1)=l.take j++[l[j]]:=Kc hlt;have aBQ:=(F.row l[j].f hwf.1 hwf.1).1;have hrl:=lV i T l[j].f;have hgf:(kY i i ν).getD l[j].f (.tup [])= .rs (ν l[j].f) .leaf 0 i:=by rw[rE ν hwf.1,if_pos hwf.1]
  have hgt:=pG T l[j].f hwf.2.1;have h1:=hwf.1;have h2:=hwf.2.1;have yes:(idle=false∨l[j].p.a=0)→∀x y,x<i→y<i→(upd T l[j].f l[j].t true x y=true↔pZ idle (l.take (j+1)) x y):=fun hor x y hx hy=>by
   unfold upd;rw[htk];by_cases e:x=l[j].f∧y=l[j].t
   ·rw[if_pos e];exact⟨fun _=>⟨l[j],List.mem_append_right _ (List.mem_singleton.2 rfl),hor,e.1.symm,e.2.symm⟩,fun _=>rfl⟩
   rw[if_neg e,hT x y hx hy];constructor
   ·rintro⟨w,hw,q⟩;exact⟨w,Kk _ hw,q⟩
   rintro⟨w,hw,q⟩;rcases Ki.1 hw with hw|hw
   ·exact⟨w,hw,q⟩
   simp at hw;subst hw;exact absurd ⟨q.2.1.symm,q.2.2.symm⟩ e
  have no:¬(idle=false∨l[j].p.a=0)→∀x y,x<i→y<i→(T x y=true↔pZ idle (l.take (j+1)) x y):=fun hor x y hx hy=>by
   rw[htk,hT x y hx hy];constructor
   ·rintro⟨w,hw,q⟩;exact⟨w,Kk _ hw,q⟩
   rintro⟨w,hw,q⟩;rcases Ki.1 hw with hw|hw
   ·exact⟨w,hw,q⟩
   simp at hw;subst hw;exact absurd q.1 hor
  by_cases hid:idle=false
  ·subst hid;refine aue (EK aAg aBP hc hw hg hlen hlt aBQ hrl hgf hgt h1 h2 aJd l1 l2) ?_;rw[←hQ1];refine aD (j+1,upd T l[j].f l[j].t true) Zw ⟨hlt,(F.put h1 h2 true).up or,yes (.inl rfl)⟩ ?_;simp only[WkL,aB,jH,jI,jJ,go_sem,reduceIte,jA,jB,jC,jD,reduceCtorEq,jE,jF]
  have aWg:idle=true:=by simpa using hid
  subst aWg;by_cases ha:l[j].p.a=0
  ·have hac:(l[j].p.a==0)=true:=by simp[ha]
   refine aue (Fw aAg aBP hc hw hg hac hlen hlt aBQ hrl hgf hgt h1 h2 aJd l1 l2) ?_;rw[←hQ1];refine aD (j+1,upd T l[j].f l[j].t true) Zw ⟨hlt,(F.put h1 h2 true).up or,yes (.inr ha)⟩ ?_;simp only[WkL,aB,jH,jI,jJ,go_sem,reduceIte,jA,jB,jC,jD,reduceCtorEq,jE,jF]
  have hac:(l[j].p.a==0)=false:=by simp[ha]
  refine aue (Fw aAg aBP hc hw hg hac hlen hlt aBQ hrl hgf hgt h1 h2 aJd l1 l2) ?_;rw[←hQ1];refine aD (j+1,T) Zw ⟨hlt,F,no (fun h=>h.elim (fun h=>by cases h) ha)⟩ ?_;simp only[WkL,aB,jH,jI,jJ,go_sem,reduceIte,jA,jB,jC,jD,reduceCtorEq,jE,jF]
 have hc:decide ((j:Int)<(l.length:Int))=false:=decide_eq_false or;have hjl:l.take j=l:=Ke or;rw[hjl] at hT;refine aue (ee4 aAg hc l1 l2) ?_;rw[←hQ1];refine aue hc ?_;have hE:∀a b,pZ idle l a b→a<i∧b<i:=by
  rintro a b ⟨w,hw,_,rfl,rfl⟩;exact⟨(aAG w hw).1,(aAG w hw).2.1⟩
 clear aAg aBP hge l1 l2 hlen aDA hc hj hjl
 refine aO (fun q:Nat×(Nat→Nat→Bool)=>aB 111 0 [(2, .ptr nx (.agg 2) 0 0),(5, .rs (nx+1) .leaf 0 i),(8, .int .i64 q.1)])
  (fun q hp nx1=>q.1≤i∧wH h' hp nx nx1 i i mv q.2 ν∧Wsh (pZ idle l) i q.1 0 0 q.2)
  (fun q=>i-q.1) (0,T) ⟨Kg _,F,Wsh.first hT⟩ ?_ ?_
 ·simp only[WkL,aB,jH,jI,jJ,go_sem,reduceIte,jA,jB,jC,jD,reduceCtorEq,jE,jF]
 clear F hT;rintro⟨k,T⟩ hp nx1 ⟨hk,F,W⟩;generalize hQ2:bH _ _ _ _ _=Q2;dsimp only at hk F W;simp only[aB,go_sem,reduceIte,jA,jB,jC,jD,reduceCtorEq,jE,jF];have aAg:=F.box;rw[hmv] at aAg;have hge:=F.ge;have l1:nx<nx1:=or;rcases Kf k i with hkl|aDA
 ·have hc:decide ((k:Int)<(i:Int))=true:=decide_eq_true or;have hw:IntKind.i64.wrap ((k:Int)+1)=((k+1:Nat):Int):=by rw[bB]<;>omega
  refine aue (ee3 aAg hc l1) ?_
  refine aO (fun q:Nat×(Nat→Nat→Bool)=>aB 111 0 [(2, .ptr nx (.agg 2) 0 0),(5, .rs (nx+1) .leaf 0 i),(8, .int .i64 k),(9, .int .i64 q.1)])
   (fun q hp nx1=>q.1≤i∧wH h' hp nx nx1 i i mv q.2 ν∧Wsh (pZ idle l) i k q.1 0 q.2)
   (fun q=>i-q.1) (0,T) ⟨Kg _,F,W⟩ ?_ ?_
  ·simp only[WkL,aB,jH,jI,jJ,go_sem,reduceIte,jA,jB,jC,jD,reduceCtorEq,jE,jF]
  clear F W aAg hge l1;rintro⟨x,T⟩ hp nx1 ⟨hx,F,W⟩;generalize hQ3:bH _ _ _ _ _=Q3;dsimp only at hx F W;simp only[aB,go_sem,reduceIte,jA,jB,jC,jD,reduceCtorEq,jE,jF];have aAg:=F.box;rw[hmv] at aAg;have hge:=F.ge;have l1:nx<nx1:=or;rcases Kf x i with hxl|aHG
  ·have hc3:decide ((x:Int)<(i:Int))=true:=decide_eq_true or;have hw3:IntKind.i64.wrap ((x:Int)+1)=((x+1:Nat):Int):=by rw[bB]<;>omega
   refine aue (ee3 aAg hc3 l1) ?_
   refine aO (fun q:Nat×(Nat→Nat→Bool)=>aB 111 0 [(2, .ptr nx (.agg 2) 0 0),(5, .rs (nx+1) .leaf 0 i),(8, .int .i64 k),(9, .int .i64 x),(10, .int .i64 q.1)])
    (fun q hp nx1=>q.1≤i∧wH h' hp nx nx1 i i mv q.2 ν∧Wsh (pZ idle l) i k x q.1 q.2)
    (fun q=>i-q.1) (0,T) ⟨Kg _,F,W⟩ ?_ ?_
   ·simp only[WkL,aB,jH,jI,jJ,go_sem,reduceIte,jA,jB,jC,jD,reduceCtorEq,jE,jF]
   clear F W aAg hge l1;rintro⟨y,T⟩ hp nx1 ⟨hy,F,W⟩;generalize hQ4:bH _ _ _ _ _=Q4;dsimp only at hy F W;simp only[aB,go_sem,reduceIte,jA,jB,jC,jD,reduceCtorEq,jE,jF];have aAg:=F.box;rw[hmv] at aAg;have aBP:=F.tab;have hge:=F.ge;have l1:nx<nx1:=or;have l2:nx+1<nx1:=or;have hlen:=rD i i ν;have hrx:=(F.row x hxl hxl).1;have hrk:=(F.row k hkl hkl).1;have aOM:=lV i T x;have aVW:=lV i T k;have hgx:(kY i i ν).getD x (.tup [])= .rs (ν x) .leaf 0 i:=by rw[rE ν hxl,if_pos hxl]
   have hgk:(kY i i ν).getD k (.tup [])= .rs (ν k) .leaf 0 i:=by rw[rE ν hkl,if_pos hkl]
   have hxk:=pG T x hkl;rcases Kf y i with hyl|aVg
   ·have hc4:decide ((y:Int)<(i:Int))=true:=decide_eq_true or;have hw4:IntKind.i64.wrap ((y:Int)+1)=((y+1:Nat):Int):=by rw[bB]<;>omega
    have hxy:=pG T x hyl;have hky:=pG T k hyl;cases hb:T x k with
    |true=>
     rw[hb] at hxk;have hs:=W.step hkl hxl hyl hb;cases hb1:T x y with
     |true=>
      rw[hb1] at hxy hs;refine aue (F6 aAg aBP hc4 hw4 hlen hrx hrk aOM aVW hgx hgk hxk hxy hky hxl hkl hyl aJd l1 l2) ?_;rw[←hQ4];refine aD (y+1,upd T x y true) Zw ⟨hyl,(F.put hxl hyl true).up or,hs⟩ ?_;simp only[WkL,aB,jH,jI,jJ,go_sem,reduceIte,jA,jB,jC,jD,reduceCtorEq,jE,jF]
     |false=>
      rw[hb1] at hxy hs;rw[Bool.false_or] at hs;refine aue (F6 aAg aBP hc4 hw4 hlen hrx hrk aOM aVW hgx hgk hxk hxy hky hxl hkl hyl aJd l1 l2) ?_;rw[←hQ4];refine aD (y+1,upd T x y (T k y)) Zw ⟨hyl,(F.put hxl hyl (T k y)).up or,hs⟩ ?_;simp only[WkL,aB,jH,jI,jJ,go_sem,reduceIte,jA,jB,jC,jD,reduceCtorEq,jE,jF]
    |false=>
     rw[hb] at hxk;have hs:=W.no hkl hxl hb;refine aue (F7 aAg aBP hc4 hlen hrx aOM hgx hxk hxl hkl l1 l2) ?_;rw[←hQ4];refine aue hw3 ?_;rw[←hQ3];refine aD (x+1,T) Zw ⟨hxl,F,hs⟩ ?_;simp only[WkL,aB,jH,jI,jJ,go_sem,reduceIte,jA,jB,jC,jD,reduceCtorEq,jE,jF]
   have hc4:decide ((y:Int)<(i:Int))=false:=decide_eq_false or;have hyi:y=i:=or;subst hyi;refine aue (ee4 aAg hc4 l1 l2) ?_;rw[←hQ4];refine aue hw3 ?_;rw[←hQ3];refine aD (x+1,T) Zw ⟨hxl,F,W.aJT⟩ ?_;simp only[WkL,aB,jH,jI,jJ,go_sem,reduceIte,jA,jB,jC,jD,reduceCtorEq,jE,jF]
  have hc3:decide ((x:Int)<(i:Int))=false:=decide_eq_false or;have hxi:x=i:=or;subst hxi;refine aue (ee3 aAg hc3 l1) ?_;rw[←hQ3];refine aue hw ?_;rw[←hQ2];refine aD (k+1,T) Zw ⟨hkl,F,W.next⟩ ?_;simp only[WkL,aB,jH,jI,jJ,go_sem,reduceIte,jA,jB,jC,jD,reduceCtorEq,jE,jF]
 have hc:decide ((k:Int)<(i:Int))=false:=decide_eq_false or;have hki:k=i:=or;subst hki;refine aue (ee3 aAg hc l1) ?_;rw[←hQ2];refine au ?_;have hTJ:∀x,x<k→lD k T x=lD k (eE idle l) x:=fun x hx=>kE fun y hy=>by
  have:T x y=eE idle l x y:=by rw[Bool.eq_iff_iff,pP];exact W.done hE x y hx hy
  rw[this]
 have hgl:∀x (hx:x<(fS k (lD k (eE idle l))).length),(fS k (lD k (eE idle l)))[x]=lD k (eE idle l) x:=fun x hx=>by simp[fS]
 refine aG hp (Ka _) ⟨nx+1,ν,fS k (lD k (eE idle l)),kY k k ν,?_,or,fun x hx hne=>?_,?_,F.same,rfl⟩
 ·simp only[fH,go_sem,reduceIte,jA,jB,jC,jD,reduceCtorEq,jE,jF]
 ·have hx':x<k:=by simpa [fH] using hx
  have:=(F.row x hx' hx').2.1;omega
 refine⟨F.tab,by rw[rD,fH],fun x hx hx' h0=>absurd h0 or,fun x hx hx' _=>?_,fun x hx _ hne=>?_,fun x x' hx hx' _ hlt hne aOY=>?_⟩
 ·have hxk:x<k:=by simpa [fH] using hx
  rw[hgl];have h1:(kY k k ν)[x]= .rs (ν x) .leaf 0 k:=by simp[kY,fS,hxk]
  rw[h1];unfold vC;have h2:(lD k (eE idle l) x).isEmpty=false:=by
   cases e:lD k (eE idle l) x with
   |nil=>have:=lV k (eE idle l) x;rw[e] at this;simp at this;omega
   |cons=>rfl
  rw[h2,lV];rfl
 ·have hxk:x<k:=by simpa [fH] using hx
  rw[hgl,←hTJ x hxk];have:=F.row x hxk hxk;exact⟨this.1,or⟩
 have hxk:x<k:=by simpa [fH] using hx
 have aVP:x'<k:=by simpa [fH] using hx'
 exact F.apart x x' hxk aVP hxk aVP or
noncomputable def E5(n:Nat)(idle:Bool)(l:List We):V:= .sl .leaf .free ((fS n (lD n (eE idle l))).map (lst .leaf))
theorem bm(o:Own)(n:Nat)(l:List We)(idle:Bool)(aAG:yR n l)(hn:n≤200)(hl:l.length≤1000)(h:Hp):
 aY Tryz.prog 115 [.agg [.int .i64 n,wes o l], .bool idle] h (E5 n idle l):=by
 refine aR (fun L=>?_) fun h' nx hh=>(nT (G:=fun ls=>ls=fS n (lD n (eE idle l))) (wn o n l idle aAG hn hl h' nx)).mono ?_
 ·unfold E5;simp only[V.names,true_and,and_true];refine⟨fun n e=>(by cases e),?_⟩;unfold fS;rw[List.map_map];exact bG (f:=lst .leaf∘lD n (eE idle l)) (fun i=>cP (fun L=>by unfold lD fS;exact bG (f:=fun j=>V.bool (eE idle l i j)) (fun j=>trivial) _) L) _
 rintro v h'' nx2 hnx ⟨ls,rfl,rfl,rfl⟩;exact⟨rfl,rfl⟩
theorem qR(a b:Int):a<b∨b≤a:=or
theorem br(l:List We):pZ false l=wJ l:=by
 funext i j;simp[pZ,wJ]
theorem i6(l:List We):pZ true l=fun a b=>(a,b)∈zE l:=by
 funext i j;apply propext;rw[CL];constructor
 ·rintro⟨w,h1,h2,h3,h4⟩;exact⟨w,h1,h2.elim (fun h=>by cases h) id,by rw[h3,h4]⟩
 rintro⟨w,h1,h2,h3⟩;injection h3 with h3 h4;exact⟨w,h1, .inr h2,h3,h4⟩
theorem Bi{n:Nat}{l:List We}{b:Bool}{i:Nat}(hi:i<n):((fS n (lD n (eE b l))).map (lst .leaf)).getD i (.tup [])= .sl .leaf .free (lD n (eE b l) i):=by
 have h1:i<((fS n (lD n (eE b l))).map (lst .leaf)).length:=by simpa [fH] using hi
 rw[List.getD_eq_getElem?_getD,List.getElem?_eq_getElem h1];simp only[List.getElem_map,fS,List.getElem_range,Option.getD_some];unfold lst;have h2:=lV n (eE b l) i;cases e:lD n (eE b l) i with
 |nil=>rw[e] at h2;simp at h2;omega
 |cons=>rfl
theorem pm(n:Nat)(b:Bool)(l:List We):((fS n (lD n (eE b l))).map (lst .leaf)).length=n:=by rw[jK,fH]
theorem Ak{n:Int}{oo:Own}{M:List Wy}{c:Int}(h:(M=[]∧oo= .nil)∨(M≠ []∧oo≠ .nil)):(V.tup [.agg [.int .i64 n,wys oo M], .int .i64 c]).aBK= .tup [vU n M, .int .i64 c]:=by
 rcases h with⟨rfl,rfl⟩|⟨h1,h2⟩
 ·rfl
 cases M with
 |nil=>exact absurd rfl h1
 |cons w M=>cases oo<;>first|exact absurd rfl h2|rfl
theorem Bk(l:List Wy)(w:Wy):oU Wy.less l w≠ []:=by
 cases l with
 |nil=>simp[oU]
 |cons x l=>unfold oU;repeat' split
            all_goals simp
theorem ww(ws:List Wy)(i:Nat)(h:i<ws.length):kV Wy.less (ws.take (i+1))=oU Wy.less (kV Wy.less (ws.take i)) ws[i]:=by
 rw[Kc h];unfold kV;rw[List.foldl_append];rfl
theorem Au(l:List Wy):(kV Wy.less l).length≤l.length:=by rw[←nR];exact nQ l
set_option maxRecDepth 100000 in
set_option maxHeartbeats 4000000 in
theorem zx(o:Own)(P:Int)(ws:List Wy)(hl:ws.length≤1000)(h:Hp):aY Tryz.prog 80 [.int .i64 P,wys o ws] h (.tup [vU (cT P ws).1.1 (cT P ws).1.2, .int .i64 (cT P ws).2]):=by
 refine kQ (fun L=>by simp[V.names,bU,vT]) fun h' nx hh=>aF L.aXq fun hd=>?_;simp only[jL,jM,jA,jB,jN,jO,jP,jQ,V.undef];have e1:(P<0∨200<P)→cT P ws=((0,[]),1):=fun h=>by
  unfold cT;rw[if_pos (h.elim .inl fun h=> .inr (.inl h))]
 rcases qR P 0 with hP|hP
 ·have hc1:decide (P<0)=true:=decide_eq_true hP;have hmf:(V.agg [V.int .i64 0,V.sl (.agg 4) .nil []]).fits (.agg 2)=true:=rfl;refine aue (ee2 hc1 hmf) ?_;refine cN (by simp only[go_sem,reduceIte,jA,jB,jC,jD,reduceCtorEq,jE,jF]) h' (by repeat (first|exact Ka _|refine aJ hd ?_ or _|refine aL hd ?_ or)) ⟨?_,Ka _⟩;refine Zn ?_;rw[e1 (.inl hP)];rfl
 rcases qR 200 P with hP2|hP2
 ·have hc1:decide (P<0)=false:=decide_eq_false or;have hc2:decide (P>200)=true:=decide_eq_true or;have hmf:(V.agg [V.int .i64 0,V.sl (.agg 4) .nil []]).fits (.agg 2)=true:=rfl;refine aue (ee3 hc1 hc2 hmf) ?_;refine cN (by simp only[go_sem,reduceIte,jA,jB,jC,jD,reduceCtorEq,jE,jF]) h' (by repeat (first|exact Ka _|refine aJ hd ?_ or _|refine aL hd ?_ or)) ⟨?_,Ka _⟩;refine Zn ?_;rw[e1 (.inr hP2)];rfl
 have hc1:decide (P<0)=false:=decide_eq_false or;have hc2:decide (P>200)=false:=decide_eq_false or;have hmf:∀m oo M,(V.agg [V.int .i64 m,wys oo M]).fits (.agg 2)=true:=fun _ _ _=>by simp[V.fits,V.aAD]
 have aDI:(V.agg [V.int .i64 0,V.sl (.agg 4) .nil []]).fits (.agg 2)=true:=rfl;have aWV:∀oo l,(V.agg [V.int .i64 P,wes oo l]).fits (.agg 2)=true:=fun _ _=>by simp[V.fits,V.aAD]
 have hex:∀(code:Int) (sl:List V) (h2:Hp) (nx2:Nat),cT P ws=((0,[]),code)→Kb nx h' h2→h2 nx=some (.arr (.agg 2) [.agg [.int .i64 0, .sl (.agg 4) .nil []]])→sl.getD 4 V.undef= .ptr nx (.agg 2) 0 0→sl.getD 5 V.undef= .int .i64 code→iB [pX.cell 4 (.agg 2),pX.slot 5] (fun v' h'' x=>v'.aBK= .tup [vU (cT P ws).1.1 (cT P ws).1.2, .int .i64 (cT P ws).2]∧h'.le h'') cM.ret ⟨sl,h2,nx2⟩:=fun code sl h2 nx2 q0 q2 q1 q3 q4=>by
  have q3':sl.getD 4 (.tup [])= .ptr nx (.agg 2) 0 0:=q3;refine cN (by simp only[bR.ok,aP.ev,q1,q3',q3,V.undef,go_sem,reduceIte,jA,jB,jC,jD,reduceCtorEq,jE,jF]) h' (q2.le hd (Ka _)) ⟨?_,Ka _⟩;rw[q0,q4];simp only[bR.out,aP.ev,q1,q3',q3,V.undef,go_sem,reduceIte,jA,jB,jC,jD,reduceCtorEq,jE,jF];rfl
 refine aue (ee3 hc1 hc2 aDI) ?_
 refine aO (fun q:Nat×Own=>aB 138 0 [(0, .int .i64 P),(1,wys o ws),(4, .ptr nx (.agg 2) 0 0),(6, .ptr (nx+1) (.agg 2) 0 0),(7, .int .i64 q.1)])
  (fun q hp nx1=>q.1≤ws.length∧nx+2≤nx1∧aI hp nx1∧hp nx=some (.arr (.agg 2) [.agg [.int .i64 0, .sl (.agg 4) .nil []]])∧hp (nx+1)=some (.arr (.agg 2) [.agg [.int .i64 P,wys q.2 (kV Wy.less (ws.take q.1))]])∧Kb nx h' hp∧((kV Wy.less (ws.take q.1)=[]∧q.2= .nil)∨(kV Wy.less (ws.take q.1)≠ []∧q.2≠ .nil))∧∀w∈ws.take q.1,w.fit P=true)
  (fun q=>ws.length-q.1) (0, .nil) ⟨Kg _,Zw,(by(try dsimp only);repeat (first|exact aI.up hd or|refine aI.aAh ?_ or _|refine aI.del ?_|refine aI.aAb ?_ _)),by simp only[go_sem,reduceIte,jA,jB,jC,jD,reduceCtorEq,jE,jF],by simp only[kV,List.foldl_nil,wys,Kj,go_sem,reduceIte,jA,jB,jC,jD,reduceCtorEq,jE,jF],(by(try dsimp only);repeat (first|exact Hp.same.aBG|refine aW ?_ or _|refine aX ?_ or)), .inl ⟨rfl,rfl⟩,fun w hw=>by simp at hw⟩ ?_ ?_
 ·simp only[WkL,aB,jH,jI,jJ,wys,go_sem,reduceIte,jA,jB,jC,jD,reduceCtorEq,jE,jF]
 rintro⟨i,oo⟩ hp nx1 ⟨hi,hnx,hdm,hb0,hb1,hsm,hoo,aCJ⟩;generalize hQ:bH _ _ _ _ _=Q0;dsimp only at hi hb1 hoo aCJ;simp only[aB,go_sem,reduceIte,jA,jB,jC,jD,reduceCtorEq,jE,jF];have l1:nx<nx1:=or;have l2:nx+1<nx1:=or;rcases Kf i ws.length with hlt|hge
 ·have hc:decide ((i:Int)<(ws.length:Int))=true:=decide_eq_true or;have hg:(ws.map Wy.v).getD i (.tup [])= .agg [.int .i64 ws[i].f, .int .i64 ws[i].t, .bool ws[i].p.n, .int .i64 ws[i].p.a]:=bO Wy.v ws i hlt;have hw:IntKind.i64.wrap ((i:Int)+1)=((i+1:Nat):Int):=by rw[bB]<;>omega
  have htk:ws.take (i+1)=ws.take i++[ws[i]]:=Kc hlt;have aEW:=ww ws i hlt;have hil:(kV Wy.less (ws.take i)).length≤100000:=Ku (Au _) (by simp;omega);obtain⟨M,hM⟩:∃M,M=kV Wy.less (ws.take i):=⟨_,rfl⟩;rw[←hM] at hb1 hoo aEW hil;have aAw:ws[i]∈ws:=Kh _;have aBV:ws[i].fit P=false→cT P ws=((0,[]),1):=fun h=>by
   unfold cT;rw[if_pos (.inr (.inr ⟨_,aAw,h⟩))]
  obtain⟨w,hwi⟩:∃w,w=ws[i]:=⟨_,rfl⟩;rw[←hwi] at hg htk aEW aBV;have aJK:w.fit P=(decide (0≤w.f)&&(decide (w.f<P)&&(decide (0≤w.t)&&(decide (w.t<P)&&w.p.ok)))):=rfl;rcases qR w.f 0 with f1|f1
  ·have hd1:decide (w.f<0)=true:=decide_eq_true f1;have hn:cT P ws=((0,[]),1):=aBV (by rw[aJK,decide_eq_false or];rfl);refine aue (ee9 hb0 hb1 hc hg hlt l1 l2 aDI hd1) ?_;rw[←hQ];refine au ?_;refine hex 1 _ _ _ hn ?_ ?_ ?_ ?_
   ·exact(by(try dsimp only);repeat (first|exact hsm|refine aW ?_ or _|refine aX ?_ or))
   ·simp only[go_sem,reduceIte,jA,jB,jC,jD,reduceCtorEq,jE,jF]
   ·rfl
   rfl
  rcases qR w.t 0 with f2|f2
  ·have hd1:decide (w.f<0)=false:=decide_eq_false or;have hd2:decide (w.t<0)=true:=decide_eq_true f2;have hn:cT P ws=((0,[]),1):=aBV (by rw[aJK,decide_eq_false (show¬(0:Int)≤w.t by omega)];simp);refine aue (xp hb0 hb1 hc hg hlt l1 l2 aDI hd1 hd2) ?_;rw[←hQ];refine au ?_;refine hex 1 _ _ _ hn ?_ ?_ ?_ ?_
   ·exact(by(try dsimp only);repeat (first|exact hsm|refine aW ?_ or _|refine aX ?_ or))
   ·simp only[go_sem,reduceIte,jA,jB,jC,jD,reduceCtorEq,jE,jF]
   ·rfl
   rfl
  rcases qR w.f P with f3|f3;rotate_left
  ·have hd1:decide (w.f<0)=false:=decide_eq_false or;have hd2:decide (w.t<0)=false:=decide_eq_false or;have hd3:decide (w.f≥P)=true:=decide_eq_true f3;have hn:cT P ws=((0,[]),1):=aBV (by rw[aJK,decide_eq_false (show¬w.f<P by omega)];simp);refine aue (i5 hb0 hb1 hc hg hlt l1 l2 aDI hd1 hd2 hd3) ?_;rw[←hQ];refine au ?_;refine hex 1 _ _ _ hn ?_ ?_ ?_ ?_
   ·exact(by(try dsimp only);repeat (first|exact hsm|refine aW ?_ or _|refine aX ?_ or))
   ·simp only[go_sem,reduceIte,jA,jB,jC,jD,reduceCtorEq,jE,jF]
   ·rfl
   rfl
  rcases qR w.t P with f4|f4;rotate_left
  ·have hd1:decide (w.f<0)=false:=decide_eq_false or;have hd2:decide (w.t<0)=false:=decide_eq_false or;have hd3:decide (w.f≥P)=false:=decide_eq_false or;have hd4:decide (w.t≥P)=true:=decide_eq_true f4;have hn:cT P ws=((0,[]),1):=aBV (by rw[aJK,decide_eq_false (show¬w.t<P by omega)];simp);refine aue (F7 hb0 hb1 hc hg hlt l1 l2 aDI hd1 hd2 hd3 hd4) ?_;rw[←hQ];refine au ?_;refine hex 1 _ _ _ hn ?_ ?_ ?_ ?_
   ·exact(by(try dsimp only);repeat (first|exact hsm|refine aW ?_ or _|refine aX ?_ or))
   ·simp only[go_sem,reduceIte,jA,jB,jC,jD,reduceCtorEq,jE,jF]
   ·rfl
   rfl
  have hd1:decide (w.f<0)=false:=decide_eq_false or;have hd2:decide (w.t<0)=false:=decide_eq_false or;have hd3:decide (w.f≥P)=false:=decide_eq_false or;have hd4:decide (w.t≥P)=false:=decide_eq_false or;cases hok:w.p.ok with
  |false=>
   have hn:cT P ws=((0,[]),1):=aBV (by rw[aJK,hok];simp);have C1:=fun h=>kB w.p h;refine aue (EL hb0 hb1 hc hg hlt l1 l2 aDI hd1 hd2 hd3 hd4 hok) ?_;rw[←hQ];refine au ?_;refine hex 1 _ _ _ hn ?_ ?_ ?_ ?_
   ·exact(by(try dsimp only);repeat (first|exact hsm|refine aW ?_ or _|refine aX ?_ or))
   ·simp only[go_sem,reduceIte,jA,jB,jC,jD,reduceCtorEq,jE,jF]
   ·rfl
   rfl
  |true=>
   have aAG:w.fit P=true:=by rw[aJK,hok,decide_eq_true f1,decide_eq_true f2,decide_eq_true f3,decide_eq_true f4];rfl
   have aHH:∀v∈ws.take (i+1),v.fit P=true:=fun v hv=>by
    rw[htk] at hv;rcases Ki.1 hv with hv|hv
    ·exact aCJ v hv
    simp at hv;rw[hv];exact aAG
   have hwe:Wy.v w= .agg [.int .i64 w.f, .int .i64 w.t, .bool w.p.n, .int .i64 w.p.a]:=rfl;have C1:=fun h=>kB w.p h;refine aue (EL hb0 hb1 hc hg hlt l1 l2 aDI hd1 hd2 hd3 hd4 hok) ?_;refine bN ((BI oo M w hil _ _).mono ?_);rintro v2 hq nx2 aBs (⟨rfl,rfl,hne⟩|⟨id,hid,aWf,rfl,rfl⟩)
   ·dsimp only at aBs;unfold dM;refine Zn ?_;refine aue (ee6 hb0 hb1 hw l1 l2 hmf) ?_;rw[←hQ];refine aD (i+1,oo) Zw ⟨hlt,or,(by(try dsimp only);repeat (first|exact aI.up hdm or|refine aI.aAh ?_ or _|refine aI.del ?_|refine aI.aAb ?_ _)),?_,?_,(by(try dsimp only);repeat (first|exact hsm|refine aW ?_ or _|refine aX ?_ or)), .inr ⟨?_,?_⟩,aHH⟩ ?_
    ·simp only[hb0,l1,go_sem,reduceIte,jA,jB,jC,jD,reduceCtorEq,jE,jF]
    ·simp only[aEW,go_sem,reduceIte,jA,jB,jC,jD,reduceCtorEq,jE,jF]
    ·dsimp only;rw[aEW];exact Bk M w
    ·rcases hoo with⟨h,_⟩|⟨_,h⟩
     ·exact absurd h hne
     exact h
    simp only[WkL,aB,jH,jI,jJ,wys,go_sem,reduceIte,jA,jB,jC,jD,reduceCtorEq,jE,jF]
   dsimp only at aBs;unfold dM;refine Zn ?_;dsimp only at hid;have aZK:id<nx2:=aWf;have l3:nx<id:=or;have l4:nx+1<id:=or;refine aue (ee8 hb0 hb1 hw l1 l2 l3 l4 hmf) ?_;rw[←hQ];refine aD (i+1, .tok id) Zw ⟨hlt,or,(by(try dsimp only);repeat (first|exact aI.up hdm or|refine aI.aAh ?_ or _|refine aI.del ?_|refine aI.aAb ?_ _)),?_,?_,(by(try dsimp only);repeat (first|exact hsm|refine aW ?_ or _|refine aX ?_ or)), .inr ⟨?_,fun e=>by cases e⟩,aHH⟩ ?_
   ·simp only[hb0,l1,l3,go_sem,reduceIte,jA,jB,jC,jD,reduceCtorEq,jE,jF]
   ·simp only[aEW,go_sem,reduceIte,jA,jB,jC,jD,reduceCtorEq,jE,jF]
   ·dsimp only;rw[aEW];exact Bk M w
   simp only[WkL,aB,jH,jI,jJ,wys,go_sem,reduceIte,jA,jB,jC,jD,reduceCtorEq,jE,jF]
 have hc:decide ((i:Int)<(ws.length:Int))=false:=decide_eq_false or;have htw:ws.take i=ws:=Ke or;rw[htw] at hb1 hoo aCJ;rw[←nR] at hb1 hoo;refine aue hc ?_;rw[←hQ];refine aue hc ?_;obtain⟨n,rfl⟩:∃n:Nat,P=n:=⟨P.toNat,or⟩;obtain⟨k1,k2⟩:=iv (P:=(n:Int)) (ws:=cC ws) (fun w hw=>aCJ w ((nP ws w).1 hw));rw[jG] at k2;have hcl:=nQ ws;obtain⟨l,hll⟩:∃l,l=(cC ws).map Wy.we:=⟨_,rfl⟩;rw[←hll] at k1 k2;have hln:l.length≤1000:=by rw[hll,jK];omega
 have aVQ:wys oo (cC ws)=wes oo l:=by rw[k1];simp only[wys,wes,y0]
 rw[aVQ] at hb1;have hno:¬((n:Int)<0∨200<(n:Int)∨∃w∈ws,w.fit n=false):=by
  rintro(h|h|⟨w,h1,h2⟩)
  ·omega
  ·omega
  rw[aCJ w h1] at h2;cases h2
 have had:fD (cC ws)=aAL l:=by rw[k1,CC]
 have e2:1048576<aAL l→cT n ws=((0,[]),1):=fun h=>by
  unfold cT;rw[if_neg hno,had,if_pos h]
 have e3:¬1048576<aAL l→(mf l∨sW l)→cT n ws=((0,[]),9):=fun h h2=>by
  unfold cT;rw[if_neg hno,had,if_neg h,←hll,if_pos h2]
 have e4:¬1048576<aAL l→¬(mf l∨sW l)→cT n ws=(((n:Int),cC ws),0):=fun h h2=>by
  unfold cT;rw[if_neg hno,had,if_neg h,←hll,if_neg h2]
 have aJE:∀k,k≤l.length→0≤aAL (l.take k)∧aAL (l.take k)≤1048576*k:=by
  intro k hk;induction k with
  |zero=>simp[aAL]
  |succ k ih=>
   have ih:=ih or;have:=(k2 l[k] (Kh _)).2.2;simp only[Pa.ok,Bool.and_eq_true,decide_eq_true_eq] at this;rw[Kc or];simp only[aAL,Ko,Ks,Kj,Kp,Kt,Km] at ih⊢;omega
 clear hQ hi hge htw aVQ had hno aCJ l1 l2
 refine aO (fun k:Nat=>aB 138 0 [(0, .int .i64 n),(4, .ptr nx (.agg 2) 0 0),(6, .ptr (nx+1) (.agg 2) 0 0),(9, .int .i64 (aAL (l.take k))),(10, .int .i64 k)])
  (fun k hp nx1=>k≤l.length∧nx+2≤nx1∧aI hp nx1∧hp nx=some (.arr (.agg 2) [.agg [.int .i64 0, .sl (.agg 4) .nil []]])∧hp (nx+1)=some (.arr (.agg 2) [.agg [.int .i64 n,wes oo l]])∧Kb nx h' hp)
  (fun k=>l.length-k) 0 ⟨Kg _,hnx,hdm,hb0,hb1,hsm⟩ ?_ ?_
 ·simp only[WkL,aB,jH,jI,jJ,wes,aAL,List.take_zero,Kj,Km,go_sem,reduceIte,jA,jB,jC,jD,reduceCtorEq,jE,jF]
 clear hnx hdm hb0 hb1 hsm;rintro k hp nx1 ⟨hk,hnx,hdm,hb0,hb1,hsm⟩;generalize hQ:bH _ _ _ _ _=Q0;simp only[aB,go_sem,reduceIte,jA,jB,jC,jD,reduceCtorEq,jE,jF];have l1:nx<nx1:=or;have l2:nx+1<nx1:=or;rcases Kf k l.length with hlt|hge
 ·have hc:decide ((k:Int)<(l.length:Int))=true:=decide_eq_true or;have hg:(l.map We.v).getD k (.tup [])= .agg [.int .i64 l[k].f, .int .i64 l[k].t, .bool l[k].p.n, .int .i64 l[k].p.a]:=bO We.v l k hlt;have hs1:=aJE k hk;have hs2:=aJE (k+1) or;have hw:IntKind.i64.wrap ((k:Int)+1)=((k+1:Nat):Int):=by rw[bB]<;>omega
  have hsn:aAL (l.take (k+1))=aAL (l.take k)+l[k].p.a:=by
   rw[Kc hlt];simp only[aAL,Ko,Ks,Kj,Kp,Kt,Km];omega
  have hw2:IntKind.i64.wrap (aAL (l.take k)+l[k].p.a)=aAL (l.take (k+1)):=by rw[hsn,bB]<;>omega
  refine aue (ee8 hb1 hc hg hw hw2 hlt l1 l2) ?_;rw[←hQ];refine aD (k+1) or ⟨hlt,hnx,hdm,hb0,hb1,hsm⟩ ?_;simp only[WkL,aB,jH,jI,jJ,wes,go_sem,reduceIte,jA,jB,jC,jD,reduceCtorEq,jE,jF]
 have hc:decide ((k:Int)<(l.length:Int))=false:=decide_eq_false or;have htl:l.take k=l:=Ke or;refine aue (ee5 hb1 hc htl l1 l2) ?_;rw[←hQ];rcases qR 1048576 (aAL l) with aOq|aWE
 ·have hcb:decide (aAL l>1048576)=true:=decide_eq_true aOq;refine aue (ee6 hb0 hcb htl aDI l1 l2) ?_;refine hex 1 _ _ _ (e2 aOq) ?_ ?_ ?_ ?_
  ·exact(by(try dsimp only);repeat (first|exact hsm|refine aW ?_ or _|refine aX ?_ or))
  ·simp only[go_sem,reduceIte,jA,jB,jC,jD,reduceCtorEq,jE,jF]
  ·rfl
  rfl
 have hcb:decide (aAL l>1048576)=false:=decide_eq_false or;have hnb:¬1048576<aAL l:=or;obtain⟨J1,hJ1⟩:∃J,J=(fS n (lD n (eE true l))).map (lst .leaf):=⟨_,rfl⟩;obtain⟨J2,hJ2⟩:∃J,J=(fS n (lD n (eE false l))).map (lst .leaf):=⟨_,rfl⟩;have c1:∀h,aY Tryz.prog 115 [.agg [.int .i64 n,wes oo l], .bool true] h (.sl .leaf .free J1):=fun h=>by rw[hJ1];exact bm oo n l true k2 or hln h
 have c2:∀h,aY Tryz.prog 115 [.agg [.int .i64 n,wes oo l], .bool false] h (.sl .leaf .free J2):=fun h=>by rw[hJ2];exact bm oo n l false k2 or hln h
 have g1:∀i,i<n→J1.getD i (.tup [])= .sl .leaf .free (lD n (eE true l) i):=fun i hi=>by rw[hJ1];exact Bi hi
 have g2:∀i,i<n→J2.getD i (.tup [])= .sl .leaf .free (lD n (eE false l) i):=fun i hi=>by rw[hJ2];exact Bi hi
 have n1:J1.length=n:=by rw[hJ1];exact pm _ _ _
 have n2:J2.length=n:=by rw[hJ2];exact pm _ _ _
 clear hJ1 hJ2;have aVc:=aWV oo l;have D1:=fun h=>c1 h;have D2:=fun h=>c2 h;refine aue (ee6 hb1 hcb htl aVc l1 l2) ?_;clear hQ hk hge hc htl
 refine aO (fun k:Nat=>aB 138 0 [(0, .int .i64 n),(4, .ptr nx (.agg 2) 0 0),(6, .ptr (nx+1) (.agg 2) 0 0),(11, .sl .leaf .free J1),(12, .sl .leaf .free J2),(13, .int .i64 k)])
  (fun k hp nx1=>k≤n∧nx+2≤nx1∧aI hp nx1∧hp nx=some (.arr (.agg 2) [.agg [.int .i64 0, .sl (.agg 4) .nil []]])∧hp (nx+1)=some (.arr (.agg 2) [.agg [.int .i64 n,wes oo l]])∧Kb nx h' hp∧∀x,x<k→eE true l x x=false)
  (fun k=>n-k) 0 ⟨Kg _,Zw,(by(try dsimp only);repeat (first|exact aI.up hdm or|refine aI.aAh ?_ or _|refine aI.del ?_|refine aI.aAb ?_ _)),hb0,hb1,hsm,fun x hx=>absurd hx or⟩ ?_ ?_
 ·simp only[WkL,aB,jH,jI,jJ,wes,go_sem,reduceIte,jA,jB,jC,jD,reduceCtorEq,jE,jF]
 clear hnx hdm hb0 hb1 hsm l1 l2;rintro x hp nx1 ⟨hx,hnx,hdm,hb0,hb1,hsm,hid⟩;generalize hQ:bH _ _ _ _ _=Q0;simp only[aB,go_sem,reduceIte,jA,jB,jC,jD,reduceCtorEq,jE,jF];have l1:nx<nx1:=or;have l2:nx+1<nx1:=or;rcases Kf x n with hxn|hge
 ·have hc:decide ((x:Int)<(n:Int))=true:=decide_eq_true or;have hg:=g1 x hxn;have hr:=pG (eE true l) x hxn;have hrl:=lV n (eE true l) x;have hw:IntKind.i64.wrap ((x:Int)+1)=((x+1:Nat):Int):=by rw[bB]<;>omega
  cases hb:eE true l x x with
  |true=>
   rw[hb] at hr;have aOh:mf l:=by
    have:=(pP true l x x).1 hb;rw[i6] at this;exact⟨x,this⟩
   refine aue (xp hb0 hc hg hr hrl n1 hxn aDI l1 l2) ?_;rw[←hQ];refine au ?_;refine hex 9 _ _ _ (e3 hnb (.inl aOh)) ?_ ?_ ?_ ?_
   ·exact(by(try dsimp only);repeat (first|exact hsm|refine aW ?_ or _|refine aX ?_ or))
   ·simp only[go_sem,reduceIte,jA,jB,jC,jD,reduceCtorEq,jE,jF]
   ·rfl
   rfl
  |false=>
   rw[hb] at hr;refine aue (i5 hb0 hc hg hr hrl hw n1 hxn aDI l1 l2) ?_;rw[←hQ];refine aD (x+1) or ⟨hxn,hnx,hdm,hb0,hb1,hsm,fun y hy=>?_⟩ ?_
   ·rcases Kf y x with h|h
    ·exact hid y h
    rw[show y=x by omega];exact hb
   simp only[WkL,aB,jH,jI,jJ,wes,go_sem,reduceIte,jA,jB,jC,jD,reduceCtorEq,jE,jF]
 have hc:decide ((x:Int)<(n:Int))=false:=decide_eq_false or;have hni:¬mf l:=by
  rintro⟨y,hy⟩;have hyn:y<n:=by
   obtain⟨c,hc,_⟩:=hy.last;exact(E1 k2 _ hc).2
  have h1:=hid y or;have h2:eE true l y y=true:=by rw[pP,i6];exact hy
  rw[h2] at h1;cases h1
 refine aue hc ?_;rw[←hQ];refine aue hc ?_;clear hQ hx hge hc hid
 refine aO (fun k:Nat=>aB 138 0 [(4, .ptr nx (.agg 2) 0 0),(6, .ptr (nx+1) (.agg 2) 0 0),(12, .sl .leaf .free J2),(14, .int .i64 k)])
  (fun k hp nx1=>k≤l.length∧nx+2≤nx1∧aI hp nx1∧hp nx=some (.arr (.agg 2) [.agg [.int .i64 0, .sl (.agg 4) .nil []]])∧hp (nx+1)=some (.arr (.agg 2) [.agg [.int .i64 n,wes oo l]])∧Kb nx h' hp∧∀w∈l.take k,w.p.n=true→¬(w.t=w.f∨fL (wJ l) w.t w.f))
  (fun k=>l.length-k) 0 ⟨Kg _,hnx,hdm,hb0,hb1,hsm,fun w hw=>by simp at hw⟩ ?_ ?_
 ·simp only[WkL,aB,jH,jI,jJ,wes,go_sem,reduceIte,jA,jB,jC,jD,reduceCtorEq,jE,jF]
 clear hnx hdm hb0 hb1 hsm l1 l2;rintro k hp nx1 ⟨hk,hnx,hdm,hb0,hb1,hsm,htu⟩;generalize hQ:bH _ _ _ _ _=Q0;simp only[aB,go_sem,reduceIte,jA,jB,jC,jD,reduceCtorEq,jE,jF];have l1:nx<nx1:=or;have l2:nx+1<nx1:=or;rcases Kf k l.length with hlt|hge
 ·have hc:decide ((k:Int)<(l.length:Int))=true:=decide_eq_true or;have hw:IntKind.i64.wrap ((k:Int)+1)=((k+1:Nat):Int):=by rw[bB]<;>omega
  have htk:l.take (k+1)=l.take k++[l[k]]:=Kc hlt;have hwf:=k2 l[k] (Kh _);have aAw:l[k]∈l:=Kh _;have hg:(l.map We.v).getD k (.tup [])= .agg [.int .i64 l[k].f, .int .i64 l[k].t, .bool l[k].p.n, .int .i64 l[k].p.a]:=bO We.v l k hlt;obtain⟨w,hwk⟩:∃w,w=l[k]:=⟨_,rfl⟩;rw[←hwk] at htk hwf aAw hg;have h1:=hwf.1;have h2:=hwf.2.1;have hgr:=g2 w.t h2;have hr:=pG (eE false l) w.t h1;have hrl:=lV n (eE false l) w.t;have step:(w.p.n=true→¬(w.t=w.f∨fL (wJ l) w.t w.f))→∀v∈l.take (k+1),v.p.n=true→¬(v.t=v.f∨fL (wJ l) v.t v.f):=fun h v hv=>by
   rw[htk] at hv;rcases Ki.1 hv with hv|hv
   ·exact htu v hv
   simp at hv;rw[hv];exact h
  cases hn:w.p.n with
  |false=>
   rw[hn] at hg;refine aue (ee9 hb0 hb1 hc hg hlt hw aDI l1 l2) ?_;rw[←hQ];refine aD (k+1) or ⟨hlt,or,(by(try dsimp only);repeat (first|exact aI.up hdm or|refine aI.aAh ?_ or _|refine aI.del ?_|refine aI.aAb ?_ _)),?_,?_,(by(try dsimp only);repeat (first|exact hsm|refine aW ?_ or _|refine aX ?_ or)),step (fun h=>by rw[hn] at h;cases h)⟩ ?_
   ·simp only[hb0,l1,go_sem,reduceIte,jA,jB,jC,jD,reduceCtorEq,jE,jF]
   ·simp only[hb1,l2,go_sem,reduceIte,jA,jB,jC,jD,reduceCtorEq,jE,jF]
   simp only[WkL,aB,jH,jI,jJ,wes,go_sem,reduceIte,jA,jB,jC,jD,reduceCtorEq,jE,jF]
  |true=>
   rw[hn] at hg;by_cases hft:w.f=w.t
   ·have hcf:((w.f:Int)==(w.t:Int))=true:=by simp[hft]
    have htn:sW l:=⟨w,aAw,hn, .inl hft.symm⟩;refine aue (ee9 hb0 hb1 hc hg hlt hcf aDI l1 l2) ?_;rw[←hQ];refine au ?_;refine hex 9 _ _ _ (e3 hnb (.inr htn)) ?_ ?_ ?_ ?_
    ·exact(by(try dsimp only);repeat (first|exact hsm|refine aW ?_ or _|refine aX ?_ or))
    ·simp only[go_sem,reduceIte,jA,jB,jC,jD,reduceCtorEq,jE,jF]
    ·rfl
    rfl
   have hcf:((w.f:Int)==(w.t:Int))=false:=by simp;omega
   cases hb:eE false l w.t w.f with
   |true=>
    rw[hb] at hr;have htn:sW l:=by
     have:=(pP false l w.t w.f).1 hb;rw[br] at this;exact⟨w,aAw,hn, .inr this⟩
    refine aue (Gf hb0 hb1 hc hg hlt hcf hgr hr hrl n2 h1 h2 aDI l1 l2) ?_;rw[←hQ];refine au ?_;refine hex 9 _ _ _ (e3 hnb (.inr htn)) ?_ ?_ ?_ ?_
    ·exact(by(try dsimp only);repeat (first|exact hsm|refine aW ?_ or _|refine aX ?_ or))
    ·simp only[go_sem,reduceIte,jA,jB,jC,jD,reduceCtorEq,jE,jF]
    ·rfl
    rfl
   |false=>
    rw[hb] at hr;have hnt:¬(w.t=w.f∨fL (wJ l) w.t w.f):=by
     rintro(h|h)
     ·exact hft h.symm
     have:eE false l w.t w.f=true:=by rw[pP,br];exact h
     rw[this] at hb;cases hb
    refine aue (EK hb0 hb1 hc hg hlt hcf hgr hr hrl hw n2 h1 h2 aDI l1 l2) ?_;rw[←hQ];refine aD (k+1) or ⟨hlt,or,(by(try dsimp only);repeat (first|exact aI.up hdm or|refine aI.aAh ?_ or _|refine aI.del ?_|refine aI.aAb ?_ _)),?_,?_,(by(try dsimp only);repeat (first|exact hsm|refine aW ?_ or _|refine aX ?_ or)),step (fun _=>hnt)⟩ ?_
    ·simp only[hb0,l1,go_sem,reduceIte,jA,jB,jC,jD,reduceCtorEq,jE,jF]
    ·simp only[hb1,l2,go_sem,reduceIte,jA,jB,jC,jD,reduceCtorEq,jE,jF]
    simp only[WkL,aB,jH,jI,jJ,wes,go_sem,reduceIte,jA,jB,jC,jD,reduceCtorEq,jE,jF]
 have hc:decide ((k:Int)<(l.length:Int))=false:=decide_eq_false or;have htl:l.take k=l:=Ke or;rw[htl] at htu;have hnt:¬sW l:=fun⟨w,h1,h2,h3⟩=>htu w h1 h2 h3;have aCG:=e4 hnb (fun h=>h.elim hni hnt);refine aue (ee4 hb1 hc l1 l2) ?_;rw[←hQ];refine aue (ee6 hb0 hb1 aVc aDI l1 l2) ?_;refine cN (by simp only[go_sem,reduceIte,jA,jB,jC,jD,reduceCtorEq,jE,jF]) h' ((show Kb nx h' _ from(by(try dsimp only);repeat (first|exact hsm|refine aW ?_ or _|refine aX ?_ or))).le hd (Ka _)) ⟨?_,Ka _⟩;refine Zn ?_;rw[aCG];have hwv:l.map We.v=(cC ws).map Wy.v:=by rw[k1,y0]
 have aOI:(wes oo l:V)=wys oo (cC ws):=by simp only[wes,wys,hwv]
 rw[aOI];exact Ak hoo
set_option maxRecDepth 100000 in
theorem fM(o:Own)(P:Int)(ws:List Wy)(hl:ws.length≤1000)(h:Hp):aY Tryz.prog 49 [mps o P ws] h (.bool (gI P ws)):=by
 refine aR (fun L=>trivial) fun h' nx hh=>aF L.aYa fun hd=>?_;have hmf:(mps o P ws).fits (.agg 2)=true:=by simp[mps,V.fits,V.aAD,wys]
 obtain⟨Q,hQ⟩:∃Q,Q=(cT P ws).1.1:=⟨_,rfl⟩;obtain⟨M,hM⟩:∃M,M=(cT P ws).1.2:=⟨_,rfl⟩;obtain⟨c,hcd⟩:∃c,c=(cT P ws).2:=⟨_,rfl⟩;have hr:gI P ws=decide (c=0∧M=ws):=by rw[hcd,hM];rfl
 obtain⟨o2,ho2⟩:=v6 Q M;have hof:∀h,aY Tryz.prog 80 [.int .i64 P,wys o ws] h (.tup [mps o2 Q M, .int .i64 c]):=fun h=>by rw[←ho2,hQ,hM,hcd];exact zx o P ws hl h
 have aJl:(mps o2 Q M).fits (.agg 2)=true:=by simp[mps,V.fits,V.aAD,wys]
 clear hQ hM hcd ho2;rw[hr];simp only[jL,jM,jA,jB,jN,jO,jP,jQ,V.undef];by_cases hc0:c=0;rotate_left
 ·have h1:(c != 0)=true:=by simpa using hc0
  have C1:=fun h=>hof h;refine aue (ee3 hmf aJl h1) ?_;refine aG h' (by repeat (first|exact Ka _|refine aJ hd ?_ or _|refine aL hd ?_ or)) ⟨?_,rfl⟩;simp only[hc0,go_sem,reduceIte,jA,jB,jC,jD,reduceCtorEq,jE,jF]
 have h1:(c != 0)=false:=by simpa using hc0
 by_cases hab:M.length=ws.length;rotate_left
 ·have hc:((M.length:Int) != (ws.length:Int))=true:=by simp;omega
  have C1:=fun h=>hof h;refine aue (ee4 hmf aJl h1 hc) ?_;refine aG h' (by repeat (first|exact Ka _|refine aJ hd ?_ or _|refine aL hd ?_ or)) ⟨?_,rfl⟩;have:M≠ws:=by rintro rfl;exact hab rfl
  simp only[this,go_sem,reduceIte,jA,jB,jC,jD,reduceCtorEq,jE,jF]
 have hc:((M.length:Int) != (ws.length:Int))=false:=by simp;omega
 have C1:=fun h=>hof h;refine aue (ee4 hmf aJl h1 hc) ?_
 refine aO (fun i:Nat=>aB 43 0 [(1, .ptr nx (.agg 2) 0 0),(3, .ptr (nx+1) (.agg 2) 0 0),(5, .int .i64 i)])
  (fun i hp nx1=>i≤M.length∧hp nx=some (.arr (.agg 2) [mps o P ws])∧hp (nx+1)=some (.arr (.agg 2) [mps o2 Q M])∧Kb nx h' hp∧nx+2≤nx1∧M.take i=ws.take i) (fun i=>M.length-i) 0 ⟨Kg _,by simp only[go_sem,reduceIte,jA,jB,jC,jD,reduceCtorEq,jE,jF],by simp only[go_sem,reduceIte,jA,jB,jC,jD,reduceCtorEq,jE,jF],(by(try dsimp only);repeat (first|exact Hp.same.aBG|refine aW ?_ or _|refine aX ?_ or)),ZN,rfl⟩ ?_ ?_
 ·simp only[WkL,aB,jH,jI,jJ,wys,go_sem,reduceIte,jA,jB,jC,jD,reduceCtorEq,jE,jF]
 rintro i hp nx1 ⟨hi,hb0,hb1,hsm,hnx,hno⟩;generalize hQ:bH _ _ _ _ _=Q0;simp only[aB,go_sem,reduceIte,jA,jB,jC,jD,reduceCtorEq,jE,jF];rcases Kf i M.length with hlt|hge
 ·have hc:decide ((i:Int)<(ws.length:Int))=true:=decide_eq_true or;have aII:i<ws.length:=or;have hg:=bO Wy.v M i hlt;have hg':=bO Wy.v ws i aII;have hw:IntKind.i64.wrap ((i:Int)+1)=((i+1:Nat):Int):=by rw[bB]<;>omega
  by_cases he:M[i]=ws[i]
  ·have hd1:decide (M[i]=ws[i])=true:=decide_eq_true he;refine aue (i5 hb0 hb1 hc hg hg' hlt aII hw yU hd1 Wy.aAC) ?_;rw[←hQ];refine aD (i+1) or ⟨hlt,hb0,hb1,hsm,or,?_⟩ ?_
   ·rw[Kc hlt,Kc aII,hno,he]
   simp only[WkL,aB,jH,jI,jJ,wys,go_sem,reduceIte,jA,jB,jC,jD,reduceCtorEq,jE,jF]
  have hd1:decide (M[i]=ws[i])=false:=decide_eq_false he;refine aue (i5 hb0 hb1 hc hg hg' hlt aII hw yU hd1 Wy.aAC) ?_;rw[←hQ];refine au ?_;refine aG h' (hsm.le hd (Ka _)) ⟨?_,rfl⟩;have:M≠ws:=by rintro rfl;exact he rfl
  simp only[this,go_sem,reduceIte,jA,jB,jC,jD,reduceCtorEq,jE,jF]
 have hc:decide ((i:Int)<(ws.length:Int))=false:=decide_eq_false or;refine aue (ee3 hb0 hb1 hc) ?_;rw[←hQ];refine au ?_;refine aG h' (hsm.le hd (Ka _)) ⟨?_,rfl⟩;have:M=ws:=by
  rw[Ke or,Ke or] at hno;exact hno
 simp only[hc0,this,go_sem,reduceIte,jA,jB,jC,jD,reduceCtorEq,jE,jF]
end Go.Proofs.YtecepaehmojpgaaGreat
