/-
Texts of this proof,one behind the other. No conditions.
-/
import Derived.Test.YtecepaehmojpgaaGreatNd
import Derived.Test.YtecepaehmojpgaaGreatNh
open Go.Proofs.YtecepaehmojpgaaGreat.Hp renaming le_refl→Ka,same→Kb,set→Kd
open List renaming take_succ_eq_append_getElem→Kc,take_of_length_le→Ke,getElem_mem→Kh,mem_append→Ki,map_nil→Kj,mem_append_left→Kk,sum_nil→Km,map_append→Ko,sum_append→Kp,replicate→Kq,map_cons→Ks,sum_cons→Kt
open Nat renaming lt_or_ge→Kf,zero_le→Kg,le_trans→Ku
open Nat renaming reduceAdd→jA,reduceSub→jB,reduceLT→jC,reduceLeDiff→jD,reduceEqDiff→jE
open Int renaming reduceToNat→jF,toNat_natCast→jG,natCast_add→jH,natCast_one→jI,natCast_zero→jJ
open List renaming length_map→jK,length_cons→jL,length_nil→jM,replicate_succ→jN,replicate_zero→jO,cons_append→jP,nil_append→jQ
set_option linter.unusedSimpArgs false
set_option linter.unusedVariables false
set_option linter.unusedSectionVars false
set_option maxHeartbeats 8000000
namespace Go.Proofs.YtecepaehmojpgaaGreat
open Go.RowKit Go.Sort
attribute [local irreducible] IntKind.wrap
def kQ(n m:Nat)(ν:Nat→Nat):List V:=fL n fun i=>if i<m then .rs (ν i) .leaf 0 n else .sl .leaf .nil []
def kW(n:Nat)(T:Nat→Nat→Bool)(i:Nat):List V:=fL n fun j=> .bool (T i j)
theorem qA(n m:Nat)(ν:Nat→Nat):(kQ n m ν).length=n:=fA _ _
theorem lG(n:Nat)(T:Nat→Nat→Bool)(i:Nat):(kW n T i).length=n:=fA _ _
theorem qB{n m i:Nat}(ν:Nat→Nat)(h:i<n):(kQ n m ν).getD i (.tup [])=if i<m then .rs (ν i) .leaf 0 n else .sl .leaf .nil []:=xO _ h
theorem oE{n j:Nat}(T:Nat→Nat→Bool)(i:Nat)(h:j<n):(kW n T i).getD j (.tup [])= .bool (T i j):=xO _ h
structure vF(h' hp:Hp)(nx nx1 n m:Nat)(mv:V)(T:Nat→Nat→Bool)(ν:Nat→Nat):Prop where
 box:hp nx=some (.arr (.agg 2) [mv])
 tab:hp (nx+1)=some (.arr .leaf (kQ n m ν))
 row:∀i,i<m→i<n→hp (ν i)=some (.arr .leaf (kW n T i))∧nx+2≤ν i∧ν i<nx1
 apart:∀i j,i<m→j<m→i<n→j<n→i≠j→ν i≠ν j
 dom:aK hp nx1
 ge:nx+2≤nx1
 same:Kb nx h' hp
theorem vF.new{h' hp:Hp}{nx nx1 n m:Nat}{mv:V}{ν:Nat→Nat}(F:vF h' hp nx nx1 n m mv (fun _ _=>false) ν)(hm:m<n):
 vF h' ((hp.set nx1 (.arr .leaf (Kq n (.bool false)))).set (nx+1) (.arr .leaf ((kQ n m ν).set m (.rs nx1 .leaf 0 n)))) nx (nx1+1) n (m+1) mv (fun _ _=>false) (fun k=>if k=m then nx1 else ν k):=by
 have hge:=F.ge;have hs:∀y,y≠nx1→y≠nx+1→∀b c,((hp.set nx1 b).set (nx+1) c) y=hp y:=fun y h1 h2 b c=>by unfold Kd;rw[if_neg h2,if_neg h1]
 refine⟨by rw[hs _ or or];exact F.box,?_,fun i hi hin=>?_,fun i j hi hj hin hjn hij=>?_,?_,or,fun y hy=>?_⟩
 ·have:(kQ n m ν).set m (.rs nx1 .leaf 0 n)=kQ n (m+1) (fun k=>if k=m then nx1 else ν k):=by
   unfold kQ;rw[qO];refine jW fun i hi=>?_;by_cases e:i=m
   ·simp[e]
   by_cases e2:i<m
   ·have:i<m+1:=or;simp[e,e2,this]
   have:¬i<m+1:=or;simp[e,e2,this]
  rw[this];unfold Kd;rw[if_pos rfl]
 ·by_cases e:i=m
  ·simp only[e,if_true];refine⟨?_,or,or⟩;unfold Kd;rw[if_neg or,if_pos rfl,mG];rfl
  simp only[e,if_false];obtain⟨a,b,c⟩:=F.row i or hin;exact⟨by rw[hs _ or or];exact a,b,or⟩
 ·by_cases e:i=m<;>by_cases e2:j=m
  ·omega
  ·simp only[e,e2,if_true,if_false];have:=(F.row j or hjn).2.2;omega
  ·simp only[e,e2,if_true,if_false];have:=(F.row i or hin).2.2;omega
  simp only[e,e2,if_false];exact F.apart i j or or hin hjn hij
 ·exact(F.dom.set or or _).aAh or _
 rw[hs _ or or];exact F.same y hy
theorem vF.put{h' hp:Hp}{nx nx1 n:Nat}{mv:V}{T:Nat→Nat→Bool}{ν:Nat→Nat}(F:vF h' hp nx nx1 n n mv T ν){i j:Nat}(hi:i<n)(hj:j<n)(b:Bool):
 vF h' (hp.set (ν i) (.arr .leaf ((kW n T i).set j (.bool b)))) nx nx1 n n mv (upd T i j b) ν:=by
 obtain⟨a1,a2,a3⟩:=F.row i hi hi;have hs:∀y,y≠ν i→∀c,(hp.set (ν i) c) y=hp y:=fun y h1 c=>by unfold Kd;rw[if_neg h1]
 refine⟨by rw[hs _ or];exact F.box,by rw[hs _ or];exact F.tab,fun x hx hxn=>?_,F.apart,F.dom.aAh a3 _,F.ge,fun y hy=>by rw[hs _ or];exact F.same y hy⟩;obtain⟨b1,b2,b3⟩:=F.row x hx hxn;refine⟨?_,b2,b3⟩;by_cases e:x=i
 ·subst e;unfold Kd;rw[if_pos rfl];unfold kW;rw[qO];congr 2;refine jW fun y hy=>?_;unfold upd;by_cases e:y=j
  ·simp[e]
  simp[e]
 rw[hs _ (F.apart x i hxn hi hxn hi e),b1];congr 2;unfold kW;refine jW fun y hy=>?_;unfold upd;rw[if_neg (fun h=>e h.1)]
theorem vF.up{h' hp:Hp}{nx nx1 nx2 n m:Nat}{mv:V}{T:Nat→Nat→Bool}{ν:Nat→Nat}(F:vF h' hp nx nx1 n m mv T ν)(h:nx1≤nx2):vF h' hp nx nx2 n m mv T ν:=
 ⟨F.box,F.tab,fun i hi hn=>⟨(F.row i hi hn).1,(F.row i hi hn).2.1,Nat.lt_of_lt_of_le (F.row i hi hn).2.2 h⟩,F.apart,F.dom.up h,Ku F.ge h,F.same⟩
def oY(idle:Bool)(l:List We)(i j:Nat):Prop:=∃w∈l,(idle=false∨w.p.a=0)∧w.f=i∧w.t=j
open Classical in
noncomputable def dX(idle:Bool)(l:List We)(i j:Nat):Bool:=decide (fF (oY idle l) i j)
open Classical in
theorem oL(idle:Bool)(l:List We)(i j:Nat):dX idle l i j=true↔fF (oY idle l) i j:=by unfold dX;exact decide_eq_true_iff
set_option maxRecDepth 100000 in
set_option maxHeartbeats 4000000 in
theorem rz(o:Own)(n:Nat)(l:List We)(idle:Bool)(aAH:xI n l)(hn:n≤200)(hl:l.length≤1000)(h':Hp)(nx:Nat):
 bD Tryz.prog 115 [.agg [.int .i64 n,wes o l], .bool idle] h' nx fun v h'' _=>∃O ν ls es,v= .rs O .leaf 0 ls.length∧nx≤O∧(∀i (hi:i<ls.length),ls[i]≠ []→nx≤ν i)∧yQ h'' O .leaf ν ls 0 es∧(∀x,x<nx→h'' x=h' x)∧ls=fL n (kW n (dX idle l)):=by
 refine aD L.aUz fun hd=>?_;have hmf:(V.agg [.int .i64 (n:Int),wes o l]).fits (.agg 2)=true:=by simp[V.fits,V.aAD]
 have aJI:∀b c,bU .leaf 0 (.bool b) (.bool c)= .bool c:=fun _ _=>rfl;have aTo:∀m,bU .leaf 0 (.sl .leaf .nil []) (.rs m .leaf 0 n)= .rs m .leaf 0 n:=fun _=>rfl;simp only[jL,jM,jA,jB,jN,jO,jP,jQ,V.undef];obtain⟨mv,hmv⟩:∃mv:V,mv= .agg [.int .i64 (n:Int),wes o l]:=⟨_,rfl⟩;refine aue hmf ?_;have F0:vF h' ((h'.set nx (.arr (.agg 2) [mv])).set (nx+1) (.arr .leaf (Kq n (.sl .leaf .nil [])))) nx (nx+2) n 0 mv (fun _ _=>false) (fun _=>0):=by
  refine⟨by simp only[go_sem,reduceIte,jA,jB,jC,jD,reduceCtorEq,jE,jF],?_,fun i hi=>absurd hi or,fun i j hi=>absurd hi or,(by(try dsimp only);repeat (first|exact aK.up hd or|refine aK.aAh ?_ or _|refine aK.del ?_|refine aK.aAb ?_ _)),Nat.le_refl _,(by(try dsimp only);repeat (first|exact Hp.same.aBI|refine aV ?_ or _|refine aW ?_ or))⟩;refine Zn ?_;rw[mG];rfl
 rw[hmv] at F0
 refine aT (fun q:Nat×(Nat→Nat)=>aB 111 0 [(1, .bool idle),(2, .ptr nx (.agg 2) 0 0),(5, .rs (nx+1) .leaf 0 n),(6, .int .i64 q.1)])
  (fun q hp nx1=>q.1≤n∧vF h' hp nx nx1 n q.1 mv (fun _ _=>false) q.2)
  (fun q=>n-q.1) (0,fun _=>0) ⟨Kg _,by rw[hmv];exact F0⟩ ?_ ?_
 ·simp only[WkL,aB,jH,jI,jJ,go_sem,reduceIte,jA,jB,jC,jD,reduceCtorEq,jE,jF]
 clear F0;rintro⟨i,ν⟩ hp nx1 ⟨hi,F⟩;generalize hQ:bO _ _ _ _ _=Q0;dsimp only at hi F;simp only[aB,go_sem,reduceIte,jA,jB,jC,jD,reduceCtorEq,jE,jF];have aAa:=F.box;rw[hmv] at aAa;have aBJ:=F.tab;have hge:=F.ge;have l1:nx<nx1:=or;have l2:nx+1<nx1:=or;have hlen:=qA n i ν;rcases Kf i n with hlt|aDf
 ·have hc:decide ((i:Int)<(n:Int))=true:=decide_eq_true or;have hw:IntKind.i64.wrap ((i:Int)+1)=((i+1:Nat):Int):=by rw[aY]<;>omega
  have hg:(kQ n i ν).getD i (.tup [])= .sl .leaf .nil []:=by rw[qB ν hlt,if_neg or]
  refine aue (ta aAa aBJ hc hw hg hlen hlt aTo l1 l2) ?_;rw[←hQ];refine aF (i+1,fun k=>if k=i then nx1 else ν k) Zw ⟨hlt,(F.new hlt).up or⟩ ?_;simp only[WkL,aB,jH,jI,jJ,go_sem,reduceIte,jA,jB,jC,jD,reduceCtorEq,jE,jF]
 have hc:decide ((i:Int)<(n:Int))=false:=decide_eq_false or;have hin:i=n:=or;subst hin;refine aue (ee2 aAa hc) ?_;rw[←hQ];refine aue hc ?_;clear aAa aBJ hge l1 l2 hlen aDf hc
 refine aT (fun q:Nat×(Nat→Nat→Bool)=>aB 111 0 [(1, .bool idle),(2, .ptr nx (.agg 2) 0 0),(5, .rs (nx+1) .leaf 0 i),(7, .int .i64 q.1)])
  (fun q hp nx1=>q.1≤l.length∧vF h' hp nx nx1 i i mv q.2 ν∧∀x y,x<i→y<i→(q.2 x y=true↔oY idle (l.take q.1) x y))
  (fun q=>l.length-q.1) (0,fun _ _=>false) ⟨Kg _,F,fun x y _ _=>by simp[oY]⟩ ?_ ?_
 ·simp only[WkL,aB,jH,jI,jJ,go_sem,reduceIte,jA,jB,jC,jD,reduceCtorEq,jE,jF]
 clear F;rintro⟨j,T⟩ hp nx1 ⟨hj,F,hT⟩;generalize hQ1:bO _ _ _ _ _=Q1;dsimp only at hj F hT;simp only[aB,go_sem,reduceIte,jA,jB,jC,jD,reduceCtorEq,jE,jF];have aAa:=F.box;rw[hmv] at aAa;have aBJ:=F.tab;have hge:=F.ge;have l1:nx<nx1:=or;have l2:nx+1<nx1:=or;have hlen:=qA i i ν;rcases Kf j l.length with hlt|aDf
 ·have hc:decide ((j:Int)<(l.length:Int))=true:=decide_eq_true or;have hw:IntKind.i64.wrap ((j:Int)+1)=((j+1:Nat):Int):=by rw[aY]<;>omega
  have hg:(l.map We.v).getD j (.tup [])= .agg [.int .i64 l[j].f, .int .i64 l[j].t, .bool l[j].p.n, .int .i64 l[j].p.a]:=bI We.v l j hlt;have hwf:=aAH l[j] (Kh _);have htk:l.take (j+1)=l.take j++[l[j]]:=Kc hlt;have aBK:=(F.row l[j].f hwf.1 hwf.1).1;have hrl:=lG i T l[j].f;have hgf:(kQ i i ν).getD l[j].f (.tup [])= .rs (ν l[j].f) .leaf 0 i:=by rw[qB ν hwf.1,if_pos hwf.1]
  have hgt:=oE T l[j].f hwf.2.1;have h1:=hwf.1;have h2:=hwf.2.1;have yes:(idle=false∨l[j].p.a=0)→∀x y,x<i→y<i→(upd T l[j].f l[j].t true x y=true↔oY idle (l.take (j+1)) x y):=fun hor x y hx hy=>by
   unfold upd;rw[htk];by_cases e:x=l[j].f∧y=l[j].t
   ·rw[if_pos e];exact⟨fun _=>⟨l[j],List.mem_append_right _ (List.mem_singleton.2 rfl),hor,e.1.symm,e.2.symm⟩,fun _=>rfl⟩
   rw[if_neg e,hT x y hx hy];constructor
   ·rintro⟨w,hw,q⟩;exact⟨w,Kk _ hw,q⟩
   rintro⟨w,hw,q⟩;rcases Ki.1 hw with hw|hw
   ·exact⟨w,hw,q⟩
   simp at hw;subst hw;exact absurd ⟨q.2.1.symm,q.2.2.symm⟩ e
  have no:¬(idle=false∨l[j].p.a=0)→∀x y,x<i→y<i→(T x y=true↔oY idle (l.take (j+1)) x y):=fun hor x y hx hy=>by
   rw[htk,hT x y hx hy];constructor
   ·rintro⟨w,hw,q⟩;exact⟨w,Kk _ hw,q⟩
   rintro⟨w,hw,q⟩;rcases Ki.1 hw with hw|hw
   ·exact⟨w,hw,q⟩
   simp at hw;subst hw;exact absurd q.1 hor
  by_cases hid:idle=false
  ·subst hid;refine aue (xg aAa aBJ hc hw hg hlen hlt aBK hrl hgf hgt h1 h2 aJI l1 l2) ?_;rw[←hQ1];refine aF (j+1,upd T l[j].f l[j].t true) Zw ⟨hlt,(F.put h1 h2 true).up or,yes (.inl rfl)⟩ ?_;simp only[WkL,aB,jH,jI,jJ,go_sem,reduceIte,jA,jB,jC,jD,reduceCtorEq,jE,jF]
  have aUF:idle=true:=by simpa using hid
  subst aUF;by_cases ha:l[j].p.a=0
  ·have hac:(l[j].p.a==0)=true:=by simp[ha]
   refine aue (Dz aAa aBJ hc hw hg hac hlen hlt aBK hrl hgf hgt h1 h2 aJI l1 l2) ?_;rw[←hQ1];refine aF (j+1,upd T l[j].f l[j].t true) Zw ⟨hlt,(F.put h1 h2 true).up or,yes (.inr ha)⟩ ?_;simp only[WkL,aB,jH,jI,jJ,go_sem,reduceIte,jA,jB,jC,jD,reduceCtorEq,jE,jF]
  have hac:(l[j].p.a==0)=false:=by simp[ha]
  refine aue (Dz aAa aBJ hc hw hg hac hlen hlt aBK hrl hgf hgt h1 h2 aJI l1 l2) ?_;rw[←hQ1];refine aF (j+1,T) Zw ⟨hlt,F,no (fun h=>h.elim (fun h=>by cases h) ha)⟩ ?_;simp only[WkL,aB,jH,jI,jJ,go_sem,reduceIte,jA,jB,jC,jD,reduceCtorEq,jE,jF]
 have hc:decide ((j:Int)<(l.length:Int))=false:=decide_eq_false or;have hjl:l.take j=l:=Ke or;rw[hjl] at hT;refine aue (ee4 aAa hc l1 l2) ?_;rw[←hQ1];refine aue hc ?_;have hE:∀a b,oY idle l a b→a<i∧b<i:=by
  rintro a b ⟨w,hw,_,rfl,rfl⟩;exact⟨(aAH w hw).1,(aAH w hw).2.1⟩
 clear aAa aBJ hge l1 l2 hlen aDf hc hj hjl
 refine aT (fun q:Nat×(Nat→Nat→Bool)=>aB 111 0 [(2, .ptr nx (.agg 2) 0 0),(5, .rs (nx+1) .leaf 0 i),(8, .int .i64 q.1)])
  (fun q hp nx1=>q.1≤i∧vF h' hp nx nx1 i i mv q.2 ν∧Wsh (oY idle l) i q.1 0 0 q.2)
  (fun q=>i-q.1) (0,T) ⟨Kg _,F,Wsh.first hT⟩ ?_ ?_
 ·simp only[WkL,aB,jH,jI,jJ,go_sem,reduceIte,jA,jB,jC,jD,reduceCtorEq,jE,jF]
 clear F hT;rintro⟨k,T⟩ hp nx1 ⟨hk,F,W⟩;generalize hQ2:bO _ _ _ _ _=Q2;dsimp only at hk F W;simp only[aB,go_sem,reduceIte,jA,jB,jC,jD,reduceCtorEq,jE,jF];have aAa:=F.box;rw[hmv] at aAa;have hge:=F.ge;have l1:nx<nx1:=or;rcases Kf k i with hkl|aDf
 ·have hc:decide ((k:Int)<(i:Int))=true:=decide_eq_true or;have hw:IntKind.i64.wrap ((k:Int)+1)=((k+1:Nat):Int):=by rw[aY]<;>omega
  refine aue (ee3 aAa hc l1) ?_
  refine aT (fun q:Nat×(Nat→Nat→Bool)=>aB 111 0 [(2, .ptr nx (.agg 2) 0 0),(5, .rs (nx+1) .leaf 0 i),(8, .int .i64 k),(9, .int .i64 q.1)])
   (fun q hp nx1=>q.1≤i∧vF h' hp nx nx1 i i mv q.2 ν∧Wsh (oY idle l) i k q.1 0 q.2)
   (fun q=>i-q.1) (0,T) ⟨Kg _,F,W⟩ ?_ ?_
  ·simp only[WkL,aB,jH,jI,jJ,go_sem,reduceIte,jA,jB,jC,jD,reduceCtorEq,jE,jF]
  clear F W aAa hge l1;rintro⟨x,T⟩ hp nx1 ⟨hx,F,W⟩;generalize hQ3:bO _ _ _ _ _=Q3;dsimp only at hx F W;simp only[aB,go_sem,reduceIte,jA,jB,jC,jD,reduceCtorEq,jE,jF];have aAa:=F.box;rw[hmv] at aAa;have hge:=F.ge;have l1:nx<nx1:=or;rcases Kf x i with hxl|aIv
  ·have hc3:decide ((x:Int)<(i:Int))=true:=decide_eq_true or;have hw3:IntKind.i64.wrap ((x:Int)+1)=((x+1:Nat):Int):=by rw[aY]<;>omega
   refine aue (ee3 aAa hc3 l1) ?_
   refine aT (fun q:Nat×(Nat→Nat→Bool)=>aB 111 0 [(2, .ptr nx (.agg 2) 0 0),(5, .rs (nx+1) .leaf 0 i),(8, .int .i64 k),(9, .int .i64 x),(10, .int .i64 q.1)])
    (fun q hp nx1=>q.1≤i∧vF h' hp nx nx1 i i mv q.2 ν∧Wsh (oY idle l) i k x q.1 q.2)
    (fun q=>i-q.1) (0,T) ⟨Kg _,F,W⟩ ?_ ?_
   ·simp only[WkL,aB,jH,jI,jJ,go_sem,reduceIte,jA,jB,jC,jD,reduceCtorEq,jE,jF]
   clear F W aAa hge l1;rintro⟨y,T⟩ hp nx1 ⟨hy,F,W⟩;generalize hQ4:bO _ _ _ _ _=Q4;dsimp only at hy F W;simp only[aB,go_sem,reduceIte,jA,jB,jC,jD,reduceCtorEq,jE,jF];have aAa:=F.box;rw[hmv] at aAa;have aBJ:=F.tab;have hge:=F.ge;have l1:nx<nx1:=or;have l2:nx+1<nx1:=or;have hlen:=qA i i ν;have hrx:=(F.row x hxl hxl).1;have hrk:=(F.row k hkl hkl).1;have aNI:=lG i T x;have aS7:=lG i T k;have hgx:(kQ i i ν).getD x (.tup [])= .rs (ν x) .leaf 0 i:=by rw[qB ν hxl,if_pos hxl]
   have hgk:(kQ i i ν).getD k (.tup [])= .rs (ν k) .leaf 0 i:=by rw[qB ν hkl,if_pos hkl]
   have hxk:=oE T x hkl;rcases Kf y i with hyl|aTI
   ·have hc4:decide ((y:Int)<(i:Int))=true:=decide_eq_true or;have hw4:IntKind.i64.wrap ((y:Int)+1)=((y+1:Nat):Int):=by rw[aY]<;>omega
    have hxy:=oE T x hyl;have hky:=oE T k hyl;cases hb:T x k with
    |true=>
     rw[hb] at hxk;have hs:=W.step hkl hxl hyl hb;cases hb1:T x y with
     |true=>
      rw[hb1] at hxy hs;refine aue (Eb aAa aBJ hc4 hw4 hlen hrx hrk aNI aS7 hgx hgk hxk hxy hky hxl hkl hyl aJI l1 l2) ?_;rw[←hQ4];refine aF (y+1,upd T x y true) Zw ⟨hyl,(F.put hxl hyl true).up or,hs⟩ ?_;simp only[WkL,aB,jH,jI,jJ,go_sem,reduceIte,jA,jB,jC,jD,reduceCtorEq,jE,jF]
     |false=>
      rw[hb1] at hxy hs;rw[Bool.false_or] at hs;refine aue (Eb aAa aBJ hc4 hw4 hlen hrx hrk aNI aS7 hgx hgk hxk hxy hky hxl hkl hyl aJI l1 l2) ?_;rw[←hQ4];refine aF (y+1,upd T x y (T k y)) Zw ⟨hyl,(F.put hxl hyl (T k y)).up or,hs⟩ ?_;simp only[WkL,aB,jH,jI,jJ,go_sem,reduceIte,jA,jB,jC,jD,reduceCtorEq,jE,jF]
    |false=>
     rw[hb] at hxk;have hs:=W.no hkl hxl hb;refine aue (Ec aAa aBJ hc4 hlen hrx aNI hgx hxk hxl hkl l1 l2) ?_;rw[←hQ4];refine aue hw3 ?_;rw[←hQ3];refine aF (x+1,T) Zw ⟨hxl,F,hs⟩ ?_;simp only[WkL,aB,jH,jI,jJ,go_sem,reduceIte,jA,jB,jC,jD,reduceCtorEq,jE,jF]
   have hc4:decide ((y:Int)<(i:Int))=false:=decide_eq_false or;have hyi:y=i:=or;subst hyi;refine aue (ee4 aAa hc4 l1 l2) ?_;rw[←hQ4];refine aue hw3 ?_;rw[←hQ3];refine aF (x+1,T) Zw ⟨hxl,F,W.aI7⟩ ?_;simp only[WkL,aB,jH,jI,jJ,go_sem,reduceIte,jA,jB,jC,jD,reduceCtorEq,jE,jF]
  have hc3:decide ((x:Int)<(i:Int))=false:=decide_eq_false or;have hxi:x=i:=or;subst hxi;refine aue (ee3 aAa hc3 l1) ?_;rw[←hQ3];refine aue hw ?_;rw[←hQ2];refine aF (k+1,T) Zw ⟨hkl,F,W.next⟩ ?_;simp only[WkL,aB,jH,jI,jJ,go_sem,reduceIte,jA,jB,jC,jD,reduceCtorEq,jE,jF]
 have hc:decide ((k:Int)<(i:Int))=false:=decide_eq_false or;have hki:k=i:=or;subst hki;refine aue (ee3 aAa hc l1) ?_;rw[←hQ2];refine au ?_;have hTJ:∀x,x<k→kW k T x=kW k (dX idle l) x:=fun x hx=>jW fun y hy=>by
  have:T x y=dX idle l x y:=by rw[Bool.eq_iff_iff,oL];exact W.done hE x y hx hy
  rw[this]
 have hgl:∀x (hx:x<(fL k (kW k (dX idle l))).length),(fL k (kW k (dX idle l)))[x]=kW k (dX idle l) x:=fun x hx=>by simp[fL]
 refine aG hp (Ka _) ⟨nx+1,ν,fL k (kW k (dX idle l)),kQ k k ν,?_,or,fun x hx hne=>?_,?_,F.same,rfl⟩
 ·simp only[fA,go_sem,reduceIte,jA,jB,jC,jD,reduceCtorEq,jE,jF]
 ·have hx':x<k:=by simpa [fA] using hx
  have:=(F.row x hx' hx').2.1;omega
 refine⟨F.tab,by rw[qA,fA],fun x hx hx' h0=>absurd h0 or,fun x hx hx' _=>?_,fun x hx _ hne=>?_,fun x x' hx hx' _ hlt hne aNV=>?_⟩
 ·have hxk:x<k:=by simpa [fA] using hx
  rw[hgl];have h1:(kQ k k ν)[x]= .rs (ν x) .leaf 0 k:=by simp[kQ,fL,hxk]
  rw[h1];unfold tG;have h2:(kW k (dX idle l) x).isEmpty=false:=by
   cases e:kW k (dX idle l) x with
   |nil=>have:=lG k (dX idle l) x;rw[e] at this;simp at this;omega
   |cons=>rfl
  rw[h2,lG];rfl
 ·have hxk:x<k:=by simpa [fA] using hx
  rw[hgl,←hTJ x hxk];have:=F.row x hxk hxk;exact⟨this.1,or⟩
 have hxk:x<k:=by simpa [fA] using hx
 have aS1:x'<k:=by simpa [fA] using hx'
 exact F.apart x x' hxk aS1 hxk aS1 or
noncomputable def Dc(n:Nat)(idle:Bool)(l:List We):V:= .sl .leaf .free ((fL n (kW n (dX idle l))).map (lst .leaf))
theorem zH(o:Own)(n:Nat)(l:List We)(idle:Bool)(aAH:xI n l)(hn:n≤200)(hl:l.length≤1000)(h:Hp):
 aX Tryz.prog 115 [.agg [.int .i64 n,wes o l], .bool idle] h (Dc n idle l):=by
 refine aP (fun L=>?_) fun h' nx hh=>(mZ (G:=fun ls=>ls=fL n (kW n (dX idle l))) (rz o n l idle aAH hn hl h' nx)).mono ?_
 ·unfold Dc;simp only[V.names,true_and,and_true];refine⟨fun n e=>(by cases e),?_⟩;unfold fL;rw[List.map_map];exact bE (f:=lst .leaf∘kW n (dX idle l)) (fun i=>cP (fun L=>by unfold kW fL;exact bE (f:=fun j=>V.bool (dX idle l i j)) (fun j=>trivial) _) L) _
 rintro v h'' nx2 hnx ⟨ls,rfl,rfl,rfl⟩;exact⟨rfl,rfl⟩
theorem pO(a b:Int):a<b∨b≤a:=or
theorem zL(l:List We):oY false l=vH l:=by
 funext i j;simp[oY,vH]
theorem er(l:List We):oY true l=fun a b=>(a,b)∈zE l:=by
 funext i j;apply propext;rw[A0];constructor
 ·rintro⟨w,h1,h2,h3,h4⟩;exact⟨w,h1,h2.elim (fun h=>by cases h) id,by rw[h3,h4]⟩
 rintro⟨w,h1,h2,h3⟩;injection h3 with h3 h4;exact⟨w,h1, .inr h2,h3,h4⟩
theorem yu{n:Nat}{l:List We}{b:Bool}{i:Nat}(hi:i<n):((fL n (kW n (dX b l))).map (lst .leaf)).getD i (.tup [])= .sl .leaf .free (kW n (dX b l) i):=by
 have h1:i<((fL n (kW n (dX b l))).map (lst .leaf)).length:=by simpa [fA] using hi
 rw[List.getD_eq_getElem?_getD,List.getElem?_eq_getElem h1];simp only[List.getElem_map,fL,List.getElem_range,Option.getD_some];unfold lst;have h2:=lG n (dX b l) i;cases e:kW n (dX b l) i with
 |nil=>rw[e] at h2;simp at h2;omega
 |cons=>rfl
theorem jz(n:Nat)(b:Bool)(l:List We):((fL n (kW n (dX b l))).map (lst .leaf)).length=n:=by rw[jK,fA]
theorem wn{n:Int}{oo:Own}{M:List Wy}{c:Int}(h:(M=[]∧oo= .nil)∨(M≠ []∧oo≠ .nil)):(V.tup [.agg [.int .i64 n,wys oo M], .int .i64 c]).aBS= .tup [tV n M, .int .i64 c]:=by
 rcases h with⟨rfl,rfl⟩|⟨h1,h2⟩
 ·rfl
 cases M with
 |nil=>exact absurd rfl h1
 |cons w M=>cases oo<;>first|exact absurd rfl h2|rfl
theorem yw(l:List Wy)(w:Wy):nU Wy.less l w≠ []:=by
 cases l with
 |nil=>simp[nU]
 |cons x l=>unfold nU;repeat' split
            all_goals simp
theorem se(ws:List Wy)(i:Nat)(h:i<ws.length):kO Wy.less (ws.take (i+1))=nU Wy.less (kO Wy.less (ws.take i)) ws[i]:=by
 rw[Kc h];unfold kO;rw[List.foldl_append];rfl
theorem wz(l:List Wy):(kO Wy.less l).length≤l.length:=by rw[←mY];exact mX l
set_option maxRecDepth 100000 in
set_option maxHeartbeats 4000000 in
theorem vd(o:Own)(P:Int)(ws:List Wy)(hl:ws.length≤1000)(h:Hp):aX Tryz.prog 80 [.int .i64 P,wys o ws] h (.tup [tV (cM P ws).1.1 (cM P ws).1.2, .int .i64 (cM P ws).2]):=by
 refine mK (fun L=>by simp[V.names,bP,tU]) fun h' nx hh=>aD L.aVX fun hd=>?_;simp only[jL,jM,jA,jB,jN,jO,jP,jQ,V.undef];have e1:(P<0∨200<P)→cM P ws=((0,[]),1):=fun h=>by
  unfold cM;rw[if_pos (h.elim .inl fun h=> .inr (.inl h))]
 rcases pO P 0 with hP|hP
 ·have hc1:decide (P<0)=true:=decide_eq_true hP;have hmf:(V.agg [V.int .i64 0,V.sl (.agg 4) .nil []]).fits (.agg 2)=true:=rfl;refine aue (ee2 hc1 hmf) ?_;refine cI (by simp only[go_sem,reduceIte,jA,jB,jC,jD,reduceCtorEq,jE,jF]) h' (by repeat (first|exact Ka _|refine aH hd ?_ or _|refine aL hd ?_ or)) ⟨?_,Ka _⟩;refine Zn ?_;rw[e1 (.inl hP)];rfl
 rcases pO 200 P with hP2|hP2
 ·have hc1:decide (P<0)=false:=decide_eq_false or;have hc2:decide (P>200)=true:=decide_eq_true or;have hmf:(V.agg [V.int .i64 0,V.sl (.agg 4) .nil []]).fits (.agg 2)=true:=rfl;refine aue (ee3 hc1 hc2 hmf) ?_;refine cI (by simp only[go_sem,reduceIte,jA,jB,jC,jD,reduceCtorEq,jE,jF]) h' (by repeat (first|exact Ka _|refine aH hd ?_ or _|refine aL hd ?_ or)) ⟨?_,Ka _⟩;refine Zn ?_;rw[e1 (.inr hP2)];rfl
 have hc1:decide (P<0)=false:=decide_eq_false or;have hc2:decide (P>200)=false:=decide_eq_false or;have hmf:∀m oo M,(V.agg [V.int .i64 m,wys oo M]).fits (.agg 2)=true:=fun _ _ _=>by simp[V.fits,V.aAD]
 have aDC:(V.agg [V.int .i64 0,V.sl (.agg 4) .nil []]).fits (.agg 2)=true:=rfl;have aT5:∀oo l,(V.agg [V.int .i64 P,wes oo l]).fits (.agg 2)=true:=fun _ _=>by simp[V.fits,V.aAD]
 have hex:∀(code:Int) (sl:List V) (h2:Hp) (nx2:Nat),cM P ws=((0,[]),code)→Kb nx h' h2→h2 nx=some (.arr (.agg 2) [.agg [.int .i64 0, .sl (.agg 4) .nil []]])→sl.getD 4 V.undef= .ptr nx (.agg 2) 0 0→sl.getD 5 V.undef= .int .i64 code→iU [rS.cell 4 (.agg 2),rS.slot 5] (fun v' h'' x=>v'.aBS= .tup [tV (cM P ws).1.1 (cM P ws).1.2, .int .i64 (cM P ws).2]∧h'.le h'') cK.ret ⟨sl,h2,nx2⟩:=fun code sl h2 nx2 q0 q2 q1 q3 q4=>by
  have q3':sl.getD 4 (.tup [])= .ptr nx (.agg 2) 0 0:=q3;refine cI (by simp only[bL.ok,aO.ev,q1,q3',q3,V.undef,go_sem,reduceIte,jA,jB,jC,jD,reduceCtorEq,jE,jF]) h' (q2.le hd (Ka _)) ⟨?_,Ka _⟩;rw[q0,q4];simp only[bL.out,aO.ev,q1,q3',q3,V.undef,go_sem,reduceIte,jA,jB,jC,jD,reduceCtorEq,jE,jF];rfl
 refine aue (ee3 hc1 hc2 aDC) ?_
 refine aT (fun q:Nat×Own=>aB 138 0 [(0, .int .i64 P),(1,wys o ws),(4, .ptr nx (.agg 2) 0 0),(6, .ptr (nx+1) (.agg 2) 0 0),(7, .int .i64 q.1)])
  (fun q hp nx1=>q.1≤ws.length∧nx+2≤nx1∧aK hp nx1∧hp nx=some (.arr (.agg 2) [.agg [.int .i64 0, .sl (.agg 4) .nil []]])∧hp (nx+1)=some (.arr (.agg 2) [.agg [.int .i64 P,wys q.2 (kO Wy.less (ws.take q.1))]])∧Kb nx h' hp∧((kO Wy.less (ws.take q.1)=[]∧q.2= .nil)∨(kO Wy.less (ws.take q.1)≠ []∧q.2≠ .nil))∧∀w∈ws.take q.1,w.fit P=true)
  (fun q=>ws.length-q.1) (0, .nil) ⟨Kg _,Zw,(by(try dsimp only);repeat (first|exact aK.up hd or|refine aK.aAh ?_ or _|refine aK.del ?_|refine aK.aAb ?_ _)),by simp only[go_sem,reduceIte,jA,jB,jC,jD,reduceCtorEq,jE,jF],by simp only[kO,List.foldl_nil,wys,Kj,go_sem,reduceIte,jA,jB,jC,jD,reduceCtorEq,jE,jF],(by(try dsimp only);repeat (first|exact Hp.same.aBI|refine aV ?_ or _|refine aW ?_ or)), .inl ⟨rfl,rfl⟩,fun w hw=>by simp at hw⟩ ?_ ?_
 ·simp only[WkL,aB,jH,jI,jJ,wys,go_sem,reduceIte,jA,jB,jC,jD,reduceCtorEq,jE,jF]
 rintro⟨i,oo⟩ hp nx1 ⟨hi,hnx,hdm,hb0,hb1,hsm,hoo,aCC⟩;generalize hQ:bO _ _ _ _ _=Q0;dsimp only at hi hb1 hoo aCC;simp only[aB,go_sem,reduceIte,jA,jB,jC,jD,reduceCtorEq,jE,jF];have l1:nx<nx1:=or;have l2:nx+1<nx1:=or;rcases Kf i ws.length with hlt|hge
 ·have hc:decide ((i:Int)<(ws.length:Int))=true:=decide_eq_true or;have hg:(ws.map Wy.v).getD i (.tup [])= .agg [.int .i64 ws[i].f, .int .i64 ws[i].t, .bool ws[i].p.n, .int .i64 ws[i].p.a]:=bI Wy.v ws i hlt;have hw:IntKind.i64.wrap ((i:Int)+1)=((i+1:Nat):Int):=by rw[aY]<;>omega
  have htk:ws.take (i+1)=ws.take i++[ws[i]]:=Kc hlt;have aEK:=se ws i hlt;have hil:(kO Wy.less (ws.take i)).length≤100000:=Ku (wz _) (by simp;omega);obtain⟨M,hM⟩:∃M,M=kO Wy.less (ws.take i):=⟨_,rfl⟩;rw[←hM] at hb1 hoo aEK hil;have aAp:ws[i]∈ws:=Kh _;have aBY:ws[i].fit P=false→cM P ws=((0,[]),1):=fun h=>by
   unfold cM;rw[if_pos (.inr (.inr ⟨_,aAp,h⟩))]
  obtain⟨w,hwi⟩:∃w,w=ws[i]:=⟨_,rfl⟩;rw[←hwi] at hg htk aEK aBY;have aIx:w.fit P=(decide (0≤w.f)&&(decide (w.f<P)&&(decide (0≤w.t)&&(decide (w.t<P)&&w.p.ok)))):=rfl;rcases pO w.f 0 with f1|f1
  ·have hd1:decide (w.f<0)=true:=decide_eq_true f1;have hn:cM P ws=((0,[]),1):=aBY (by rw[aIx,decide_eq_false or];rfl);refine aue (ee9 hb0 hb1 hc hg hlt l1 l2 aDC hd1) ?_;rw[←hQ];refine au ?_;refine hex 1 _ _ _ hn ?_ ?_ ?_ ?_
   ·exact(by(try dsimp only);repeat (first|exact hsm|refine aV ?_ or _|refine aW ?_ or))
   ·simp only[go_sem,reduceIte,jA,jB,jC,jD,reduceCtorEq,jE,jF]
   ·rfl
   rfl
  rcases pO w.t 0 with f2|f2
  ·have hd1:decide (w.f<0)=false:=decide_eq_false or;have hd2:decide (w.t<0)=true:=decide_eq_true f2;have hn:cM P ws=((0,[]),1):=aBY (by rw[aIx,decide_eq_false (show¬(0:Int)≤w.t by omega)];simp);refine aue (ta hb0 hb1 hc hg hlt l1 l2 aDC hd1 hd2) ?_;rw[←hQ];refine au ?_;refine hex 1 _ _ _ hn ?_ ?_ ?_ ?_
   ·exact(by(try dsimp only);repeat (first|exact hsm|refine aV ?_ or _|refine aW ?_ or))
   ·simp only[go_sem,reduceIte,jA,jB,jC,jD,reduceCtorEq,jE,jF]
   ·rfl
   rfl
  rcases pO w.f P with f3|f3;rotate_left
  ·have hd1:decide (w.f<0)=false:=decide_eq_false or;have hd2:decide (w.t<0)=false:=decide_eq_false or;have hd3:decide (w.f≥P)=true:=decide_eq_true f3;have hn:cM P ws=((0,[]),1):=aBY (by rw[aIx,decide_eq_false (show¬w.f<P by omega)];simp);refine aue (ei hb0 hb1 hc hg hlt l1 l2 aDC hd1 hd2 hd3) ?_;rw[←hQ];refine au ?_;refine hex 1 _ _ _ hn ?_ ?_ ?_ ?_
   ·exact(by(try dsimp only);repeat (first|exact hsm|refine aV ?_ or _|refine aW ?_ or))
   ·simp only[go_sem,reduceIte,jA,jB,jC,jD,reduceCtorEq,jE,jF]
   ·rfl
   rfl
  rcases pO w.t P with f4|f4;rotate_left
  ·have hd1:decide (w.f<0)=false:=decide_eq_false or;have hd2:decide (w.t<0)=false:=decide_eq_false or;have hd3:decide (w.f≥P)=false:=decide_eq_false or;have hd4:decide (w.t≥P)=true:=decide_eq_true f4;have hn:cM P ws=((0,[]),1):=aBY (by rw[aIx,decide_eq_false (show¬w.t<P by omega)];simp);refine aue (Ec hb0 hb1 hc hg hlt l1 l2 aDC hd1 hd2 hd3 hd4) ?_;rw[←hQ];refine au ?_;refine hex 1 _ _ _ hn ?_ ?_ ?_ ?_
   ·exact(by(try dsimp only);repeat (first|exact hsm|refine aV ?_ or _|refine aW ?_ or))
   ·simp only[go_sem,reduceIte,jA,jB,jC,jD,reduceCtorEq,jE,jF]
   ·rfl
   rfl
  have hd1:decide (w.f<0)=false:=decide_eq_false or;have hd2:decide (w.t<0)=false:=decide_eq_false or;have hd3:decide (w.f≥P)=false:=decide_eq_false or;have hd4:decide (w.t≥P)=false:=decide_eq_false or;cases hok:w.p.ok with
  |false=>
   have hn:cM P ws=((0,[]),1):=aBY (by rw[aIx,hok];simp);have C1:=fun h=>jT w.p h;refine aue (CO hb0 hb1 hc hg hlt l1 l2 aDC hd1 hd2 hd3 hd4 hok) ?_;rw[←hQ];refine au ?_;refine hex 1 _ _ _ hn ?_ ?_ ?_ ?_
   ·exact(by(try dsimp only);repeat (first|exact hsm|refine aV ?_ or _|refine aW ?_ or))
   ·simp only[go_sem,reduceIte,jA,jB,jC,jD,reduceCtorEq,jE,jF]
   ·rfl
   rfl
  |true=>
   have aAH:w.fit P=true:=by rw[aIx,hok,decide_eq_true f1,decide_eq_true f2,decide_eq_true f3,decide_eq_true f4];rfl
   have aGp:∀v∈ws.take (i+1),v.fit P=true:=fun v hv=>by
    rw[htk] at hv;rcases Ki.1 hv with hv|hv
    ·exact aCC v hv
    simp at hv;rw[hv];exact aAH
   have hwe:Wy.v w= .agg [.int .i64 w.f, .int .i64 w.t, .bool w.p.n, .int .i64 w.p.a]:=rfl;have C1:=fun h=>jT w.p h;refine aue (CO hb0 hb1 hc hg hlt l1 l2 aDC hd1 hd2 hd3 hd4 hok) ?_;refine bX ((zx oo M w hil _ _).mono ?_);rintro v2 hq nx2 aBZ (⟨rfl,rfl,hne⟩|⟨id,hid,aUE,rfl,rfl⟩)
   ·dsimp only at aBZ;unfold eI;refine Zn ?_;refine aue (ee6 hb0 hb1 hw l1 l2 hmf) ?_;rw[←hQ];refine aF (i+1,oo) Zw ⟨hlt,or,(by(try dsimp only);repeat (first|exact aK.up hdm or|refine aK.aAh ?_ or _|refine aK.del ?_|refine aK.aAb ?_ _)),?_,?_,(by(try dsimp only);repeat (first|exact hsm|refine aV ?_ or _|refine aW ?_ or)), .inr ⟨?_,?_⟩,aGp⟩ ?_
    ·simp only[hb0,l1,go_sem,reduceIte,jA,jB,jC,jD,reduceCtorEq,jE,jF]
    ·simp only[aEK,go_sem,reduceIte,jA,jB,jC,jD,reduceCtorEq,jE,jF]
    ·dsimp only;rw[aEK];exact yw M w
    ·rcases hoo with⟨h,_⟩|⟨_,h⟩
     ·exact absurd h hne
     exact h
    simp only[WkL,aB,jH,jI,jJ,wys,go_sem,reduceIte,jA,jB,jC,jD,reduceCtorEq,jE,jF]
   dsimp only at aBZ;unfold eI;refine Zn ?_;dsimp only at hid;have aWV:id<nx2:=aUE;have l3:nx<id:=or;have l4:nx+1<id:=or;refine aue (ee8 hb0 hb1 hw l1 l2 l3 l4 hmf) ?_;rw[←hQ];refine aF (i+1, .tok id) Zw ⟨hlt,or,(by(try dsimp only);repeat (first|exact aK.up hdm or|refine aK.aAh ?_ or _|refine aK.del ?_|refine aK.aAb ?_ _)),?_,?_,(by(try dsimp only);repeat (first|exact hsm|refine aV ?_ or _|refine aW ?_ or)), .inr ⟨?_,fun e=>by cases e⟩,aGp⟩ ?_
   ·simp only[hb0,l1,l3,go_sem,reduceIte,jA,jB,jC,jD,reduceCtorEq,jE,jF]
   ·simp only[aEK,go_sem,reduceIte,jA,jB,jC,jD,reduceCtorEq,jE,jF]
   ·dsimp only;rw[aEK];exact yw M w
   simp only[WkL,aB,jH,jI,jJ,wys,go_sem,reduceIte,jA,jB,jC,jD,reduceCtorEq,jE,jF]
 have hc:decide ((i:Int)<(ws.length:Int))=false:=decide_eq_false or;have htw:ws.take i=ws:=Ke or;rw[htw] at hb1 hoo aCC;rw[←mY] at hb1 hoo;refine aue hc ?_;rw[←hQ];refine aue hc ?_;obtain⟨n,rfl⟩:∃n:Nat,P=n:=⟨P.toNat,or⟩;obtain⟨k1,k2⟩:=dw (P:=(n:Int)) (ws:=bZ ws) (fun w hw=>aCC w ((mW ws w).1 hw));rw[jG] at k2;have hcl:=mX ws;obtain⟨l,hll⟩:∃l,l=(bZ ws).map Wy.we:=⟨_,rfl⟩;rw[←hll] at k1 k2;have hln:l.length≤1000:=by rw[hll,jK];omega
 have aS2:wys oo (bZ ws)=wes oo l:=by rw[k1];simp only[wys,wes,ul]
 rw[aS2] at hb1;have hno:¬((n:Int)<0∨200<(n:Int)∨∃w∈ws,w.fit n=false):=by
  rintro(h|h|⟨w,h1,h2⟩)
  ·omega
  ·omega
  rw[aCC w h1] at h2;cases h2
 have had:eW (bZ ws)=aAL l:=by rw[k1,AR]
 have e2:1048576<aAL l→cM n ws=((0,[]),1):=fun h=>by
  unfold cM;rw[if_neg hno,had,if_pos h]
 have e3:¬1048576<aAL l→(ip l∨rQ l)→cM n ws=((0,[]),9):=fun h h2=>by
  unfold cM;rw[if_neg hno,had,if_neg h,←hll,if_pos h2]
 have e4:¬1048576<aAL l→¬(ip l∨rQ l)→cM n ws=(((n:Int),bZ ws),0):=fun h h2=>by
  unfold cM;rw[if_neg hno,had,if_neg h,←hll,if_neg h2]
 have aIp:∀k,k≤l.length→0≤aAL (l.take k)∧aAL (l.take k)≤1048576*k:=by
  intro k hk;induction k with
  |zero=>simp[aAL]
  |succ k ih=>
   have ih:=ih or;have:=(k2 l[k] (Kh _)).2.2;simp only[Pa.ok,Bool.and_eq_true,decide_eq_true_eq] at this;rw[Kc or];simp only[aAL,Ko,Ks,Kj,Kp,Kt,Km] at ih⊢;omega
 clear hQ hi hge htw aS2 had hno aCC l1 l2
 refine aT (fun k:Nat=>aB 138 0 [(0, .int .i64 n),(4, .ptr nx (.agg 2) 0 0),(6, .ptr (nx+1) (.agg 2) 0 0),(9, .int .i64 (aAL (l.take k))),(10, .int .i64 k)])
  (fun k hp nx1=>k≤l.length∧nx+2≤nx1∧aK hp nx1∧hp nx=some (.arr (.agg 2) [.agg [.int .i64 0, .sl (.agg 4) .nil []]])∧hp (nx+1)=some (.arr (.agg 2) [.agg [.int .i64 n,wes oo l]])∧Kb nx h' hp)
  (fun k=>l.length-k) 0 ⟨Kg _,hnx,hdm,hb0,hb1,hsm⟩ ?_ ?_
 ·simp only[WkL,aB,jH,jI,jJ,wes,aAL,List.take_zero,Kj,Km,go_sem,reduceIte,jA,jB,jC,jD,reduceCtorEq,jE,jF]
 clear hnx hdm hb0 hb1 hsm;rintro k hp nx1 ⟨hk,hnx,hdm,hb0,hb1,hsm⟩;generalize hQ:bO _ _ _ _ _=Q0;simp only[aB,go_sem,reduceIte,jA,jB,jC,jD,reduceCtorEq,jE,jF];have l1:nx<nx1:=or;have l2:nx+1<nx1:=or;rcases Kf k l.length with hlt|hge
 ·have hc:decide ((k:Int)<(l.length:Int))=true:=decide_eq_true or;have hg:(l.map We.v).getD k (.tup [])= .agg [.int .i64 l[k].f, .int .i64 l[k].t, .bool l[k].p.n, .int .i64 l[k].p.a]:=bI We.v l k hlt;have hs1:=aIp k hk;have hs2:=aIp (k+1) or;have hw:IntKind.i64.wrap ((k:Int)+1)=((k+1:Nat):Int):=by rw[aY]<;>omega
  have hsn:aAL (l.take (k+1))=aAL (l.take k)+l[k].p.a:=by
   rw[Kc hlt];simp only[aAL,Ko,Ks,Kj,Kp,Kt,Km];omega
  have hw2:IntKind.i64.wrap (aAL (l.take k)+l[k].p.a)=aAL (l.take (k+1)):=by rw[hsn,aY]<;>omega
  refine aue (ee8 hb1 hc hg hw hw2 hlt l1 l2) ?_;rw[←hQ];refine aF (k+1) or ⟨hlt,hnx,hdm,hb0,hb1,hsm⟩ ?_;simp only[WkL,aB,jH,jI,jJ,wes,go_sem,reduceIte,jA,jB,jC,jD,reduceCtorEq,jE,jF]
 have hc:decide ((k:Int)<(l.length:Int))=false:=decide_eq_false or;have htl:l.take k=l:=Ke or;refine aue (ee5 hb1 hc htl l1 l2) ?_;rw[←hQ];rcases pO 1048576 (aAL l) with aNm|aTp
 ·have hcb:decide (aAL l>1048576)=true:=decide_eq_true aNm;refine aue (ee6 hb0 hcb htl aDC l1 l2) ?_;refine hex 1 _ _ _ (e2 aNm) ?_ ?_ ?_ ?_
  ·exact(by(try dsimp only);repeat (first|exact hsm|refine aV ?_ or _|refine aW ?_ or))
  ·simp only[go_sem,reduceIte,jA,jB,jC,jD,reduceCtorEq,jE,jF]
  ·rfl
  rfl
 have hcb:decide (aAL l>1048576)=false:=decide_eq_false or;have hnb:¬1048576<aAL l:=or;obtain⟨J1,hJ1⟩:∃J,J=(fL n (kW n (dX true l))).map (lst .leaf):=⟨_,rfl⟩;obtain⟨J2,hJ2⟩:∃J,J=(fL n (kW n (dX false l))).map (lst .leaf):=⟨_,rfl⟩;have c1:∀h,aX Tryz.prog 115 [.agg [.int .i64 n,wes oo l], .bool true] h (.sl .leaf .free J1):=fun h=>by rw[hJ1];exact zH oo n l true k2 or hln h
 have c2:∀h,aX Tryz.prog 115 [.agg [.int .i64 n,wes oo l], .bool false] h (.sl .leaf .free J2):=fun h=>by rw[hJ2];exact zH oo n l false k2 or hln h
 have g1:∀i,i<n→J1.getD i (.tup [])= .sl .leaf .free (kW n (dX true l) i):=fun i hi=>by rw[hJ1];exact yu hi
 have g2:∀i,i<n→J2.getD i (.tup [])= .sl .leaf .free (kW n (dX false l) i):=fun i hi=>by rw[hJ2];exact yu hi
 have n1:J1.length=n:=by rw[hJ1];exact jz _ _ _
 have n2:J2.length=n:=by rw[hJ2];exact jz _ _ _
 clear hJ1 hJ2;have aTD:=aT5 oo l;have D1:=fun h=>c1 h;have D2:=fun h=>c2 h;refine aue (ee6 hb1 hcb htl aTD l1 l2) ?_;clear hQ hk hge hc htl
 refine aT (fun k:Nat=>aB 138 0 [(0, .int .i64 n),(4, .ptr nx (.agg 2) 0 0),(6, .ptr (nx+1) (.agg 2) 0 0),(11, .sl .leaf .free J1),(12, .sl .leaf .free J2),(13, .int .i64 k)])
  (fun k hp nx1=>k≤n∧nx+2≤nx1∧aK hp nx1∧hp nx=some (.arr (.agg 2) [.agg [.int .i64 0, .sl (.agg 4) .nil []]])∧hp (nx+1)=some (.arr (.agg 2) [.agg [.int .i64 n,wes oo l]])∧Kb nx h' hp∧∀x,x<k→dX true l x x=false)
  (fun k=>n-k) 0 ⟨Kg _,Zw,(by(try dsimp only);repeat (first|exact aK.up hdm or|refine aK.aAh ?_ or _|refine aK.del ?_|refine aK.aAb ?_ _)),hb0,hb1,hsm,fun x hx=>absurd hx or⟩ ?_ ?_
 ·simp only[WkL,aB,jH,jI,jJ,wes,go_sem,reduceIte,jA,jB,jC,jD,reduceCtorEq,jE,jF]
 clear hnx hdm hb0 hb1 hsm l1 l2;rintro x hp nx1 ⟨hx,hnx,hdm,hb0,hb1,hsm,hid⟩;generalize hQ:bO _ _ _ _ _=Q0;simp only[aB,go_sem,reduceIte,jA,jB,jC,jD,reduceCtorEq,jE,jF];have l1:nx<nx1:=or;have l2:nx+1<nx1:=or;rcases Kf x n with hxn|hge
 ·have hc:decide ((x:Int)<(n:Int))=true:=decide_eq_true or;have hg:=g1 x hxn;have hr:=oE (dX true l) x hxn;have hrl:=lG n (dX true l) x;have hw:IntKind.i64.wrap ((x:Int)+1)=((x+1:Nat):Int):=by rw[aY]<;>omega
  cases hb:dX true l x x with
  |true=>
   rw[hb] at hr;have aNd:ip l:=by
    have:=(oL true l x x).1 hb;rw[er] at this;exact⟨x,this⟩
   refine aue (ta hb0 hc hg hr hrl n1 hxn aDC l1 l2) ?_;rw[←hQ];refine au ?_;refine hex 9 _ _ _ (e3 hnb (.inl aNd)) ?_ ?_ ?_ ?_
   ·exact(by(try dsimp only);repeat (first|exact hsm|refine aV ?_ or _|refine aW ?_ or))
   ·simp only[go_sem,reduceIte,jA,jB,jC,jD,reduceCtorEq,jE,jF]
   ·rfl
   rfl
  |false=>
   rw[hb] at hr;refine aue (ei hb0 hc hg hr hrl hw n1 hxn aDC l1 l2) ?_;rw[←hQ];refine aF (x+1) or ⟨hxn,hnx,hdm,hb0,hb1,hsm,fun y hy=>?_⟩ ?_
   ·rcases Kf y x with h|h
    ·exact hid y h
    rw[show y=x by omega];exact hb
   simp only[WkL,aB,jH,jI,jJ,wes,go_sem,reduceIte,jA,jB,jC,jD,reduceCtorEq,jE,jF]
 have hc:decide ((x:Int)<(n:Int))=false:=decide_eq_false or;have hni:¬ip l:=by
  rintro⟨y,hy⟩;have hyn:y<n:=by
   obtain⟨c,hc,_⟩:=hy.last;exact(C8 k2 _ hc).2
  have h1:=hid y or;have h2:dX true l y y=true:=by rw[oL,er];exact hy
  rw[h2] at h1;cases h1
 refine aue hc ?_;rw[←hQ];refine aue hc ?_;clear hQ hx hge hc hid
 refine aT (fun k:Nat=>aB 138 0 [(4, .ptr nx (.agg 2) 0 0),(6, .ptr (nx+1) (.agg 2) 0 0),(12, .sl .leaf .free J2),(14, .int .i64 k)])
  (fun k hp nx1=>k≤l.length∧nx+2≤nx1∧aK hp nx1∧hp nx=some (.arr (.agg 2) [.agg [.int .i64 0, .sl (.agg 4) .nil []]])∧hp (nx+1)=some (.arr (.agg 2) [.agg [.int .i64 n,wes oo l]])∧Kb nx h' hp∧∀w∈l.take k,w.p.n=true→¬(w.t=w.f∨fF (vH l) w.t w.f))
  (fun k=>l.length-k) 0 ⟨Kg _,hnx,hdm,hb0,hb1,hsm,fun w hw=>by simp at hw⟩ ?_ ?_
 ·simp only[WkL,aB,jH,jI,jJ,wes,go_sem,reduceIte,jA,jB,jC,jD,reduceCtorEq,jE,jF]
 clear hnx hdm hb0 hb1 hsm l1 l2;rintro k hp nx1 ⟨hk,hnx,hdm,hb0,hb1,hsm,htu⟩;generalize hQ:bO _ _ _ _ _=Q0;simp only[aB,go_sem,reduceIte,jA,jB,jC,jD,reduceCtorEq,jE,jF];have l1:nx<nx1:=or;have l2:nx+1<nx1:=or;rcases Kf k l.length with hlt|hge
 ·have hc:decide ((k:Int)<(l.length:Int))=true:=decide_eq_true or;have hw:IntKind.i64.wrap ((k:Int)+1)=((k+1:Nat):Int):=by rw[aY]<;>omega
  have htk:l.take (k+1)=l.take k++[l[k]]:=Kc hlt;have hwf:=k2 l[k] (Kh _);have aAp:l[k]∈l:=Kh _;have hg:(l.map We.v).getD k (.tup [])= .agg [.int .i64 l[k].f, .int .i64 l[k].t, .bool l[k].p.n, .int .i64 l[k].p.a]:=bI We.v l k hlt;obtain⟨w,hwk⟩:∃w,w=l[k]:=⟨_,rfl⟩;rw[←hwk] at htk hwf aAp hg;have h1:=hwf.1;have h2:=hwf.2.1;have hgr:=g2 w.t h2;have hr:=oE (dX false l) w.t h1;have hrl:=lG n (dX false l) w.t;have step:(w.p.n=true→¬(w.t=w.f∨fF (vH l) w.t w.f))→∀v∈l.take (k+1),v.p.n=true→¬(v.t=v.f∨fF (vH l) v.t v.f):=fun h v hv=>by
   rw[htk] at hv;rcases Ki.1 hv with hv|hv
   ·exact htu v hv
   simp at hv;rw[hv];exact h
  cases hn:w.p.n with
  |false=>
   rw[hn] at hg;refine aue (ee9 hb0 hb1 hc hg hlt hw aDC l1 l2) ?_;rw[←hQ];refine aF (k+1) or ⟨hlt,or,(by(try dsimp only);repeat (first|exact aK.up hdm or|refine aK.aAh ?_ or _|refine aK.del ?_|refine aK.aAb ?_ _)),?_,?_,(by(try dsimp only);repeat (first|exact hsm|refine aV ?_ or _|refine aW ?_ or)),step (fun h=>by rw[hn] at h;cases h)⟩ ?_
   ·simp only[hb0,l1,go_sem,reduceIte,jA,jB,jC,jD,reduceCtorEq,jE,jF]
   ·simp only[hb1,l2,go_sem,reduceIte,jA,jB,jC,jD,reduceCtorEq,jE,jF]
   simp only[WkL,aB,jH,jI,jJ,wes,go_sem,reduceIte,jA,jB,jC,jD,reduceCtorEq,jE,jF]
  |true=>
   rw[hn] at hg;by_cases hft:w.f=w.t
   ·have hcf:((w.f:Int)==(w.t:Int))=true:=by simp[hft]
    have htn:rQ l:=⟨w,aAp,hn, .inl hft.symm⟩;refine aue (ee9 hb0 hb1 hc hg hlt hcf aDC l1 l2) ?_;rw[←hQ];refine au ?_;refine hex 9 _ _ _ (e3 hnb (.inr htn)) ?_ ?_ ?_ ?_
    ·exact(by(try dsimp only);repeat (first|exact hsm|refine aV ?_ or _|refine aW ?_ or))
    ·simp only[go_sem,reduceIte,jA,jB,jC,jD,reduceCtorEq,jE,jF]
    ·rfl
    rfl
   have hcf:((w.f:Int)==(w.t:Int))=false:=by simp;omega
   cases hb:dX false l w.t w.f with
   |true=>
    rw[hb] at hr;have htn:rQ l:=by
     have:=(oL false l w.t w.f).1 hb;rw[zL] at this;exact⟨w,aAp,hn, .inr this⟩
    refine aue (Em hb0 hb1 hc hg hlt hcf hgr hr hrl n2 h1 h2 aDC l1 l2) ?_;rw[←hQ];refine au ?_;refine hex 9 _ _ _ (e3 hnb (.inr htn)) ?_ ?_ ?_ ?_
    ·exact(by(try dsimp only);repeat (first|exact hsm|refine aV ?_ or _|refine aW ?_ or))
    ·simp only[go_sem,reduceIte,jA,jB,jC,jD,reduceCtorEq,jE,jF]
    ·rfl
    rfl
   |false=>
    rw[hb] at hr;have hnt:¬(w.t=w.f∨fF (vH l) w.t w.f):=by
     rintro(h|h)
     ·exact hft h.symm
     have:dX false l w.t w.f=true:=by rw[oL,zL];exact h
     rw[this] at hb;cases hb
    refine aue (xg hb0 hb1 hc hg hlt hcf hgr hr hrl hw n2 h1 h2 aDC l1 l2) ?_;rw[←hQ];refine aF (k+1) or ⟨hlt,or,(by(try dsimp only);repeat (first|exact aK.up hdm or|refine aK.aAh ?_ or _|refine aK.del ?_|refine aK.aAb ?_ _)),?_,?_,(by(try dsimp only);repeat (first|exact hsm|refine aV ?_ or _|refine aW ?_ or)),step (fun _=>hnt)⟩ ?_
    ·simp only[hb0,l1,go_sem,reduceIte,jA,jB,jC,jD,reduceCtorEq,jE,jF]
    ·simp only[hb1,l2,go_sem,reduceIte,jA,jB,jC,jD,reduceCtorEq,jE,jF]
    simp only[WkL,aB,jH,jI,jJ,wes,go_sem,reduceIte,jA,jB,jC,jD,reduceCtorEq,jE,jF]
 have hc:decide ((k:Int)<(l.length:Int))=false:=decide_eq_false or;have htl:l.take k=l:=Ke or;rw[htl] at htu;have hnt:¬rQ l:=fun⟨w,h1,h2,h3⟩=>htu w h1 h2 h3;have aCe:=e4 hnb (fun h=>h.elim hni hnt);refine aue (ee4 hb1 hc l1 l2) ?_;rw[←hQ];refine aue (ee6 hb0 hb1 aTD aDC l1 l2) ?_;refine cI (by simp only[go_sem,reduceIte,jA,jB,jC,jD,reduceCtorEq,jE,jF]) h' ((show Kb nx h' _ from(by(try dsimp only);repeat (first|exact hsm|refine aV ?_ or _|refine aW ?_ or))).le hd (Ka _)) ⟨?_,Ka _⟩;refine Zn ?_;rw[aCe];have hwv:l.map We.v=(bZ ws).map Wy.v:=by rw[k1,ul]
 have aNE:(wes oo l:V)=wys oo (bZ ws):=by simp only[wes,wys,hwv]
 rw[aNE];exact wn hoo
set_option maxRecDepth 100000 in
theorem eL(o:Own)(P:Int)(ws:List Wy)(hl:ws.length≤1000)(h:Hp):aX Tryz.prog 49 [mps o P ws] h (.bool (eK P ws)):=by
 refine aP (fun L=>trivial) fun h' nx hh=>aD L.aVx fun hd=>?_;have hmf:(mps o P ws).fits (.agg 2)=true:=by simp[mps,V.fits,V.aAD,wys]
 obtain⟨Q,hQ⟩:∃Q,Q=(cM P ws).1.1:=⟨_,rfl⟩;obtain⟨M,hM⟩:∃M,M=(cM P ws).1.2:=⟨_,rfl⟩;obtain⟨c,hcd⟩:∃c,c=(cM P ws).2:=⟨_,rfl⟩;have hr:eK P ws=decide (c=0∧M=ws):=by rw[hcd,hM];rfl
 obtain⟨o2,ho2⟩:=ri Q M;have hof:∀h,aX Tryz.prog 80 [.int .i64 P,wys o ws] h (.tup [mps o2 Q M, .int .i64 c]):=fun h=>by rw[←ho2,hQ,hM,hcd];exact vd o P ws hl h
 have aGn:(mps o2 Q M).fits (.agg 2)=true:=by simp[mps,V.fits,V.aAD,wys]
 clear hQ hM hcd ho2;rw[hr];simp only[jL,jM,jA,jB,jN,jO,jP,jQ,V.undef];by_cases hc0:c=0;rotate_left
 ·have h1:(c != 0)=true:=by simpa using hc0
  have C1:=fun h=>hof h;refine aue (ee3 hmf aGn h1) ?_;refine aG h' (by repeat (first|exact Ka _|refine aH hd ?_ or _|refine aL hd ?_ or)) ⟨?_,rfl⟩;simp only[hc0,go_sem,reduceIte,jA,jB,jC,jD,reduceCtorEq,jE,jF]
 have h1:(c != 0)=false:=by simpa using hc0
 by_cases hab:M.length=ws.length;rotate_left
 ·have hc:((M.length:Int) != (ws.length:Int))=true:=by simp;omega
  have C1:=fun h=>hof h;refine aue (ee4 hmf aGn h1 hc) ?_;refine aG h' (by repeat (first|exact Ka _|refine aH hd ?_ or _|refine aL hd ?_ or)) ⟨?_,rfl⟩;have:M≠ws:=by rintro rfl;exact hab rfl
  simp only[this,go_sem,reduceIte,jA,jB,jC,jD,reduceCtorEq,jE,jF]
 have hc:((M.length:Int) != (ws.length:Int))=false:=by simp;omega
 have C1:=fun h=>hof h;refine aue (ee4 hmf aGn h1 hc) ?_
 refine aT (fun i:Nat=>aB 43 0 [(1, .ptr nx (.agg 2) 0 0),(3, .ptr (nx+1) (.agg 2) 0 0),(5, .int .i64 i)])
  (fun i hp nx1=>i≤M.length∧hp nx=some (.arr (.agg 2) [mps o P ws])∧hp (nx+1)=some (.arr (.agg 2) [mps o2 Q M])∧Kb nx h' hp∧nx+2≤nx1∧M.take i=ws.take i) (fun i=>M.length-i) 0 ⟨Kg _,by simp only[go_sem,reduceIte,jA,jB,jC,jD,reduceCtorEq,jE,jF],by simp only[go_sem,reduceIte,jA,jB,jC,jD,reduceCtorEq,jE,jF],(by(try dsimp only);repeat (first|exact Hp.same.aBI|refine aV ?_ or _|refine aW ?_ or)),ZN,rfl⟩ ?_ ?_
 ·simp only[WkL,aB,jH,jI,jJ,wys,go_sem,reduceIte,jA,jB,jC,jD,reduceCtorEq,jE,jF]
 rintro i hp nx1 ⟨hi,hb0,hb1,hsm,hnx,hno⟩;generalize hQ:bO _ _ _ _ _=Q0;simp only[aB,go_sem,reduceIte,jA,jB,jC,jD,reduceCtorEq,jE,jF];rcases Kf i M.length with hlt|hge
 ·have hc:decide ((i:Int)<(ws.length:Int))=true:=decide_eq_true or;have aHi:i<ws.length:=or;have hg:=bI Wy.v M i hlt;have hg':=bI Wy.v ws i aHi;have hw:IntKind.i64.wrap ((i:Int)+1)=((i+1:Nat):Int):=by rw[aY]<;>omega
  by_cases he:M[i]=ws[i]
  ·have hd1:decide (M[i]=ws[i])=true:=decide_eq_true he;refine aue (ei hb0 hb1 hc hg hg' hlt aHi hw xM hd1 Wy.aAC) ?_;rw[←hQ];refine aF (i+1) or ⟨hlt,hb0,hb1,hsm,or,?_⟩ ?_
   ·rw[Kc hlt,Kc aHi,hno,he]
   simp only[WkL,aB,jH,jI,jJ,wys,go_sem,reduceIte,jA,jB,jC,jD,reduceCtorEq,jE,jF]
  have hd1:decide (M[i]=ws[i])=false:=decide_eq_false he;refine aue (ei hb0 hb1 hc hg hg' hlt aHi hw xM hd1 Wy.aAC) ?_;rw[←hQ];refine au ?_;refine aG h' (hsm.le hd (Ka _)) ⟨?_,rfl⟩;have:M≠ws:=by rintro rfl;exact he rfl
  simp only[this,go_sem,reduceIte,jA,jB,jC,jD,reduceCtorEq,jE,jF]
 have hc:decide ((i:Int)<(ws.length:Int))=false:=decide_eq_false or;refine aue (ee3 hb0 hb1 hc) ?_;rw[←hQ];refine au ?_;refine aG h' (hsm.le hd (Ka _)) ⟨?_,rfl⟩;have:M=ws:=by
  rw[Ke or,Ke or] at hno;exact hno
 simp only[hc0,this,go_sem,reduceIte,jA,jB,jC,jD,reduceCtorEq,jE,jF]
end Go.Proofs.YtecepaehmojpgaaGreat
