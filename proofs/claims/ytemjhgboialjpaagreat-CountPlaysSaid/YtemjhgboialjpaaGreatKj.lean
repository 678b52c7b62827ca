/-
Texts of this proof,one behind the other. No conditions.
-/
import Derived.Test.YtemjhgboialjpaaGreatKd
import Derived.Test.YtemjhgboialjpaaGreatKh
open Nat renaming reduceAdd→jA,reduceSub→jB,reduceLT→jC,reduceLeDiff→jD,reduceEqDiff→jE
open Int renaming reduceToNat→jF,toNat_natCast→jG,natCast_add→jH,natCast_one→jI,natCast_zero→jJ
open List renaming length_map→jK,length_cons→jL,length_nil→jM,replicate_succ→jN,replicate_zero→jO,cons_append→jP,nil_append→jQ
set_option linter.unusedSimpArgs false
set_option linter.unusedVariables false
set_option linter.unusedSectionVars false
namespace Go.Proofs.YtemjhgboialjpaaGreat
open Go.RowKit Go.Sort
attribute [local irreducible] IntKind.wrap
def jV(n m:Nat)(ν:Nat→Nat):List V:=fD n fun i=>if i<m then .rs (ν i) .leaf 0 n else .sl .leaf .nil []
def jY(n:Nat)(T:Nat→Nat→Bool)(i:Nat):List V:=fD n fun j=> .bool (T i j)
theorem pA(n m:Nat)(ν:Nat→Nat):(jV n m ν).length=n:=eR _ _
theorem kN(n:Nat)(T:Nat→Nat→Bool)(i:Nat):(jY n T i).length=n:=eR _ _
theorem pB{n m i:Nat}(ν:Nat→Nat)(h:i<n):(jV n m ν).getD i (.tup [])=if i<m then .rs (ν i) .leaf 0 n else .sl .leaf .nil []:=wH _ h
theorem nO{n j:Nat}(T:Nat→Nat→Bool)(i:Nat)(h:j<n):(jY n T i).getD j (.tup [])= .bool (T i j):=wH _ h
structure tG(h' hp:Hp)(nx nx1 n m:Nat)(mv:V)(T:Nat→Nat→Bool)(ν:Nat→Nat):Prop where
 box:hp nx=some (.arr (.agg 2) [mv])
 tab:hp (nx+1)=some (.arr .leaf (jV n m ν))
 row:∀i,i<m→i<n→hp (ν i)=some (.arr .leaf (jY n T i))∧nx+2≤ν i∧ν i<nx1
 apart:∀i j,i<m→j<m→i<n→j<n→i≠j→ν i≠ν j
 dom:aH hp nx1
 ge:nx+2≤nx1
 same:Hp.same nx h' hp
theorem tG.new{h' hp:Hp}{nx nx1 n m:Nat}{mv:V}{ν:Nat→Nat}(F:tG h' hp nx nx1 n m mv (fun _ _=>false) ν)(hm:m<n):
 tG h' ((hp.set nx1 (.arr .leaf (List.replicate n (.bool false)))).set (nx+1) (.arr .leaf ((jV n m ν).set m (.rs nx1 .leaf 0 n)))) nx (nx1+1) n (m+1) mv (fun _ _=>false) (fun k=>if k=m then nx1 else ν k):=by
 have hge:=F.ge
 have hs:∀y,y≠nx1→y≠nx+1→∀b c,((hp.set nx1 b).set (nx+1) c) y=hp y:=fun y h1 h2 b c=>by unfold Hp.set;rw[if_neg h2,if_neg h1]
 refine⟨by rw[hs _ (by omega) (by omega)];exact F.box,?_,fun i hi hin=>?_,fun i j hi hj hin hjn hij=>?_,?_,by omega,fun y hy=>?_⟩
 ·have:(jV n m ν).set m (.rs nx1 .leaf 0 n)=jV n (m+1) (fun k=>if k=m then nx1 else ν k):=by
   unfold jV
   rw[pQ]
   refine iP fun i hi=>?_
   by_cases e:i=m
   ·simp[e]
   by_cases e2:i<m
   ·have:i<m+1:=by omega
    simp[e,e2,this]
   have:¬i<m+1:=by omega
   simp[e,e2,this]
  rw[this]
  unfold Hp.set
  rw[if_pos rfl]
 ·by_cases e:i=m
  ·simp only[e,if_true]
   refine⟨?_,by omega,by omega⟩
   unfold Hp.set
   rw[if_neg (by omega),if_pos rfl,lQ]
   rfl
  simp only[e,if_false]
  obtain⟨a,b,c⟩:=F.row i (by omega) hin
  exact⟨by rw[hs _ (by omega) (by omega)];exact a,b,by omega⟩
 ·by_cases e:i=m<;>by_cases e2:j=m
  ·omega
  ·simp only[e,e2,if_true,if_false]
   have:=(F.row j (by omega) hjn).2.2;omega
  ·simp only[e,e2,if_true,if_false]
   have:=(F.row i (by omega) hin).2.2;omega
  simp only[e,e2,if_false]
  exact F.apart i j (by omega) (by omega) hin hjn hij
 ·exact(F.dom.set (by omega) (by omega) _).set2 (by omega) _
 rw[hs _ (by omega) (by omega)];exact F.same y hy
theorem tG.put{h' hp:Hp}{nx nx1 n:Nat}{mv:V}{T:Nat→Nat→Bool}{ν:Nat→Nat}(F:tG h' hp nx nx1 n n mv T ν){i j:Nat}(hi:i<n)(hj:j<n)(b:Bool):
 tG h' (hp.set (ν i) (.arr .leaf ((jY n T i).set j (.bool b)))) nx nx1 n n mv (upd T i j b) ν:=by
 obtain⟨a1,a2,a3⟩:=F.row i hi hi
 have hs:∀y,y≠ν i→∀c,(hp.set (ν i) c) y=hp y:=fun y h1 c=>by unfold Hp.set;rw[if_neg h1]
 refine⟨by rw[hs _ (by omega)];exact F.box,by rw[hs _ (by omega)];exact F.tab,fun x hx hxn=>?_,F.apart,F.dom.set2 a3 _,F.ge,fun y hy=>by rw[hs _ (by omega)];exact F.same y hy⟩
 obtain⟨b1,b2,b3⟩:=F.row x hx hxn
 refine⟨?_,b2,b3⟩
 by_cases e:x=i
 ·subst e
  unfold Hp.set
  rw[if_pos rfl]
  unfold jY
  rw[pQ]
  congr 2
  refine iP fun y hy=>?_
  unfold upd
  by_cases e:y=j
  ·simp[e]
  simp[e]
 rw[hs _ (F.apart x i hxn hi hxn hi e),b1]
 congr 2
 unfold jY
 refine iP fun y hy=>?_
 unfold upd
 rw[if_neg (fun h=>e h.1)]
theorem tG.up{h' hp:Hp}{nx nx1 nx2 n m:Nat}{mv:V}{T:Nat→Nat→Bool}{ν:Nat→Nat}(F:tG h' hp nx nx1 n m mv T ν)(h:nx1≤nx2):tG h' hp nx nx2 n m mv T ν:=
 ⟨F.box,F.tab,fun i hi hn=>⟨(F.row i hi hn).1,(F.row i hi hn).2.1,Nat.lt_of_lt_of_le (F.row i hi hn).2.2 h⟩,F.apart,F.dom.up h,Nat.le_trans F.ge h,F.same⟩
def oG(idle:Bool)(l:List We)(i j:Nat):Prop:=∃w∈l,(idle=false∨w.p.a=0)∧w.f=i∧w.t=j
open Classical in
noncomputable def dO(idle:Bool)(l:List We)(i j:Nat):Bool:=decide (eY (oG idle l) i j)
open Classical in
theorem nU(idle:Bool)(l:List We)(i j:Nat):dO idle l i j=true↔eY (oG idle l) i j:=by unfold dO;exact decide_eq_true_iff
set_option maxRecDepth 100000 in
set_option maxHeartbeats 4000000 in
theorem aEU(o:Own)(n:Nat)(l:List We)(idle:Bool)(hfit:wC n l)(hn:n≤200)(hl:l.length≤1000)(h':Hp)(nx:Nat):
 aX Tryz.prog 138 [.agg [.int .i64 n,wes o l], .bool idle] h' nx fun v h'' _=>∃O ν ls es,v= .rs O .leaf 0 ls.length∧nx≤O∧(∀i (hi:i<ls.length),ls[i]≠ []→nx≤ν i)∧xJ h'' O .leaf ν ls 0 es∧(∀x,x<nx→h'' x=h' x)∧ls=fD n (jY n (dO idle l)):=by
 refine aD L.corollaryref22_joined_low fun hd=>?_
 have hmf:(V.agg [.int .i64 (n:Int),wes o l]).fits (.agg 2)=true:=by simp[V.fits,V.leafy]
 have hstb:∀b c,bO .leaf 0 (.bool b) (.bool c)= .bool c:=fun _ _=>rfl
 have hstr:∀m,bO .leaf 0 (.sl .leaf .nil []) (.rs m .leaf 0 n)= .rs m .leaf 0 n:=fun _=>rfl
 simp only[jL,jM,jA,jB,jN,jO,jP,jQ,V.undef]
 obtain⟨mv,hmv⟩:∃mv:V,mv= .agg [.int .i64 (n:Int),wes o l]:=⟨_,rfl⟩
 refine aue hmf ?_
 have F0:tG h' ((h'.set nx (.arr (.agg 2) [mv])).set (nx+1) (.arr .leaf (List.replicate n (.sl .leaf .nil [])))) nx (nx+2) n 0 mv (fun _ _=>false) (fun _=>0):=by
  refine⟨by simp only[go_sem,reduceIte,jA,jB,jC,jD,reduceCtorEq,jE,jF],?_,fun i hi=>absurd hi (by omega),fun i j hi=>absurd hi (by omega),(by(try dsimp only);repeat (first|exact aH.up hd (by omega)|refine aH.set2 ?_ (by omega) _|refine aH.del ?_|refine aH.delO ?_ _)),Nat.le_refl _,(by(try dsimp only);repeat (first|exact Hp.same.rfl'|refine aS ?_ (by omega) _|refine aT ?_ (by omega)))⟩
  simp only[go_sem,reduceIte,jA,jB,jC,jD,reduceCtorEq,jE,jF]
  rw[lQ]
  rfl
 rw[hmv] at F0
 refine aP (fun q:Nat×(Nat→Nat)=>aB 111 0 [(1, .bool idle),(2, .ptr nx (.agg 2) 0 0),(5, .rs (nx+1) .leaf 0 n),(6, .int .i64 q.1)])
  (fun q hp nx1=>q.1≤n∧tG h' hp nx nx1 n q.1 mv (fun _ _=>false) q.2)
  (fun q=>n-q.1) (0,fun _=>0) ⟨Nat.zero_le _,by rw[hmv];exact F0⟩ ?_ ?_
 ·simp only[WkL,aB,jH,jI,jJ,go_sem,reduceIte,jA,jB,jC,jD,reduceCtorEq,jE,jF]
 clear F0
 rintro⟨i,ν⟩ hp nx1 ⟨hi,F⟩
 generalize hQ:bG _ _ _ _ _=Q0
 dsimp only at hi F
 simp only[aB,go_sem,reduceIte,jA,jB,jC,jD,reduceCtorEq,jE,jF]
 have hbox:=F.box
 rw[hmv] at hbox
 have htab:=F.tab
 have hge:=F.ge
 have l1:nx<nx1:=by omega
 have l2:nx+1<nx1:=by omega
 have hlen:=pA n i ν
 rcases Nat.lt_or_ge i n with hlt|hge2
 ·have hc:decide ((i:Int)<(n:Int))=true:=decide_eq_true (by omega)
  have hw:IntKind.i64.wrap ((i:Int)+1)=((i+1:Nat):Int):=by rw[aV]<;>omega
  have hg:(jV n i ν).getD i (.tup [])= .sl .leaf .nil []:=by rw[pB ν hlt,if_neg (by omega)]
  refine aue (aJq hbox htab hc hw hg hlen hlt hstr l1 l2) ?_
  rw[←hQ]
  refine aC (i+1,fun k=>if k=i then nx1 else ν k) (by dsimp only;omega) ⟨hlt,(F.new hlt).up (by omega)⟩ ?_
  simp only[WkL,aB,jH,jI,jJ,go_sem,reduceIte,jA,jB,jC,jD,reduceCtorEq,jE,jF]
 have hc:decide ((i:Int)<(n:Int))=false:=decide_eq_false (by omega)
 have hin:i=n:=by omega
 subst hin
 refine aue (ee2 hbox hc) ?_
 rw[←hQ]
 refine aue hc ?_
 clear hbox htab hge l1 l2 hlen hge2 hc
 refine aP (fun q:Nat×(Nat→Nat→Bool)=>aB 111 0 [(1, .bool idle),(2, .ptr nx (.agg 2) 0 0),(5, .rs (nx+1) .leaf 0 i),(7, .int .i64 q.1)])
  (fun q hp nx1=>q.1≤l.length∧tG h' hp nx nx1 i i mv q.2 ν∧∀x y,x<i→y<i→(q.2 x y=true↔oG idle (l.take q.1) x y))
  (fun q=>l.length-q.1) (0,fun _ _=>false) ⟨Nat.zero_le _,F,fun x y _ _=>by simp[oG]⟩ ?_ ?_
 ·simp only[WkL,aB,jH,jI,jJ,go_sem,reduceIte,jA,jB,jC,jD,reduceCtorEq,jE,jF]
 clear F
 rintro⟨j,T⟩ hp nx1 ⟨hj,F,hT⟩
 generalize hQ1:bG _ _ _ _ _=Q1
 dsimp only at hj F hT
 simp only[aB,go_sem,reduceIte,jA,jB,jC,jD,reduceCtorEq,jE,jF]
 have hbox:=F.box
 rw[hmv] at hbox
 have htab:=F.tab
 have hge:=F.ge
 have l1:nx<nx1:=by omega
 have l2:nx+1<nx1:=by omega
 have hlen:=pA i i ν
 rcases Nat.lt_or_ge j l.length with hlt|hge2
 ·have hc:decide ((j:Int)<(l.length:Int))=true:=decide_eq_true (by omega)
  have hw:IntKind.i64.wrap ((j:Int)+1)=((j+1:Nat):Int):=by rw[aV]<;>omega
  have hg:(l.map We.v).getD j (.tup [])= .agg [.int .i64 l[j].f, .int .i64 l[j].t, .bool l[j].p.n, .int .i64 l[j].p.a]:=bE We.v l j hlt
  have hwf:=hfit l[j] (List.getElem_mem _)
  have htk:l.take (j+1)=l.take j++[l[j]]:=List.take_succ_eq_append_getElem hlt
  have hrow:=(F.row l[j].f hwf.1 hwf.1).1
  have hrl:=kN i T l[j].f
  have hgf:(jV i i ν).getD l[j].f (.tup [])= .rs (ν l[j].f) .leaf 0 i:=by rw[pB ν hwf.1,if_pos hwf.1]
  have hgt:=nO T l[j].f hwf.2.1
  have h1:=hwf.1
  have h2:=hwf.2.1
  have yes:(idle=false∨l[j].p.a=0)→∀x y,x<i→y<i→(upd T l[j].f l[j].t true x y=true↔oG idle (l.take (j+1)) x y):=fun hor x y hx hy=>by
   unfold upd
   rw[htk]
   by_cases e:x=l[j].f∧y=l[j].t
   ·rw[if_pos e]
    exact⟨fun _=>⟨l[j],List.mem_append_right _ (List.mem_singleton.2 rfl),hor,e.1.symm,e.2.symm⟩,fun _=>rfl⟩
   rw[if_neg e,hT x y hx hy]
   constructor
   ·rintro⟨w,hw,q⟩;exact⟨w,List.mem_append_left _ hw,q⟩
   rintro⟨w,hw,q⟩
   rcases List.mem_append.1 hw with hw|hw
   ·exact⟨w,hw,q⟩
   simp at hw;subst hw;exact absurd ⟨q.2.1.symm,q.2.2.symm⟩ e
  have no:¬(idle=false∨l[j].p.a=0)→∀x y,x<i→y<i→(T x y=true↔oG idle (l.take (j+1)) x y):=fun hor x y hx hy=>by
   rw[htk,hT x y hx hy]
   constructor
   ·rintro⟨w,hw,q⟩;exact⟨w,List.mem_append_left _ hw,q⟩
   rintro⟨w,hw,q⟩
   rcases List.mem_append.1 hw with hw|hw
   ·exact⟨w,hw,q⟩
   simp at hw;subst hw;exact absurd q.1 hor
  by_cases hid:idle=false
  ·subst hid
   refine aue (aKn hbox htab hc hw hg hlen hlt hrow hrl hgf hgt h1 h2 hstb l1 l2) ?_
   rw[←hQ1]
   refine aC (j+1,upd T l[j].f l[j].t true) (by dsimp only;omega) ⟨hlt,(F.put h1 h2 true).up (by omega),yes (.inl rfl)⟩ ?_
   simp only[WkL,aB,jH,jI,jJ,go_sem,reduceIte,jA,jB,jC,jD,reduceCtorEq,jE,jF]
  have hid':idle=true:=by simpa using hid
  subst hid'
  by_cases ha:l[j].p.a=0
  ·have hac:(l[j].p.a==0)=true:=by simp[ha]
   refine aue (aKW hbox htab hc hw hg hac hlen hlt hrow hrl hgf hgt h1 h2 hstb l1 l2) ?_
   rw[←hQ1]
   refine aC (j+1,upd T l[j].f l[j].t true) (by dsimp only;omega) ⟨hlt,(F.put h1 h2 true).up (by omega),yes (.inr ha)⟩ ?_
   simp only[WkL,aB,jH,jI,jJ,go_sem,reduceIte,jA,jB,jC,jD,reduceCtorEq,jE,jF]
  have hac:(l[j].p.a==0)=false:=by simp[ha]
  refine aue (aKW hbox htab hc hw hg hac hlen hlt hrow hrl hgf hgt h1 h2 hstb l1 l2) ?_
  rw[←hQ1]
  refine aC (j+1,T) (by dsimp only;omega) ⟨hlt,F,no (fun h=>h.elim (fun h=>by cases h) ha)⟩ ?_
  simp only[WkL,aB,jH,jI,jJ,go_sem,reduceIte,jA,jB,jC,jD,reduceCtorEq,jE,jF]
 have hc:decide ((j:Int)<(l.length:Int))=false:=decide_eq_false (by omega)
 have hjl:l.take j=l:=List.take_of_length_le (by omega)
 rw[hjl] at hT
 refine aue (ee4 hbox hc l1 l2) ?_
 rw[←hQ1]
 refine aue hc ?_
 have hE:∀a b,oG idle l a b→a<i∧b<i:=by
  rintro a b ⟨w,hw,_,rfl,rfl⟩
  exact⟨(hfit w hw).1,(hfit w hw).2.1⟩
 clear hbox htab hge l1 l2 hlen hge2 hc hj hjl
 refine aP (fun q:Nat×(Nat→Nat→Bool)=>aB 111 0 [(2, .ptr nx (.agg 2) 0 0),(5, .rs (nx+1) .leaf 0 i),(8, .int .i64 q.1)])
  (fun q hp nx1=>q.1≤i∧tG h' hp nx nx1 i i mv q.2 ν∧Wsh (oG idle l) i q.1 0 0 q.2)
  (fun q=>i-q.1) (0,T) ⟨Nat.zero_le _,F,Wsh.first hT⟩ ?_ ?_
 ·simp only[WkL,aB,jH,jI,jJ,go_sem,reduceIte,jA,jB,jC,jD,reduceCtorEq,jE,jF]
 clear F hT
 rintro⟨k,T⟩ hp nx1 ⟨hk,F,W⟩
 generalize hQ2:bG _ _ _ _ _=Q2
 dsimp only at hk F W
 simp only[aB,go_sem,reduceIte,jA,jB,jC,jD,reduceCtorEq,jE,jF]
 have hbox:=F.box
 rw[hmv] at hbox
 have hge:=F.ge
 have l1:nx<nx1:=by omega
 rcases Nat.lt_or_ge k i with hkl|hge2
 ·have hc:decide ((k:Int)<(i:Int))=true:=decide_eq_true (by omega)
  have hw:IntKind.i64.wrap ((k:Int)+1)=((k+1:Nat):Int):=by rw[aV]<;>omega
  refine aue (ee3 hbox hc l1) ?_
  refine aP (fun q:Nat×(Nat→Nat→Bool)=>aB 111 0 [(2, .ptr nx (.agg 2) 0 0),(5, .rs (nx+1) .leaf 0 i),(8, .int .i64 k),(9, .int .i64 q.1)])
   (fun q hp nx1=>q.1≤i∧tG h' hp nx nx1 i i mv q.2 ν∧Wsh (oG idle l) i k q.1 0 q.2)
   (fun q=>i-q.1) (0,T) ⟨Nat.zero_le _,F,W⟩ ?_ ?_
  ·simp only[WkL,aB,jH,jI,jJ,go_sem,reduceIte,jA,jB,jC,jD,reduceCtorEq,jE,jF]
  clear F W hbox hge l1
  rintro⟨x,T⟩ hp nx1 ⟨hx,F,W⟩
  generalize hQ3:bG _ _ _ _ _=Q3
  dsimp only at hx F W
  simp only[aB,go_sem,reduceIte,jA,jB,jC,jD,reduceCtorEq,jE,jF]
  have hbox:=F.box
  rw[hmv] at hbox
  have hge:=F.ge
  have l1:nx<nx1:=by omega
  rcases Nat.lt_or_ge x i with hxl|hge3
  ·have hc3:decide ((x:Int)<(i:Int))=true:=decide_eq_true (by omega)
   have hw3:IntKind.i64.wrap ((x:Int)+1)=((x+1:Nat):Int):=by rw[aV]<;>omega
   refine aue (ee3 hbox hc3 l1) ?_
   refine aP (fun q:Nat×(Nat→Nat→Bool)=>aB 111 0 [(2, .ptr nx (.agg 2) 0 0),(5, .rs (nx+1) .leaf 0 i),(8, .int .i64 k),(9, .int .i64 x),(10, .int .i64 q.1)])
    (fun q hp nx1=>q.1≤i∧tG h' hp nx nx1 i i mv q.2 ν∧Wsh (oG idle l) i k x q.1 q.2)
    (fun q=>i-q.1) (0,T) ⟨Nat.zero_le _,F,W⟩ ?_ ?_
   ·simp only[WkL,aB,jH,jI,jJ,go_sem,reduceIte,jA,jB,jC,jD,reduceCtorEq,jE,jF]
   clear F W hbox hge l1
   rintro⟨y,T⟩ hp nx1 ⟨hy,F,W⟩
   generalize hQ4:bG _ _ _ _ _=Q4
   dsimp only at hy F W
   simp only[aB,go_sem,reduceIte,jA,jB,jC,jD,reduceCtorEq,jE,jF]
   have hbox:=F.box
   rw[hmv] at hbox
   have htab:=F.tab
   have hge:=F.ge
   have l1:nx<nx1:=by omega
   have l2:nx+1<nx1:=by omega
   have hlen:=pA i i ν
   have hrx:=(F.row x hxl hxl).1
   have hrk:=(F.row k hkl hkl).1
   have hrlx:=kN i T x
   have hrlk:=kN i T k
   have hgx:(jV i i ν).getD x (.tup [])= .rs (ν x) .leaf 0 i:=by rw[pB ν hxl,if_pos hxl]
   have hgk:(jV i i ν).getD k (.tup [])= .rs (ν k) .leaf 0 i:=by rw[pB ν hkl,if_pos hkl]
   have hxk:=nO T x hkl
   rcases Nat.lt_or_ge y i with hyl|hge4
   ·have hc4:decide ((y:Int)<(i:Int))=true:=decide_eq_true (by omega)
    have hw4:IntKind.i64.wrap ((y:Int)+1)=((y+1:Nat):Int):=by rw[aV]<;>omega
    have hxy:=nO T x hyl
    have hky:=nO T k hyl
    cases hb:T x k with
    |true=>
     rw[hb] at hxk
     have hs:=W.step hkl hxl hyl hb
     cases hb1:T x y with
     |true=>
      rw[hb1] at hxy hs
      refine aue (aLq hbox htab hc4 hw4 hlen hrx hrk hrlx hrlk hgx hgk hxk hxy hky hxl hkl hyl hstb l1 l2) ?_
      rw[←hQ4]
      refine aC (y+1,upd T x y true) (by dsimp only;omega) ⟨hyl,(F.put hxl hyl true).up (by omega),hs⟩ ?_
      simp only[WkL,aB,jH,jI,jJ,go_sem,reduceIte,jA,jB,jC,jD,reduceCtorEq,jE,jF]
     |false=>
      rw[hb1] at hxy hs
      rw[Bool.false_or] at hs
      refine aue (aLq hbox htab hc4 hw4 hlen hrx hrk hrlx hrlk hgx hgk hxk hxy hky hxl hkl hyl hstb l1 l2) ?_
      rw[←hQ4]
      refine aC (y+1,upd T x y (T k y)) (by dsimp only;omega) ⟨hyl,(F.put hxl hyl (T k y)).up (by omega),hs⟩ ?_
      simp only[WkL,aB,jH,jI,jJ,go_sem,reduceIte,jA,jB,jC,jD,reduceCtorEq,jE,jF]
    |false=>
     rw[hb] at hxk
     have hs:=W.no hkl hxl hb
     refine aue (aLs hbox htab hc4 hlen hrx hrlx hgx hxk hxl hkl l1 l2) ?_
     rw[←hQ4]
     refine aue hw3 ?_
     rw[←hQ3]
     refine aC (x+1,T) (by dsimp only;omega) ⟨hxl,F,hs⟩ ?_
     simp only[WkL,aB,jH,jI,jJ,go_sem,reduceIte,jA,jB,jC,jD,reduceCtorEq,jE,jF]
   have hc4:decide ((y:Int)<(i:Int))=false:=decide_eq_false (by omega)
   have hyi:y=i:=by omega
   subst hyi
   refine aue (ee4 hbox hc4 l1 l2) ?_
   rw[←hQ4]
   refine aue hw3 ?_
   rw[←hQ3]
   refine aC (x+1,T) (by dsimp only;omega) ⟨hxl,F,W.rowEnd⟩ ?_
   simp only[WkL,aB,jH,jI,jJ,go_sem,reduceIte,jA,jB,jC,jD,reduceCtorEq,jE,jF]
  have hc3:decide ((x:Int)<(i:Int))=false:=decide_eq_false (by omega)
  have hxi:x=i:=by omega
  subst hxi
  refine aue (ee3 hbox hc3 l1) ?_
  rw[←hQ3]
  refine aue hw ?_
  rw[←hQ2]
  refine aC (k+1,T) (by dsimp only;omega) ⟨hkl,F,W.next⟩ ?_
  simp only[WkL,aB,jH,jI,jJ,go_sem,reduceIte,jA,jB,jC,jD,reduceCtorEq,jE,jF]
 have hc:decide ((k:Int)<(i:Int))=false:=decide_eq_false (by omega)
 have hki:k=i:=by omega
 subst hki
 refine aue (ee3 hbox hc l1) ?_
 rw[←hQ2]
 refine au ?_
 have hTJ:∀x,x<k→jY k T x=jY k (dO idle l) x:=fun x hx=>iP fun y hy=>by
  have:T x y=dO idle l x y:=by rw[Bool.eq_iff_iff,nU];exact W.done hE x y hx hy
  rw[this]
 have hgl:∀x (hx:x<(fD k (jY k (dO idle l))).length),(fD k (jY k (dO idle l)))[x]=jY k (dO idle l) x:=fun x hx=>by simp[fD]
 refine aF hp (Hp.le_refl _) ⟨nx+1,ν,fD k (jY k (dO idle l)),jV k k ν,?_,by omega,fun x hx hne=>?_,?_,F.same,rfl⟩
 ·simp only[eR,go_sem,reduceIte,jA,jB,jC,jD,reduceCtorEq,jE,jF]
 ·have hx':x<k:=by simpa [eR] using hx
  have:=(F.row x hx' hx').2.1
  omega
 refine⟨F.tab,by rw[pA,eR],fun x hx hx' h0=>absurd h0 (by omega),fun x hx hx' _=>?_,fun x hx _ hne=>?_,fun x x' hx hx' _ hlt hne hne'=>?_⟩
 ·have hxk:x<k:=by simpa [eR] using hx
  rw[hgl]
  have h1:(jV k k ν)[x]= .rs (ν x) .leaf 0 k:=by simp[jV,fD,hxk]
  rw[h1]
  unfold rZ
  have h2:(jY k (dO idle l) x).isEmpty=false:=by
   cases e:jY k (dO idle l) x with
   |nil=>have:=kN k (dO idle l) x;rw[e] at this;simp at this;omega
   |cons=>rfl
  rw[h2,kN]
  rfl
 ·have hxk:x<k:=by simpa [eR] using hx
  rw[hgl,←hTJ x hxk]
  have:=F.row x hxk hxk
  exact⟨this.1,by omega⟩
 have hxk:x<k:=by simpa [eR] using hx
 have hxk':x'<k:=by simpa [eR] using hx'
 exact F.apart x x' hxk hxk' hxk hxk' (by omega)
noncomputable def aKD(n:Nat)(idle:Bool)(l:List We):V:= .sl .leaf .free ((fD n (jY n (dO idle l))).map (lst .leaf))
theorem xW(o:Own)(n:Nat)(l:List We)(idle:Bool)(hfit:wC n l)(hn:n≤200)(hl:l.length≤1000)(h:Hp):
 aW Tryz.prog 138 [.agg [.int .i64 n,wes o l], .bool idle] h (aKD n idle l):=by
 refine aR (fun L=>?_) fun h' nx hh=>(mL (G:=fun ls=>ls=fD n (jY n (dO idle l))) (aEU o n l idle hfit hn hl h' nx)).mono ?_
 ·unfold aKD
  simp only[V.names,true_and,and_true]
  refine⟨fun n e=>(by cases e),?_⟩
  unfold fD
  rw[List.map_map]
  exact bI (f:=lst .leaf∘jY n (dO idle l)) (fun i=>cE (fun L=>by unfold jY fD;exact bI (f:=fun j=>V.bool (dO idle l i j)) (fun j=>trivial) _) L) _
 rintro v h'' nx2 hnx ⟨ls,rfl,rfl,rfl⟩
 exact⟨rfl,rfl⟩
theorem oS(a b:Int):a<b∨b≤a:=by omega
theorem yA(l:List We):oG false l=tI l:=by
 funext i j
 simp[oG,tI]
theorem aAJ(l:List We):oG true l=fun a b=>(a,b)∈zE l:=by
 funext i j
 apply propext
 rw[aIv]
 constructor
 ·rintro⟨w,h1,h2,h3,h4⟩
  exact⟨w,h1,h2.elim (fun h=>by cases h) id,by rw[h3,h4]⟩
 rintro⟨w,h1,h2,h3⟩
 injection h3 with h3 h4
 exact⟨w,h1, .inr h2,h3,h4⟩
theorem aHa{n:Nat}{l:List We}{b:Bool}{i:Nat}(hi:i<n):((fD n (jY n (dO b l))).map (lst .leaf)).getD i (.tup [])= .sl .leaf .free (jY n (dO b l) i):=by
 have h1:i<((fD n (jY n (dO b l))).map (lst .leaf)).length:=by simpa [eR] using hi
 rw[List.getD_eq_getElem?_getD,List.getElem?_eq_getElem h1]
 simp only[List.getElem_map,fD,List.getElem_range,Option.getD_some]
 unfold lst
 have h2:=kN n (dO b l) i
 cases e:jY n (dO b l) i with
 |nil=>rw[e] at h2;simp at h2;omega
 |cons=>rfl
theorem aCA(n:Nat)(b:Bool)(l:List We):((fD n (jY n (dO b l))).map (lst .leaf)).length=n:=by rw[jK,eR]
theorem aGl{n:Int}{oo:Own}{M:List Wy}{c:Int}(h:(M=[]∧oo= .nil)∨(M≠ []∧oo≠ .nil)):(V.tup [.agg [.int .i64 n,wys oo M], .int .i64 c]).loose2= .tup [wP n M, .int .i64 c]:=by
 rcases h with⟨rfl,rfl⟩|⟨h1,h2⟩
 ·rfl
 cases M with
 |nil=>exact absurd rfl h1
 |cons w M=>cases oo<;>first|exact absurd rfl h2|rfl
theorem aHc(l:List Wy)(w:Wy):nF Wy.less l w≠ []:=by
 cases l with
 |nil=>simp[nF]
 |cons x l=>unfold nF;repeat' split
            all_goals simp
theorem aFb(ws:List Wy)(i:Nat)(h:i<ws.length):jT Wy.less (ws.take (i+1))=nF Wy.less (jT Wy.less (ws.take i)) ws[i]:=by
 rw[List.take_succ_eq_append_getElem h]
 unfold jT
 rw[List.foldl_append]
 rfl
theorem aGu(l:List Wy):(jT Wy.less l).length≤l.length:=by rw[←mI];exact mH l
set_option maxRecDepth 100000 in
set_option maxHeartbeats 4000000 in
theorem aGc(o:Own)(P:Int)(ws:List Wy)(hl:ws.length≤1000)(h:Hp):aW Tryz.prog 70 [.int .i64 P,wys o ws] h (.tup [wP (cC P ws).1.1 (cC P ws).1.2, .int .i64 (cC P ws).2]):=by
 refine zZ (fun L=>by simp[V.names,bP,sQ]) fun h' nx hh=>aD L.corollaryref22_Of_low fun hd=>?_
 simp only[jL,jM,jA,jB,jN,jO,jP,jQ,V.undef]
 have e1:(P<0∨200<P)→cC P ws=((0,[]),1):=fun h=>by
  unfold cC
  rw[if_pos (h.elim .inl fun h=> .inr (.inl h))]
 rcases oS P 0 with hP|hP
 ·have hc1:decide (P<0)=true:=decide_eq_true hP
  have hmf:(V.agg [V.int .i64 0,V.sl (.agg 4) .nil []]).fits (.agg 2)=true:=rfl
  refine aue (ee2 hc1 hmf) ?_
  refine cA (by simp only[go_sem,reduceIte,jA,jB,jC,jD,reduceCtorEq,jE,jF]) h' (by repeat (first|exact Hp.le_refl _|refine aK hd ?_ (by omega) _|refine aL hd ?_ (by omega))) ⟨?_,Hp.le_refl _⟩
  simp only[go_sem,reduceIte,jA,jB,jC,jD,reduceCtorEq,jE,jF]
  rw[e1 (.inl hP)]
  rfl
 rcases oS 200 P with hP2|hP2
 ·have hc1:decide (P<0)=false:=decide_eq_false (by omega)
  have hc2:decide (P>200)=true:=decide_eq_true (by omega)
  have hmf:(V.agg [V.int .i64 0,V.sl (.agg 4) .nil []]).fits (.agg 2)=true:=rfl
  refine aue (ee3 hc1 hc2 hmf) ?_
  refine cA (by simp only[go_sem,reduceIte,jA,jB,jC,jD,reduceCtorEq,jE,jF]) h' (by repeat (first|exact Hp.le_refl _|refine aK hd ?_ (by omega) _|refine aL hd ?_ (by omega))) ⟨?_,Hp.le_refl _⟩
  simp only[go_sem,reduceIte,jA,jB,jC,jD,reduceCtorEq,jE,jF]
  rw[e1 (.inr hP2)]
  rfl
 have hc1:decide (P<0)=false:=decide_eq_false (by omega)
 have hc2:decide (P>200)=false:=decide_eq_false (by omega)
 have hmf:∀m oo M,(V.agg [V.int .i64 m,wys oo M]).fits (.agg 2)=true:=fun _ _ _=>by simp[V.fits,V.leafy]
 have hmf0:(V.agg [V.int .i64 0,V.sl (.agg 4) .nil []]).fits (.agg 2)=true:=rfl
 have hmfw:∀oo l,(V.agg [V.int .i64 P,wes oo l]).fits (.agg 2)=true:=fun _ _=>by simp[V.fits,V.leafy]
 have hex:∀(code:Int) (sl:List V) (h2:Hp) (nx2:Nat),cC P ws=((0,[]),code)→Hp.same nx h' h2→h2 nx=some (.arr (.agg 2) [.agg [.int .i64 0, .sl (.agg 4) .nil []]])→sl.getD 4 V.undef= .ptr nx (.agg 2) 0 0→sl.getD 5 V.undef= .int .i64 code→pX [tF.cell 4 (.agg 2),tF.slot 5] (fun v' h'' x=>v'.loose2= .tup [wP (cC P ws).1.1 (cC P ws).1.2, .int .i64 (cC P ws).2]∧h'.le h'') cB.ret ⟨sl,h2,nx2⟩:=fun code sl h2 nx2 q0 q2 q1 q3 q4=>by
  have q3':sl.getD 4 (.tup [])= .ptr nx (.agg 2) 0 0:=q3
  refine cA (by simp only[bK.ok,aN.ev,q1,q3',q3,V.undef,go_sem,reduceIte,jA,jB,jC,jD,reduceCtorEq,jE,jF]) h' (q2.le hd (Hp.le_refl _)) ⟨?_,Hp.le_refl _⟩
  rw[q0,q4]
  simp only[bK.out,aN.ev,q1,q3',q3,V.undef,go_sem,reduceIte,jA,jB,jC,jD,reduceCtorEq,jE,jF]
  rfl
 refine aue (ee3 hc1 hc2 hmf0) ?_
 refine aP (fun q:Nat×Own=>aB 138 0 [(0, .int .i64 P),(1,wys o ws),(4, .ptr nx (.agg 2) 0 0),(6, .ptr (nx+1) (.agg 2) 0 0),(7, .int .i64 q.1)])
  (fun q hp nx1=>q.1≤ws.length∧nx+2≤nx1∧aH hp nx1∧hp nx=some (.arr (.agg 2) [.agg [.int .i64 0, .sl (.agg 4) .nil []]])∧hp (nx+1)=some (.arr (.agg 2) [.agg [.int .i64 P,wys q.2 (jT Wy.less (ws.take q.1))]])∧Hp.same nx h' hp∧((jT Wy.less (ws.take q.1)=[]∧q.2= .nil)∨(jT Wy.less (ws.take q.1)≠ []∧q.2≠ .nil))∧∀w∈ws.take q.1,w.fit P=true)
  (fun q=>ws.length-q.1) (0, .nil) ⟨Nat.zero_le _,by dsimp only;omega,(by(try dsimp only);repeat (first|exact aH.up hd (by omega)|refine aH.set2 ?_ (by omega) _|refine aH.del ?_|refine aH.delO ?_ _)),by simp only[go_sem,reduceIte,jA,jB,jC,jD,reduceCtorEq,jE,jF],by simp only[jT,List.foldl_nil,wys,List.map_nil,go_sem,reduceIte,jA,jB,jC,jD,reduceCtorEq,jE,jF],(by(try dsimp only);repeat (first|exact Hp.same.rfl'|refine aS ?_ (by omega) _|refine aT ?_ (by omega))), .inl ⟨rfl,rfl⟩,fun w hw=>by simp at hw⟩ ?_ ?_
 ·simp only[WkL,aB,jH,jI,jJ,wys,go_sem,reduceIte,jA,jB,jC,jD,reduceCtorEq,jE,jF]
 rintro⟨i,oo⟩ hp nx1 ⟨hi,hnx,hdm,hb0,hb1,hsm,hoo,hfits⟩
 generalize hQ:bG _ _ _ _ _=Q0
 dsimp only at hi hb1 hoo hfits
 simp only[aB,go_sem,reduceIte,jA,jB,jC,jD,reduceCtorEq,jE,jF]
 have l1:nx<nx1:=by omega
 have l2:nx+1<nx1:=by omega
 rcases Nat.lt_or_ge i ws.length with hlt|hge
 ·have hc:decide ((i:Int)<(ws.length:Int))=true:=decide_eq_true (by omega)
  have hg:(ws.map Wy.v).getD i (.tup [])= .agg [.int .i64 ws[i].f, .int .i64 ws[i].t, .bool ws[i].p.n, .int .i64 ws[i].p.a]:=bE Wy.v ws i hlt
  have hw:IntKind.i64.wrap ((i:Int)+1)=((i+1:Nat):Int):=by rw[aV]<;>omega
  have htk:ws.take (i+1)=ws.take i++[ws[i]]:=List.take_succ_eq_append_getElem hlt
  have hins:=aFb ws i hlt
  have hil:(jT Wy.less (ws.take i)).length≤100000:=Nat.le_trans (aGu _) (by simp;omega)
  obtain⟨M,hM⟩:∃M,M=jT Wy.less (ws.take i):=⟨_,rfl⟩
  rw[←hM] at hb1 hoo hins hil
  have hmem:ws[i]∈ws:=List.getElem_mem _
  have hbad:ws[i].fit P=false→cC P ws=((0,[]),1):=fun h=>by
   unfold cC
   rw[if_pos (.inr (.inr ⟨_,hmem,h⟩))]
  obtain⟨w,hwi⟩:∃w,w=ws[i]:=⟨_,rfl⟩
  rw[←hwi] at hg htk hins hbad
  have hdef:w.fit P=(decide (0≤w.f)&&(decide (w.f<P)&&(decide (0≤w.t)&&(decide (w.t<P)&&w.p.ok)))):=rfl
  rcases oS w.f 0 with f1|f1
  ·have hd1:decide (w.f<0)=true:=decide_eq_true f1
   have hn:cC P ws=((0,[]),1):=hbad (by rw[hdef,decide_eq_false (by omega)];rfl)
   refine aue (ee9 hb0 hb1 hc hg hlt l1 l2 hmf0 hd1) ?_
   rw[←hQ]
   refine au ?_
   refine hex 1 _ _ _ hn ?_ ?_ ?_ ?_
   ·exact(by(try dsimp only);repeat (first|exact hsm|refine aS ?_ (by omega) _|refine aT ?_ (by omega)))
   ·simp only[go_sem,reduceIte,jA,jB,jC,jD,reduceCtorEq,jE,jF]
   ·rfl
   rfl
  rcases oS w.t 0 with f2|f2
  ·have hd1:decide (w.f<0)=false:=decide_eq_false (by omega)
   have hd2:decide (w.t<0)=true:=decide_eq_true f2
   have hn:cC P ws=((0,[]),1):=hbad (by rw[hdef,decide_eq_false (show¬(0:Int)≤w.t by omega)];simp)
   refine aue (aJq hb0 hb1 hc hg hlt l1 l2 hmf0 hd1 hd2) ?_
   rw[←hQ]
   refine au ?_
   refine hex 1 _ _ _ hn ?_ ?_ ?_ ?_
   ·exact(by(try dsimp only);repeat (first|exact hsm|refine aS ?_ (by omega) _|refine aT ?_ (by omega)))
   ·simp only[go_sem,reduceIte,jA,jB,jC,jD,reduceCtorEq,jE,jF]
   ·rfl
   rfl
  rcases oS w.f P with f3|f3
  rotate_left
  ·have hd1:decide (w.f<0)=false:=decide_eq_false (by omega)
   have hd2:decide (w.t<0)=false:=decide_eq_false (by omega)
   have hd3:decide (w.f≥P)=true:=decide_eq_true f3
   have hn:cC P ws=((0,[]),1):=hbad (by rw[hdef,decide_eq_false (show¬w.f<P by omega)];simp)
   refine aue (aDt hb0 hb1 hc hg hlt l1 l2 hmf0 hd1 hd2 hd3) ?_
   rw[←hQ]
   refine au ?_
   refine hex 1 _ _ _ hn ?_ ?_ ?_ ?_
   ·exact(by(try dsimp only);repeat (first|exact hsm|refine aS ?_ (by omega) _|refine aT ?_ (by omega)))
   ·simp only[go_sem,reduceIte,jA,jB,jC,jD,reduceCtorEq,jE,jF]
   ·rfl
   rfl
  rcases oS w.t P with f4|f4
  rotate_left
  ·have hd1:decide (w.f<0)=false:=decide_eq_false (by omega)
   have hd2:decide (w.t<0)=false:=decide_eq_false (by omega)
   have hd3:decide (w.f≥P)=false:=decide_eq_false (by omega)
   have hd4:decide (w.t≥P)=true:=decide_eq_true f4
   have hn:cC P ws=((0,[]),1):=hbad (by rw[hdef,decide_eq_false (show¬w.t<P by omega)];simp)
   refine aue (aLs hb0 hb1 hc hg hlt l1 l2 hmf0 hd1 hd2 hd3 hd4) ?_
   rw[←hQ]
   refine au ?_
   refine hex 1 _ _ _ hn ?_ ?_ ?_ ?_
   ·exact(by(try dsimp only);repeat (first|exact hsm|refine aS ?_ (by omega) _|refine aT ?_ (by omega)))
   ·simp only[go_sem,reduceIte,jA,jB,jC,jD,reduceCtorEq,jE,jF]
   ·rfl
   rfl
  have hd1:decide (w.f<0)=false:=decide_eq_false (by omega)
  have hd2:decide (w.t<0)=false:=decide_eq_false (by omega)
  have hd3:decide (w.f≥P)=false:=decide_eq_false (by omega)
  have hd4:decide (w.t≥P)=false:=decide_eq_false (by omega)
  cases hok:w.p.ok with
  |false=>
   have hn:cC P ws=((0,[]),1):=hbad (by rw[hdef,hok];simp)
   have C1:=fun h=>iM w.p h
   refine aue (aKo hb0 hb1 hc hg hlt l1 l2 hmf0 hd1 hd2 hd3 hd4 hok) ?_
   rw[←hQ]
   refine au ?_
   refine hex 1 _ _ _ hn ?_ ?_ ?_ ?_
   ·exact(by(try dsimp only);repeat (first|exact hsm|refine aS ?_ (by omega) _|refine aT ?_ (by omega)))
   ·simp only[go_sem,reduceIte,jA,jB,jC,jD,reduceCtorEq,jE,jF]
   ·rfl
   rfl
  |true=>
   have hfit:w.fit P=true:=by rw[hdef,hok,decide_eq_true f1,decide_eq_true f2,decide_eq_true f3,decide_eq_true f4];rfl
   have hfits':∀v∈ws.take (i+1),v.fit P=true:=fun v hv=>by
    rw[htk] at hv
    rcases List.mem_append.1 hv with hv|hv
    ·exact hfits v hv
    simp at hv;rw[hv];exact hfit
   have hwe:Wy.v w= .agg [.int .i64 w.f, .int .i64 w.t, .bool w.p.n, .int .i64 w.p.a]:=rfl
   have C1:=fun h=>iM w.p h
   refine aue (aKo hb0 hb1 hc hg hlt l1 l2 hmf0 hd1 hd2 hd3 hd4 hok) ?_
   refine bS ((aHr oo M w hil _ _).mono ?_)
   rintro v2 hq nx2 hnx2 (⟨rfl,rfl,hne⟩|⟨id,hid,hid2,rfl,rfl⟩)
   ·dsimp only at hnx2
    unfold dV
    simp only[go_sem,reduceIte,jA,jB,jC,jD,reduceCtorEq,jE,jF]
    refine aue (ee6 hb0 hb1 hw l1 l2 hmf) ?_
    rw[←hQ]
    refine aC (i+1,oo) (by dsimp only;omega) ⟨hlt,by omega,(by(try dsimp only);repeat (first|exact aH.up hdm (by omega)|refine aH.set2 ?_ (by omega) _|refine aH.del ?_|refine aH.delO ?_ _)),?_,?_,(by(try dsimp only);repeat (first|exact hsm|refine aS ?_ (by omega) _|refine aT ?_ (by omega))), .inr ⟨?_,?_⟩,hfits'⟩ ?_
    ·simp only[hb0,l1,go_sem,reduceIte,jA,jB,jC,jD,reduceCtorEq,jE,jF]
    ·simp only[hins,go_sem,reduceIte,jA,jB,jC,jD,reduceCtorEq,jE,jF]
    ·dsimp only;rw[hins];exact aHc M w
    ·rcases hoo with⟨h,_⟩|⟨_,h⟩
     ·exact absurd h hne
     exact h
    simp only[WkL,aB,jH,jI,jJ,wys,go_sem,reduceIte,jA,jB,jC,jD,reduceCtorEq,jE,jF]
   dsimp only at hnx2
   unfold dV
   simp only[go_sem,reduceIte,jA,jB,jC,jD,reduceCtorEq,jE,jF]
   dsimp only at hid
   have hid3:id<nx2:=hid2
   have l3:nx<id:=by omega
   have l4:nx+1<id:=by omega
   refine aue (ee8 hb0 hb1 hw l1 l2 l3 l4 hmf) ?_
   rw[←hQ]
   refine aC (i+1, .tok id) (by dsimp only;omega) ⟨hlt,by omega,(by(try dsimp only);repeat (first|exact aH.up hdm (by omega)|refine aH.set2 ?_ (by omega) _|refine aH.del ?_|refine aH.delO ?_ _)),?_,?_,(by(try dsimp only);repeat (first|exact hsm|refine aS ?_ (by omega) _|refine aT ?_ (by omega))), .inr ⟨?_,fun e=>by cases e⟩,hfits'⟩ ?_
   ·simp only[hb0,l1,l3,go_sem,reduceIte,jA,jB,jC,jD,reduceCtorEq,jE,jF]
   ·simp only[hins,go_sem,reduceIte,jA,jB,jC,jD,reduceCtorEq,jE,jF]
   ·dsimp only;rw[hins];exact aHc M w
   simp only[WkL,aB,jH,jI,jJ,wys,go_sem,reduceIte,jA,jB,jC,jD,reduceCtorEq,jE,jF]
 have hc:decide ((i:Int)<(ws.length:Int))=false:=decide_eq_false (by omega)
 have htw:ws.take i=ws:=List.take_of_length_le (by omega)
 rw[htw] at hb1 hoo hfits
 rw[←mI] at hb1 hoo
 refine aue hc ?_
 rw[←hQ]
 refine aue hc ?_
 obtain⟨n,rfl⟩:∃n:Nat,P=n:=⟨P.toNat,by omega⟩
 obtain⟨k1,k2⟩:=aAD (P:=(n:Int)) (ws:=bT ws) (fun w hw=>hfits w ((mG ws w).1 hw))
 rw[jG] at k2
 have hcl:=mH ws
 obtain⟨l,hll⟩:∃l,l=(bT ws).map Wy.we:=⟨_,rfl⟩
 rw[←hll] at k1 k2
 have hln:l.length≤1000:=by rw[hll,jK];omega
 have hwes:wys oo (bT ws)=wes oo l:=by rw[k1];simp only[wys,wes,aFM]
 rw[hwes] at hb1
 have hno:¬((n:Int)<0∨200<(n:Int)∨∃w∈ws,w.fit n=false):=by
  rintro(h|h|⟨w,h1,h2⟩)
  ·omega
  ·omega
  rw[hfits w h1] at h2;cases h2
 have had:eL (bT ws)=adds l:=by rw[k1,aIp]
 have e2:1048576<adds l→cC n ws=((0,[]),1):=fun h=>by
  unfold cC;rw[if_neg hno,had,if_pos h]
 have e3:¬1048576<adds l→(aBM l∨qT l)→cC n ws=((0,[]),9):=fun h h2=>by
  unfold cC;rw[if_neg hno,had,if_neg h,←hll,if_pos h2]
 have e4:¬1048576<adds l→¬(aBM l∨qT l)→cC n ws=(((n:Int),bT ws),0):=fun h h2=>by
  unfold cC;rw[if_neg hno,had,if_neg h,←hll,if_neg h2]
 have hsum:∀k,k≤l.length→0≤adds (l.take k)∧adds (l.take k)≤1048576*k:=by
  intro k hk
  induction k with
  |zero=>simp[adds]
  |succ k ih=>
   have ih:=ih (by omega)
   have:=(k2 l[k] (List.getElem_mem _)).2.2
   simp only[Pa.ok,Bool.and_eq_true,decide_eq_true_eq] at this
   rw[List.take_succ_eq_append_getElem (by omega)]
   simp only[adds,List.map_append,List.map_cons,List.map_nil,List.sum_append,List.sum_cons,List.sum_nil] at ih⊢
   omega
 clear hQ hi hge htw hwes had hno hfits l1 l2
 refine aP (fun k:Nat=>aB 138 0 [(0, .int .i64 n),(4, .ptr nx (.agg 2) 0 0),(6, .ptr (nx+1) (.agg 2) 0 0),(9, .int .i64 (adds (l.take k))),(10, .int .i64 k)])
  (fun k hp nx1=>k≤l.length∧nx+2≤nx1∧aH hp nx1∧hp nx=some (.arr (.agg 2) [.agg [.int .i64 0, .sl (.agg 4) .nil []]])∧hp (nx+1)=some (.arr (.agg 2) [.agg [.int .i64 n,wes oo l]])∧Hp.same nx h' hp)
  (fun k=>l.length-k) 0 ⟨Nat.zero_le _,hnx,hdm,hb0,hb1,hsm⟩ ?_ ?_
 ·simp only[WkL,aB,jH,jI,jJ,wes,adds,List.take_zero,List.map_nil,List.sum_nil,go_sem,reduceIte,jA,jB,jC,jD,reduceCtorEq,jE,jF]
 clear hnx hdm hb0 hb1 hsm
 rintro k hp nx1 ⟨hk,hnx,hdm,hb0,hb1,hsm⟩
 generalize hQ:bG _ _ _ _ _=Q0
 simp only[aB,go_sem,reduceIte,jA,jB,jC,jD,reduceCtorEq,jE,jF]
 have l1:nx<nx1:=by omega
 have l2:nx+1<nx1:=by omega
 rcases Nat.lt_or_ge k l.length with hlt|hge
 ·have hc:decide ((k:Int)<(l.length:Int))=true:=decide_eq_true (by omega)
  have hg:(l.map We.v).getD k (.tup [])= .agg [.int .i64 l[k].f, .int .i64 l[k].t, .bool l[k].p.n, .int .i64 l[k].p.a]:=bE We.v l k hlt
  have hs1:=hsum k hk
  have hs2:=hsum (k+1) (by omega)
  have hw:IntKind.i64.wrap ((k:Int)+1)=((k+1:Nat):Int):=by rw[aV]<;>omega
  have hsn:adds (l.take (k+1))=adds (l.take k)+l[k].p.a:=by
   rw[List.take_succ_eq_append_getElem hlt];simp only[adds,List.map_append,List.map_cons,List.map_nil,List.sum_append,List.sum_cons,List.sum_nil];omega
  have hw2:IntKind.i64.wrap (adds (l.take k)+l[k].p.a)=adds (l.take (k+1)):=by rw[hsn,aV]<;>omega
  refine aue (ee8 hb1 hc hg hw hw2 hlt l1 l2) ?_
  rw[←hQ]
  refine aC (k+1) (by omega) ⟨hlt,hnx,hdm,hb0,hb1,hsm⟩ ?_
  simp only[WkL,aB,jH,jI,jJ,wes,go_sem,reduceIte,jA,jB,jC,jD,reduceCtorEq,jE,jF]
 have hc:decide ((k:Int)<(l.length:Int))=false:=decide_eq_false (by omega)
 have htl:l.take k=l:=List.take_of_length_le (by omega)
 refine aue (ee5 hb1 hc htl l1 l2) ?_
 rw[←hQ]
 rcases oS 1048576 (adds l) with hbig|hsml
 ·have hcb:decide (adds l>1048576)=true:=decide_eq_true hbig
  refine aue (ee6 hb0 hcb htl hmf0 l1 l2) ?_
  refine hex 1 _ _ _ (e2 hbig) ?_ ?_ ?_ ?_
  ·exact(by(try dsimp only);repeat (first|exact hsm|refine aS ?_ (by omega) _|refine aT ?_ (by omega)))
  ·simp only[go_sem,reduceIte,jA,jB,jC,jD,reduceCtorEq,jE,jF]
  ·rfl
  rfl
 have hcb:decide (adds l>1048576)=false:=decide_eq_false (by omega)
 have hnb:¬1048576<adds l:=by omega
 obtain⟨J1,hJ1⟩:∃J,J=(fD n (jY n (dO true l))).map (lst .leaf):=⟨_,rfl⟩
 obtain⟨J2,hJ2⟩:∃J,J=(fD n (jY n (dO false l))).map (lst .leaf):=⟨_,rfl⟩
 have c1:∀h,aW Tryz.prog 138 [.agg [.int .i64 n,wes oo l], .bool true] h (.sl .leaf .free J1):=fun h=>by rw[hJ1];exact xW oo n l true k2 (by omega) hln h
 have c2:∀h,aW Tryz.prog 138 [.agg [.int .i64 n,wes oo l], .bool false] h (.sl .leaf .free J2):=fun h=>by rw[hJ2];exact xW oo n l false k2 (by omega) hln h
 have g1:∀i,i<n→J1.getD i (.tup [])= .sl .leaf .free (jY n (dO true l) i):=fun i hi=>by rw[hJ1];exact aHa hi
 have g2:∀i,i<n→J2.getD i (.tup [])= .sl .leaf .free (jY n (dO false l) i):=fun i hi=>by rw[hJ2];exact aHa hi
 have n1:J1.length=n:=by rw[hJ1];exact aCA _ _ _
 have n2:J2.length=n:=by rw[hJ2];exact aCA _ _ _
 clear hJ1 hJ2
 have hmfn:=hmfw oo l
 have D1:=fun h=>c1 h
 have D2:=fun h=>c2 h
 refine aue (ee6 hb1 hcb htl hmfn l1 l2) ?_
 clear hQ hk hge hc htl
 refine aP (fun k:Nat=>aB 138 0 [(0, .int .i64 n),(4, .ptr nx (.agg 2) 0 0),(6, .ptr (nx+1) (.agg 2) 0 0),(11, .sl .leaf .free J1),(12, .sl .leaf .free J2),(13, .int .i64 k)])
  (fun k hp nx1=>k≤n∧nx+2≤nx1∧aH hp nx1∧hp nx=some (.arr (.agg 2) [.agg [.int .i64 0, .sl (.agg 4) .nil []]])∧hp (nx+1)=some (.arr (.agg 2) [.agg [.int .i64 n,wes oo l]])∧Hp.same nx h' hp∧∀x,x<k→dO true l x x=false)
  (fun k=>n-k) 0 ⟨Nat.zero_le _,by dsimp only;omega,(by(try dsimp only);repeat (first|exact aH.up hdm (by omega)|refine aH.set2 ?_ (by omega) _|refine aH.del ?_|refine aH.delO ?_ _)),hb0,hb1,hsm,fun x hx=>absurd hx (by omega)⟩ ?_ ?_
 ·simp only[WkL,aB,jH,jI,jJ,wes,go_sem,reduceIte,jA,jB,jC,jD,reduceCtorEq,jE,jF]
 clear hnx hdm hb0 hb1 hsm l1 l2
 rintro x hp nx1 ⟨hx,hnx,hdm,hb0,hb1,hsm,hid⟩
 generalize hQ:bG _ _ _ _ _=Q0
 simp only[aB,go_sem,reduceIte,jA,jB,jC,jD,reduceCtorEq,jE,jF]
 have l1:nx<nx1:=by omega
 have l2:nx+1<nx1:=by omega
 rcases Nat.lt_or_ge x n with hxn|hge
 ·have hc:decide ((x:Int)<(n:Int))=true:=decide_eq_true (by omega)
  have hg:=g1 x hxn
  have hr:=nO (dO true l) x hxn
  have hrl:=kN n (dO true l) x
  have hw:IntKind.i64.wrap ((x:Int)+1)=((x+1:Nat):Int):=by rw[aV]<;>omega
  cases hb:dO true l x x with
  |true=>
   rw[hb] at hr
   have hidle:aBM l:=by
    have:=(nU true l x x).1 hb
    rw[aAJ] at this
    exact⟨x,this⟩
   refine aue (aJq hb0 hc hg hr hrl n1 hxn hmf0 l1 l2) ?_
   rw[←hQ]
   refine au ?_
   refine hex 9 _ _ _ (e3 hnb (.inl hidle)) ?_ ?_ ?_ ?_
   ·exact(by(try dsimp only);repeat (first|exact hsm|refine aS ?_ (by omega) _|refine aT ?_ (by omega)))
   ·simp only[go_sem,reduceIte,jA,jB,jC,jD,reduceCtorEq,jE,jF]
   ·rfl
   rfl
  |false=>
   rw[hb] at hr
   refine aue (aDt hb0 hc hg hr hrl hw n1 hxn hmf0 l1 l2) ?_
   rw[←hQ]
   refine aC (x+1) (by omega) ⟨hxn,hnx,hdm,hb0,hb1,hsm,fun y hy=>?_⟩ ?_
   ·rcases Nat.lt_or_ge y x with h|h
    ·exact hid y h
    rw[show y=x by omega];exact hb
   simp only[WkL,aB,jH,jI,jJ,wes,go_sem,reduceIte,jA,jB,jC,jD,reduceCtorEq,jE,jF]
 have hc:decide ((x:Int)<(n:Int))=false:=decide_eq_false (by omega)
 have hni:¬aBM l:=by
  rintro⟨y,hy⟩
  have hyn:y<n:=by
   obtain⟨c,hc,_⟩:=hy.last
   exact(aKA k2 _ hc).2
  have h1:=hid y (by omega)
  have h2:dO true l y y=true:=by rw[nU,aAJ];exact hy
  rw[h2] at h1;cases h1
 refine aue hc ?_
 rw[←hQ]
 refine aue hc ?_
 clear hQ hx hge hc hid
 refine aP (fun k:Nat=>aB 138 0 [(4, .ptr nx (.agg 2) 0 0),(6, .ptr (nx+1) (.agg 2) 0 0),(12, .sl .leaf .free J2),(14, .int .i64 k)])
  (fun k hp nx1=>k≤l.length∧nx+2≤nx1∧aH hp nx1∧hp nx=some (.arr (.agg 2) [.agg [.int .i64 0, .sl (.agg 4) .nil []]])∧hp (nx+1)=some (.arr (.agg 2) [.agg [.int .i64 n,wes oo l]])∧Hp.same nx h' hp∧∀w∈l.take k,w.p.n=true→¬(w.t=w.f∨eY (tI l) w.t w.f))
  (fun k=>l.length-k) 0 ⟨Nat.zero_le _,hnx,hdm,hb0,hb1,hsm,fun w hw=>by simp at hw⟩ ?_ ?_
 ·simp only[WkL,aB,jH,jI,jJ,wes,go_sem,reduceIte,jA,jB,jC,jD,reduceCtorEq,jE,jF]
 clear hnx hdm hb0 hb1 hsm l1 l2
 rintro k hp nx1 ⟨hk,hnx,hdm,hb0,hb1,hsm,htu⟩
 generalize hQ:bG _ _ _ _ _=Q0
 simp only[aB,go_sem,reduceIte,jA,jB,jC,jD,reduceCtorEq,jE,jF]
 have l1:nx<nx1:=by omega
 have l2:nx+1<nx1:=by omega
 rcases Nat.lt_or_ge k l.length with hlt|hge
 ·have hc:decide ((k:Int)<(l.length:Int))=true:=decide_eq_true (by omega)
  have hw:IntKind.i64.wrap ((k:Int)+1)=((k+1:Nat):Int):=by rw[aV]<;>omega
  have htk:l.take (k+1)=l.take k++[l[k]]:=List.take_succ_eq_append_getElem hlt
  have hwf:=k2 l[k] (List.getElem_mem _)
  have hmem:l[k]∈l:=List.getElem_mem _
  have hg:(l.map We.v).getD k (.tup [])= .agg [.int .i64 l[k].f, .int .i64 l[k].t, .bool l[k].p.n, .int .i64 l[k].p.a]:=bE We.v l k hlt
  obtain⟨w,hwk⟩:∃w,w=l[k]:=⟨_,rfl⟩
  rw[←hwk] at htk hwf hmem hg
  have h1:=hwf.1
  have h2:=hwf.2.1
  have hgr:=g2 w.t h2
  have hr:=nO (dO false l) w.t h1
  have hrl:=kN n (dO false l) w.t
  have step:(w.p.n=true→¬(w.t=w.f∨eY (tI l) w.t w.f))→∀v∈l.take (k+1),v.p.n=true→¬(v.t=v.f∨eY (tI l) v.t v.f):=fun h v hv=>by
   rw[htk] at hv
   rcases List.mem_append.1 hv with hv|hv
   ·exact htu v hv
   simp at hv;rw[hv];exact h
  cases hn:w.p.n with
  |false=>
   rw[hn] at hg
   refine aue (ee9 hb0 hb1 hc hg hlt hw hmf0 l1 l2) ?_
   rw[←hQ]
   refine aC (k+1) (by omega) ⟨hlt,by omega,(by(try dsimp only);repeat (first|exact aH.up hdm (by omega)|refine aH.set2 ?_ (by omega) _|refine aH.del ?_|refine aH.delO ?_ _)),?_,?_,(by(try dsimp only);repeat (first|exact hsm|refine aS ?_ (by omega) _|refine aT ?_ (by omega))),step (fun h=>by rw[hn] at h;cases h)⟩ ?_
   ·simp only[hb0,l1,go_sem,reduceIte,jA,jB,jC,jD,reduceCtorEq,jE,jF]
   ·simp only[hb1,l2,go_sem,reduceIte,jA,jB,jC,jD,reduceCtorEq,jE,jF]
   simp only[WkL,aB,jH,jI,jJ,wes,go_sem,reduceIte,jA,jB,jC,jD,reduceCtorEq,jE,jF]
  |true=>
   rw[hn] at hg
   by_cases hft:w.f=w.t
   ·have hcf:((w.f:Int)==(w.t:Int))=true:=by simp[hft]
    have htn:qT l:=⟨w,hmem,hn, .inl hft.symm⟩
    refine aue (ee9 hb0 hb1 hc hg hlt hcf hmf0 l1 l2) ?_
    rw[←hQ]
    refine au ?_
    refine hex 9 _ _ _ (e3 hnb (.inr htn)) ?_ ?_ ?_ ?_
    ·exact(by(try dsimp only);repeat (first|exact hsm|refine aS ?_ (by omega) _|refine aT ?_ (by omega)))
    ·simp only[go_sem,reduceIte,jA,jB,jC,jD,reduceCtorEq,jE,jF]
    ·rfl
    rfl
   have hcf:((w.f:Int)==(w.t:Int))=false:=by simp;omega
   cases hb:dO false l w.t w.f with
   |true=>
    rw[hb] at hr
    have htn:qT l:=by
     have:=(nU false l w.t w.f).1 hb
     rw[yA] at this
     exact⟨w,hmem,hn, .inr this⟩
    refine aue (aLz hb0 hb1 hc hg hlt hcf hgr hr hrl n2 h1 h2 hmf0 l1 l2) ?_
    rw[←hQ]
    refine au ?_
    refine hex 9 _ _ _ (e3 hnb (.inr htn)) ?_ ?_ ?_ ?_
    ·exact(by(try dsimp only);repeat (first|exact hsm|refine aS ?_ (by omega) _|refine aT ?_ (by omega)))
    ·simp only[go_sem,reduceIte,jA,jB,jC,jD,reduceCtorEq,jE,jF]
    ·rfl
    rfl
   |false=>
    rw[hb] at hr
    have hnt:¬(w.t=w.f∨eY (tI l) w.t w.f):=by
     rintro(h|h)
     ·exact hft h.symm
     have:dO false l w.t w.f=true:=by rw[nU,yA];exact h
     rw[this] at hb;cases hb
    refine aue (aKn hb0 hb1 hc hg hlt hcf hgr hr hrl hw n2 h1 h2 hmf0 l1 l2) ?_
    rw[←hQ]
    refine aC (k+1) (by omega) ⟨hlt,by omega,(by(try dsimp only);repeat (first|exact aH.up hdm (by omega)|refine aH.set2 ?_ (by omega) _|refine aH.del ?_|refine aH.delO ?_ _)),?_,?_,(by(try dsimp only);repeat (first|exact hsm|refine aS ?_ (by omega) _|refine aT ?_ (by omega))),step (fun _=>hnt)⟩ ?_
    ·simp only[hb0,l1,go_sem,reduceIte,jA,jB,jC,jD,reduceCtorEq,jE,jF]
    ·simp only[hb1,l2,go_sem,reduceIte,jA,jB,jC,jD,reduceCtorEq,jE,jF]
    simp only[WkL,aB,jH,jI,jJ,wes,go_sem,reduceIte,jA,jB,jC,jD,reduceCtorEq,jE,jF]
 have hc:decide ((k:Int)<(l.length:Int))=false:=decide_eq_false (by omega)
 have htl:l.take k=l:=List.take_of_length_le (by omega)
 rw[htl] at htu
 have hnt:¬qT l:=fun⟨w,h1,h2,h3⟩=>htu w h1 h2 h3
 have hnew:=e4 hnb (fun h=>h.elim hni hnt)
 refine aue (ee4 hb1 hc l1 l2) ?_
 rw[←hQ]
 refine aue (ee6 hb0 hb1 hmfn hmf0 l1 l2) ?_
 refine cA (by simp only[go_sem,reduceIte,jA,jB,jC,jD,reduceCtorEq,jE,jF]) h' ((show Hp.same nx h' _ from(by(try dsimp only);repeat (first|exact hsm|refine aS ?_ (by omega) _|refine aT ?_ (by omega)))).le hd (Hp.le_refl _)) ⟨?_,Hp.le_refl _⟩
 simp only[go_sem,reduceIte,jA,jB,jC,jD,reduceCtorEq,jE,jF]
 rw[hnew]
 have hwv:l.map We.v=(bT ws).map Wy.v:=by rw[k1,aFM]
 have hwes2:(wes oo l:V)=wys oo (bT ws):=by simp only[wes,wys,hwv]
 rw[hwes2]
 exact aGl hoo
set_option maxRecDepth 100000 in
theorem dZ(o:Own)(P:Int)(ws:List Wy)(hl:ws.length≤1000)(h:Hp):aW Tryz.prog 19 [mps o P ws] h (.bool (gX P ws)):=by
 refine aR (fun L=>trivial) fun h' nx hh=>aD L.corollaryref22_Right_low fun hd=>?_
 have hmf:(mps o P ws).fits (.agg 2)=true:=by simp[mps,V.fits,V.leafy,wys]
 obtain⟨Q,hQ⟩:∃Q,Q=(cC P ws).1.1:=⟨_,rfl⟩
 obtain⟨M,hM⟩:∃M,M=(cC P ws).1.2:=⟨_,rfl⟩
 obtain⟨c,hcd⟩:∃c,c=(cC P ws).2:=⟨_,rfl⟩
 have hr:gX P ws=decide (c=0∧M=ws):=by rw[hcd,hM];rfl
 obtain⟨o2,ho2⟩:=aAh Q M
 have hof:∀h,aW Tryz.prog 70 [.int .i64 P,wys o ws] h (.tup [mps o2 Q M, .int .i64 c]):=fun h=>by rw[←ho2,hQ,hM,hcd];exact aGc o P ws hl h
 have hmf2:(mps o2 Q M).fits (.agg 2)=true:=by simp[mps,V.fits,V.leafy,wys]
 clear hQ hM hcd ho2
 rw[hr]
 simp only[jL,jM,jA,jB,jN,jO,jP,jQ,V.undef]
 by_cases hc0:c=0
 rotate_left
 ·have h1:(c != 0)=true:=by simpa using hc0
  have C1:=fun h=>hof h
  refine aue (ee3 hmf hmf2 h1) ?_
  refine aF h' (by repeat (first|exact Hp.le_refl _|refine aK hd ?_ (by omega) _|refine aL hd ?_ (by omega))) ⟨?_,rfl⟩
  simp only[hc0,go_sem,reduceIte,jA,jB,jC,jD,reduceCtorEq,jE,jF]
 have h1:(c != 0)=false:=by simpa using hc0
 by_cases hab:M.length=ws.length
 rotate_left
 ·have hc:((M.length:Int) != (ws.length:Int))=true:=by simp;omega
  have C1:=fun h=>hof h
  refine aue (ee4 hmf hmf2 h1 hc) ?_
  refine aF h' (by repeat (first|exact Hp.le_refl _|refine aK hd ?_ (by omega) _|refine aL hd ?_ (by omega))) ⟨?_,rfl⟩
  have:M≠ws:=by rintro rfl;exact hab rfl
  simp only[this,go_sem,reduceIte,jA,jB,jC,jD,reduceCtorEq,jE,jF]
 have hc:((M.length:Int) != (ws.length:Int))=false:=by simp;omega
 have C1:=fun h=>hof h
 refine aue (ee4 hmf hmf2 h1 hc) ?_
 refine aP (fun i:Nat=>aB 43 0 [(1, .ptr nx (.agg 2) 0 0),(3, .ptr (nx+1) (.agg 2) 0 0),(5, .int .i64 i)])
  (fun i hp nx1=>i≤M.length∧hp nx=some (.arr (.agg 2) [mps o P ws])∧hp (nx+1)=some (.arr (.agg 2) [mps o2 Q M])∧Hp.same nx h' hp∧nx+2≤nx1∧M.take i=ws.take i) (fun i=>M.length-i) 0 ⟨Nat.zero_le _,by simp only[go_sem,reduceIte,jA,jB,jC,jD,reduceCtorEq,jE,jF],by simp only[go_sem,reduceIte,jA,jB,jC,jD,reduceCtorEq,jE,jF],(by(try dsimp only);repeat (first|exact Hp.same.rfl'|refine aS ?_ (by omega) _|refine aT ?_ (by omega))),by first|omega|(dsimp only;omega),rfl⟩ ?_ ?_
 ·simp only[WkL,aB,jH,jI,jJ,wys,go_sem,reduceIte,jA,jB,jC,jD,reduceCtorEq,jE,jF]
 rintro i hp nx1 ⟨hi,hb0,hb1,hsm,hnx,hno⟩
 generalize hQ:bG _ _ _ _ _=Q0
 simp only[aB,go_sem,reduceIte,jA,jB,jC,jD,reduceCtorEq,jE,jF]
 rcases Nat.lt_or_ge i M.length with hlt|hge
 ·have hc:decide ((i:Int)<(ws.length:Int))=true:=decide_eq_true (by omega)
  have hlt':i<ws.length:=by omega
  have hg:=bE Wy.v M i hlt
  have hg':=bE Wy.v ws i hlt'
  have hw:IntKind.i64.wrap ((i:Int)+1)=((i+1:Nat):Int):=by rw[aV]<;>omega
  by_cases he:M[i]=ws[i]
  ·have hd1:decide (M[i]=ws[i])=true:=decide_eq_true he
   refine aue (aDt hb0 hb1 hc hg hg' hlt hlt' hw sF hd1 Wy.fits_v) ?_
   rw[←hQ]
   refine aC (i+1) (by omega) ⟨hlt,hb0,hb1,hsm,by omega,?_⟩ ?_
   ·rw[List.take_succ_eq_append_getElem hlt,List.take_succ_eq_append_getElem hlt',hno,he]
   simp only[WkL,aB,jH,jI,jJ,wys,go_sem,reduceIte,jA,jB,jC,jD,reduceCtorEq,jE,jF]
  have hd1:decide (M[i]=ws[i])=false:=decide_eq_false he
  refine aue (aDt hb0 hb1 hc hg hg' hlt hlt' hw sF hd1 Wy.fits_v) ?_
  rw[←hQ]
  refine au ?_
  refine aF h' (hsm.le hd (Hp.le_refl _)) ⟨?_,rfl⟩
  have:M≠ws:=by rintro rfl;exact he rfl
  simp only[this,go_sem,reduceIte,jA,jB,jC,jD,reduceCtorEq,jE,jF]
 have hc:decide ((i:Int)<(ws.length:Int))=false:=decide_eq_false (by omega)
 refine aue (ee3 hb0 hb1 hc) ?_
 rw[←hQ]
 refine au ?_
 refine aF h' (hsm.le hd (Hp.le_refl _)) ⟨?_,rfl⟩
 have:M=ws:=by
  rw[List.take_of_length_le (by omega),List.take_of_length_le (by omega)] at hno
  exact hno
 simp only[hc0,this,go_sem,reduceIte,jA,jB,jC,jD,reduceCtorEq,jE,jF]
end Go.Proofs.YtemjhgboialjpaaGreat
