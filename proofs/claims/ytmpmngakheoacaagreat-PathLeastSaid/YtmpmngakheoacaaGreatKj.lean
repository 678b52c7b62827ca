/-
Texts of this proof,one behind the other. No conditions.
-/
import Derived.Test.YtmpmngakheoacaaGreatKe
import Derived.Test.YtmpmngakheoacaaGreatKh
/-
Contract of the document's joined:which places lead to which. No conditions.
-/
namespace Go.Proofs.YtmpmngakheoacaaGreat
open Go.Proofs.YtmpmngakheoacaaGreat renaming kU→uA,iZ→uB,fT→uC,fU→uD,eL→uE,kW→uF,dH→uG,fV→uH,fW→uI,eM→uJ,eS→uK,fK→uL,iR→uM,kX→uN,gV→uO,bG→uP,kY→uQ,kV→uR,gC→uS
open Nat renaming reduceAdd→jA,reduceSub→jB,reduceLT→jC,reduceLeDiff→jD,reduceEqDiff→jE
open Int renaming reduceToNat→jF,toNat_natCast→jG,natCast_add→jH,natCast_one→jI,natCast_zero→jJ
open List renaming length_map→jK,length_cons→jL,length_nil→jM,replicate_succ→jN,replicate_zero→jO,cons_append→jP,nil_append→jQ
set_option linter.unusedSimpArgs false
set_option linter.unusedVariables false
set_option linter.unusedSectionVars false
open Go.RowKit Go.Sort
attribute [local irreducible] IntKind.wrap
attribute [local go_sem] Option.some.injEq Prod.mk.injEq false_and and_false Bool.true_eq_false kA iE kD gA gK if_true Bool.true_and lT dN jX gU dY aA.ok aA.next LOp.ok LOp.next bH.ok bH.out aU.ev bR jY cO bZ dI V.undef Sh.size gS gG cG aA.dok aA.dres LOp.dok LOp.dout mB jT gQ fM List.take_succ_cons List.take_zero List.take_nil List.drop_succ_cons List.drop_zero List.drop_nil List.set_cons_succ List.set_cons_zero List.getD_cons_succ List.getD_cons_zero jL jM List.map_cons List.map_nil List.all_cons List.all_nil List.mem_cons List.not_mem_nil jN jO jP jQ List.append_nil List.isEmpty_cons List.isEmpty_nil eH fQ iU Option.getD_some Option.isSome_some Option.isSome_none Nat.add_eq Nat.zero_add Nat.add_zero true_and and_true and_self true_implies implies_true false_implies forall_const forall_eq forall_eq_or_imp ne_eq not_false_eq_true not_true_eq_false Bool.not_true Bool.not_false decide_true decide_false Bool.and_true Bool.true_and Bool.and_false Bool.false_and true_or or_true false_or or_false eq_self Bool.false_eq_true nJ kE gJ aD fN eR eP eK dE eJ bJ bC dC jG Int.toNat_zero List.take_length Hp.set_app Hp.del_app iP gI aA.plain LOp.isCall aA.dplain LOp.isStop fE lM iQ mT fX V.gd_true V.gd_false gF fC fD gE bS bI aW fY fJ beq_true beq_false dV dW dX cW cX bU bV dL fI cZ eD eA bW eB eE fF fG bX eC bM cY fH cB dZ cE bL iC iA iB hZ eF dB eG dM eY eX eW eV eU cQ cP dR dQ dP cU cT cS fB fA eZ dU dT dS dJ dA bT lH Hp.turn fZ Option.isNone_some Option.isNone_none sC iO gO aA.plain2 LOp.isApp sE nQ nR lP gZ gY
def mO(n m:Nat)(ν:Nat→Nat):List V:=jZ n fun i=>if i<m then .rs (ν i) .leaf 0 n else .sl .leaf .nil []
def mS(n:Nat)(T:Nat→Nat→Bool)(i:Nat):List V:=jZ n fun j=> .bool (T i j)
theorem qH(n m:Nat)(ν:Nat→Nat):(mO n m ν).length=n:=iX _ _
theorem nH(n:Nat)(T:Nat→Nat→Bool)(i:Nat):(mS n T i).length=n:=iX _ _
theorem qI{n m i:Nat}(ν:Nat→Nat)(h:i<n):(mO n m ν).getD i (.tup [])=if i<m then .rs (ν i) .leaf 0 n else .sl .leaf .nil []:=vX _ h
theorem pL{n j:Nat}(T:Nat→Nat→Bool)(i:Nat)(h:j<n):(mS n T i).getD j (.tup [])= .bool (T i j):=vX _ h
structure tO(h' hp:Hp)(nx nx1 n m:Nat)(mv:V)(T:Nat→Nat→Bool)(ν:Nat→Nat):Prop where
 box:hp nx=some (.arr (.agg 2) [mv])
 tab:hp (nx+1)=some (.arr .leaf (mO n m ν))
 row:∀i,i<m→i<n→hp (ν i)=some (.arr .leaf (mS n T i))∧nx+2≤ν i∧ν i<nx1
 apart:∀i j,i<m→j<m→i<n→j<n→i≠j→ν i≠ν j
 dom:aT hp nx1
 ge:nx+2≤nx1
 same:Hp.same nx h' hp
theorem tO.new{h' hp:Hp}{nx nx1 n m:Nat}{mv:V}{ν:Nat→Nat}(F:tO h' hp nx nx1 n m mv (fun _ _=>false) ν)(hm:m<n):
 tO h' ((hp.set nx1 (.arr .leaf (List.replicate n (.bool false)))).set (nx+1) (.arr .leaf ((mO n m ν).set m (.rs nx1 .leaf 0 n)))) nx (nx1+1) n (m+1) mv (fun _ _=>false) (fun k=>if k=m then nx1 else ν k):=by
 have hge:=F.ge
 have hs:∀y,y≠nx1→y≠nx+1→∀b c,((hp.set nx1 b).set (nx+1) c) y=hp y:=fun y h1 h2 b c=>by unfold Hp.set;rw[if_neg h2,if_neg h1]
 refine⟨by rw[hs _ (by omega) (by omega)];exact F.box,?_,fun i hi hin=>?_,fun i j hi hj hin hjn hij=>?_,?_,by omega,fun y hy=>?_⟩
 ·have:(mO n m ν).set m (.rs nx1 .leaf 0 n)=mO n (m+1) (fun k=>if k=m then nx1 else ν k):=by
   unfold mO
   rw[qW]
   refine lX fun i hi=>?_
   by_cases e:i=m
   ·simp[e]
   by_cases e2:i<m
   ·have:i<m+1:=by omega
    simp[e,e2,this]
   have:¬i<m+1:=by omega
   simp[e,e2,this]
  rw[this]
  unfold Hp.set
  rw[if_pos rfl]
 ·by_cases e:i=m
  ·simp only[e,if_true]
   refine⟨?_,by omega,by omega⟩
   unfold Hp.set
   rw[if_neg (by omega),if_pos rfl,oD]
   rfl
  simp only[e,if_false]
  obtain⟨a,b,c⟩:=F.row i (by omega) hin
  exact⟨by rw[hs _ (by omega) (by omega)];exact a,b,by omega⟩
 ·by_cases e:i=m<;>by_cases e2:j=m
  ·omega
  ·simp only[e,e2,if_true,if_false]
   have:=(F.row j (by omega) hjn).2.2;omega
  ·simp only[e,e2,if_true,if_false]
   have:=(F.row i (by omega) hin).2.2;omega
  simp only[e,e2,if_false]
  exact F.apart i j (by omega) (by omega) hin hjn hij
 ·exact(F.dom.set (by omega) (by omega) _).set2 (by omega) _
 rw[hs _ (by omega) (by omega)];exact F.same y hy
theorem tO.put{h' hp:Hp}{nx nx1 n:Nat}{mv:V}{T:Nat→Nat→Bool}{ν:Nat→Nat}(F:tO h' hp nx nx1 n n mv T ν){i j:Nat}(hi:i<n)(hj:j<n)(b:Bool):
 tO h' (hp.set (ν i) (.arr .leaf ((mS n T i).set j (.bool b)))) nx nx1 n n mv (upd T i j b) ν:=by
 obtain⟨a1,a2,a3⟩:=F.row i hi hi
 have hs:∀y,y≠ν i→∀c,(hp.set (ν i) c) y=hp y:=fun y h1 c=>by unfold Hp.set;rw[if_neg h1]
 refine⟨by rw[hs _ (by omega)];exact F.box,by rw[hs _ (by omega)];exact F.tab,fun x hx hxn=>?_,F.apart,F.dom.set2 a3 _,F.ge,fun y hy=>by rw[hs _ (by omega)];exact F.same y hy⟩
 obtain⟨b1,b2,b3⟩:=F.row x hx hxn
 refine⟨?_,b2,b3⟩
 by_cases e:x=i
 ·subst e
  unfold Hp.set
  rw[if_pos rfl]
  unfold mS
  rw[qW]
  congr 2
  refine lX fun y hy=>?_
  unfold upd
  by_cases e:y=j
  ·simp[e]
  simp[e]
 rw[hs _ (F.apart x i hxn hi hxn hi e),b1]
 congr 2
 unfold mS
 refine lX fun y hy=>?_
 unfold upd
 rw[if_neg (fun h=>e h.1)]
theorem tO.up{h' hp:Hp}{nx nx1 nx2 n m:Nat}{mv:V}{T:Nat→Nat→Bool}{ν:Nat→Nat}(F:tO h' hp nx nx1 n m mv T ν)(h:nx1≤nx2):tO h' hp nx nx2 n m mv T ν:=
 ⟨F.box,F.tab,fun i hi hn=>⟨(F.row i hi hn).1,(F.row i hi hn).2.1,Nat.lt_of_lt_of_le (F.row i hi hn).2.2 h⟩,F.apart,F.dom.up h,Nat.le_trans F.ge h,F.same⟩
def pS(idle:Bool)(l:List We)(i j:Nat):Prop:=∃w∈l,(idle=false∨w.p.a=0)∧w.f=i∧w.t=j
open Classical in
noncomputable def gR(idle:Bool)(l:List We)(i j:Nat):Bool:=decide (jU (pS idle l) i j)
open Classical in
theorem pP(idle:Bool)(l:List We)(i j:Nat):gR idle l i j=true↔jU (pS idle l) i j:=by unfold gR;exact decide_eq_true_iff
set_option maxRecDepth 100000 in
set_option maxHeartbeats 4000000 in
theorem aCG(o:Own)(n:Nat)(l:List We)(idle:Bool)(hfit:vT n l)(hn:n≤200)(hl:l.length≤1000)(h':Hp)(nx:Nat):
 bO Tryz.prog 147 [.agg [.int .i64 n,wes o l], .bool idle] h' nx fun v h'' _=>∃O ν ls es,v= .rs O .leaf 0 ls.length∧nx≤O∧(∀i (hi:i<ls.length),ls[i]≠ []→nx≤ν i)∧wR h'' O .leaf ν ls 0 es∧(∀x,x<nx→h'' x=h' x)∧ls=jZ n (mS n (gR idle l)):=by
 refine aK L.corollaryref22_joined_low fun hd=>?_
 have hmf:(V.agg [.int .i64 (n:Int),wes o l]).fits (.agg 2)=true:=by simp[V.fits,V.leafy]
 have hstb:∀b c,cN .leaf 0 (.bool b) (.bool c)= .bool c:=fun _ _=>rfl
 have hstr:∀m,cN .leaf 0 (.sl .leaf .nil []) (.rs m .leaf 0 n)= .rs m .leaf 0 n:=fun _=>rfl
 simp only[jL,jM,jA,jB,jN,jO,jP,jQ,V.undef]
 obtain⟨mv,hmv⟩:∃mv:V,mv= .agg [.int .i64 (n:Int),wes o l]:=⟨_,rfl⟩
 (repeat' (first|(with_reducible first|refine stp ?_|refine uP (by decide) ?_|refine uQ (fun _=>?_) (fun _=>?_))|((first|(with_reducible refine uA ?_;first|refine uB rfl ?_ ?_|(first|refine uC rfl ?_|refine uD rfl ?_)|refine uE rfl ?_)|(with_reducible refine uF ?_;first|refine uG rfl ?_ ?_|(first|refine uH rfl ?_|refine uI rfl ?_)|refine uJ rfl ?_|refine uK (uL ?_)|refine uK (uM ?_))|(with_reducible refine uN ?_;refine uO rfl ?_))<;>try simp only[hmf,jG,go_sem,reduceIte,jA,jB,jC,jD,reduceCtorEq,jE,jF])|(with_reducible refine uR ?_;refine uS rfl ?_)|omega))
 have F0:tO h' ((h'.set nx (.arr (.agg 2) [mv])).set (nx+1) (.arr .leaf (List.replicate n (.sl .leaf .nil [])))) nx (nx+2) n 0 mv (fun _ _=>false) (fun _=>0):=by
  refine⟨by simp only[go_sem,reduceIte,jA,jB,jC,jD,reduceCtorEq,jE,jF],?_,fun i hi=>absurd hi (by omega),fun i j hi=>absurd hi (by omega),(by(try dsimp only);repeat (first|exact aT.up hd (by omega)|refine aT.set2 ?_ (by omega) _|refine aT.del ?_|refine aT.delO ?_ _)),Nat.le_refl _,(by(try dsimp only);repeat (first|exact Hp.same.rfl'|refine bK ?_ (by omega) _|refine bE ?_ (by omega)))⟩
  simp only[go_sem,reduceIte,jA,jB,jC,jD,reduceCtorEq,jE,jF]
  rw[oD]
  rfl
 rw[hmv] at F0
 refine bD (fun q:Nat×(Nat→Nat)=>aD 111 0 [(1, .bool idle),(2, .ptr nx (.agg 2) 0 0),(5, .rs (nx+1) .leaf 0 n),(6, .int .i64 q.1)])
  (fun q hp nx1=>q.1≤n∧tO h' hp nx nx1 n q.1 mv (fun _ _=>false) q.2)
  (fun q=>n-q.1) (0,fun _=>0) ⟨Nat.zero_le _,by rw[hmv];exact F0⟩ ?_ ?_
 ·simp only[WkL,aD,jH,jI,jJ,go_sem,reduceIte,jA,jB,jC,jD,reduceCtorEq,jE,jF]
 clear F0
 rintro⟨i,ν⟩ hp nx1 ⟨hi,F⟩
 generalize hQ:dD _ _ _ _ _=Q0
 dsimp only at hi F
 simp only[aD,go_sem,reduceIte,jA,jB,jC,jD,reduceCtorEq,jE,jF]
 have hbox:=F.box
 rw[hmv] at hbox
 have htab:=F.tab
 have hge:=F.ge
 have l1:nx<nx1:=by omega
 have l2:nx+1<nx1:=by omega
 have hlen:=qH n i ν
 rcases Nat.lt_or_ge i n with hlt|hge2
 ·have hc:decide ((i:Int)<(n:Int))=true:=decide_eq_true (by omega)
  have hw:IntKind.i64.wrap ((i:Int)+1)=((i+1:Nat):Int):=by rw[aY]<;>omega
  have hg:(mO n i ν).getD i (.tup [])= .sl .leaf .nil []:=by rw[qI ν hlt,if_neg (by omega)]
  (repeat' (first|(with_reducible first|refine stp ?_|refine uP (by decide) ?_|refine uQ (fun _=>?_) (fun _=>?_))|((first|(with_reducible refine uA ?_;first|refine uB rfl ?_ ?_|(first|refine uC rfl ?_|refine uD rfl ?_)|refine uE rfl ?_)|(with_reducible refine uF ?_;first|refine uG rfl ?_ ?_|(first|refine uH rfl ?_|refine uI rfl ?_)|refine uJ rfl ?_|refine uK (uL ?_)|refine uK (uM ?_))|(with_reducible refine uN ?_;refine uO rfl ?_))<;>try simp only[hbox,htab,hc,hw,hg,hlen,hlt,hstr,l1,l2,jG,go_sem,reduceIte,jA,jB,jC,jD,reduceCtorEq,jE,jF])|(with_reducible refine uR ?_;refine uS rfl ?_)|omega))
  rw[←hQ]
  refine aF (i+1,fun k=>if k=i then nx1 else ν k) (by dsimp only;omega) ⟨hlt,(F.new hlt).up (by omega)⟩ ?_
  simp only[WkL,aD,jH,jI,jJ,go_sem,reduceIte,jA,jB,jC,jD,reduceCtorEq,jE,jF]
 have hc:decide ((i:Int)<(n:Int))=false:=decide_eq_false (by omega)
 have hin:i=n:=by omega
 subst hin
 (repeat' (first|(with_reducible first|refine stp ?_|refine uP (by decide) ?_|refine uQ (fun _=>?_) (fun _=>?_))|((first|(with_reducible refine uA ?_;first|refine uB rfl ?_ ?_|(first|refine uC rfl ?_|refine uD rfl ?_)|refine uE rfl ?_)|(with_reducible refine uF ?_;first|refine uG rfl ?_ ?_|(first|refine uH rfl ?_|refine uI rfl ?_)|refine uJ rfl ?_|refine uK (uL ?_)|refine uK (uM ?_))|(with_reducible refine uN ?_;refine uO rfl ?_))<;>try simp only[hbox,hc,go_sem,reduceIte,jA,jB,jC,jD,reduceCtorEq,jE,jF])|(with_reducible refine uR ?_;refine uS rfl ?_)|omega))
 rw[←hQ]
 (repeat' (first|(with_reducible first|refine stp ?_|refine uP (by decide) ?_|refine uQ (fun _=>?_) (fun _=>?_))|((first|(with_reducible refine uA ?_;first|refine uB rfl ?_ ?_|(first|refine uC rfl ?_|refine uD rfl ?_)|refine uE rfl ?_)|(with_reducible refine uF ?_;first|refine uG rfl ?_ ?_|(first|refine uH rfl ?_|refine uI rfl ?_)|refine uJ rfl ?_|refine uK (uL ?_)|refine uK (uM ?_))|(with_reducible refine uN ?_;refine uO rfl ?_))<;>try simp only[hc,go_sem,reduceIte,jA,jB,jC,jD,reduceCtorEq,jE,jF])|(with_reducible refine uR ?_;refine uS rfl ?_)|omega))
 clear hbox htab hge l1 l2 hlen hge2 hc
 refine bD (fun q:Nat×(Nat→Nat→Bool)=>aD 111 0 [(1, .bool idle),(2, .ptr nx (.agg 2) 0 0),(5, .rs (nx+1) .leaf 0 i),(7, .int .i64 q.1)])
  (fun q hp nx1=>q.1≤l.length∧tO h' hp nx nx1 i i mv q.2 ν∧∀x y,x<i→y<i→(q.2 x y=true↔pS idle (l.take q.1) x y))
  (fun q=>l.length-q.1) (0,fun _ _=>false) ⟨Nat.zero_le _,F,fun x y _ _=>by simp[pS]⟩ ?_ ?_
 ·simp only[WkL,aD,jH,jI,jJ,go_sem,reduceIte,jA,jB,jC,jD,reduceCtorEq,jE,jF]
 clear F
 rintro⟨j,T⟩ hp nx1 ⟨hj,F,hT⟩
 generalize hQ1:dD _ _ _ _ _=Q1
 dsimp only at hj F hT
 simp only[aD,go_sem,reduceIte,jA,jB,jC,jD,reduceCtorEq,jE,jF]
 have hbox:=F.box
 rw[hmv] at hbox
 have htab:=F.tab
 have hge:=F.ge
 have l1:nx<nx1:=by omega
 have l2:nx+1<nx1:=by omega
 have hlen:=qH i i ν
 rcases Nat.lt_or_ge j l.length with hlt|hge2
 ·have hc:decide ((j:Int)<(l.length:Int))=true:=decide_eq_true (by omega)
  have hw:IntKind.i64.wrap ((j:Int)+1)=((j+1:Nat):Int):=by rw[aY]<;>omega
  have hg:(l.map We.v).getD j (.tup [])= .agg [.int .i64 l[j].f, .int .i64 l[j].t, .bool l[j].p.n, .int .i64 l[j].p.a]:=bB We.v l j hlt
  have hwf:=hfit l[j] (List.getElem_mem _)
  have htk:l.take (j+1)=l.take j++[l[j]]:=List.take_succ_eq_append_getElem hlt
  have hrow:=(F.row l[j].f hwf.1 hwf.1).1
  have hrl:=nH i T l[j].f
  have hgf:(mO i i ν).getD l[j].f (.tup [])= .rs (ν l[j].f) .leaf 0 i:=by rw[qI ν hwf.1,if_pos hwf.1]
  have hgt:=pL T l[j].f hwf.2.1
  have h1:=hwf.1
  have h2:=hwf.2.1
  have yes:(idle=false∨l[j].p.a=0)→∀x y,x<i→y<i→(upd T l[j].f l[j].t true x y=true↔pS idle (l.take (j+1)) x y):=fun hor x y hx hy=>by
   unfold upd
   rw[htk]
   by_cases e:x=l[j].f∧y=l[j].t
   ·rw[if_pos e]
    exact⟨fun _=>⟨l[j],List.mem_append_right _ (List.mem_singleton.2 rfl),hor,e.1.symm,e.2.symm⟩,fun _=>rfl⟩
   rw[if_neg e,hT x y hx hy]
   constructor
   ·rintro⟨w,hw,q⟩;exact⟨w,List.mem_append_left _ hw,q⟩
   rintro⟨w,hw,q⟩
   rcases List.mem_append.1 hw with hw|hw
   ·exact⟨w,hw,q⟩
   simp at hw;subst hw;exact absurd ⟨q.2.1.symm,q.2.2.symm⟩ e
  have no:¬(idle=false∨l[j].p.a=0)→∀x y,x<i→y<i→(T x y=true↔pS idle (l.take (j+1)) x y):=fun hor x y hx hy=>by
   rw[htk,hT x y hx hy]
   constructor
   ·rintro⟨w,hw,q⟩;exact⟨w,List.mem_append_left _ hw,q⟩
   rintro⟨w,hw,q⟩
   rcases List.mem_append.1 hw with hw|hw
   ·exact⟨w,hw,q⟩
   simp at hw;subst hw;exact absurd q.1 hor
  by_cases hid:idle=false
  ·subst hid
   (repeat' (first|(with_reducible first|refine stp ?_|refine uP (by decide) ?_|refine uQ (fun _=>?_) (fun _=>?_))|((first|(with_reducible refine uA ?_;first|refine uB rfl ?_ ?_|(first|refine uC rfl ?_|refine uD rfl ?_)|refine uE rfl ?_)|(with_reducible refine uF ?_;first|refine uG rfl ?_ ?_|(first|refine uH rfl ?_|refine uI rfl ?_)|refine uJ rfl ?_|refine uK (uL ?_)|refine uK (uM ?_))|(with_reducible refine uN ?_;refine uO rfl ?_))<;>try simp only[hbox,htab,hc,hw,hg,hlen,hlt,hrow,hrl,hgf,hgt,h1,h2,hstb,l1,l2,jK,jG,go_sem,reduceIte,jA,jB,jC,jD,reduceCtorEq,jE,jF])|(with_reducible refine uR ?_;refine uS rfl ?_)|omega))
   rw[←hQ1]
   refine aF (j+1,upd T l[j].f l[j].t true) (by dsimp only;omega) ⟨hlt,(F.put h1 h2 true).up (by omega),yes (.inl rfl)⟩ ?_
   simp only[WkL,aD,jH,jI,jJ,go_sem,reduceIte,jA,jB,jC,jD,reduceCtorEq,jE,jF]
  have hid':idle=true:=by simpa using hid
  subst hid'
  by_cases ha:l[j].p.a=0
  ·have hac:(l[j].p.a==0)=true:=by simp[ha]
   (repeat' (first|(with_reducible first|refine stp ?_|refine uP (by decide) ?_|refine uQ (fun _=>?_) (fun _=>?_))|((first|(with_reducible refine uA ?_;first|refine uB rfl ?_ ?_|(first|refine uC rfl ?_|refine uD rfl ?_)|refine uE rfl ?_)|(with_reducible refine uF ?_;first|refine uG rfl ?_ ?_|(first|refine uH rfl ?_|refine uI rfl ?_)|refine uJ rfl ?_|refine uK (uL ?_)|refine uK (uM ?_))|(with_reducible refine uN ?_;refine uO rfl ?_))<;>try simp only[hbox,htab,hc,hw,hg,hac,hlen,hlt,hrow,hrl,hgf,hgt,h1,h2,hstb,l1,l2,jK,jG,go_sem,reduceIte,jA,jB,jC,jD,reduceCtorEq,jE,jF])|(with_reducible refine uR ?_;refine uS rfl ?_)|omega))
   rw[←hQ1]
   refine aF (j+1,upd T l[j].f l[j].t true) (by dsimp only;omega) ⟨hlt,(F.put h1 h2 true).up (by omega),yes (.inr ha)⟩ ?_
   simp only[WkL,aD,jH,jI,jJ,go_sem,reduceIte,jA,jB,jC,jD,reduceCtorEq,jE,jF]
  have hac:(l[j].p.a==0)=false:=by simp[ha]
  (repeat' (first|(with_reducible first|refine stp ?_|refine uP (by decide) ?_|refine uQ (fun _=>?_) (fun _=>?_))|((first|(with_reducible refine uA ?_;first|refine uB rfl ?_ ?_|(first|refine uC rfl ?_|refine uD rfl ?_)|refine uE rfl ?_)|(with_reducible refine uF ?_;first|refine uG rfl ?_ ?_|(first|refine uH rfl ?_|refine uI rfl ?_)|refine uJ rfl ?_|refine uK (uL ?_)|refine uK (uM ?_))|(with_reducible refine uN ?_;refine uO rfl ?_))<;>try simp only[hbox,htab,hc,hw,hg,hac,hlen,hlt,hrow,hrl,hgf,hgt,h1,h2,hstb,l1,l2,jK,jG,go_sem,reduceIte,jA,jB,jC,jD,reduceCtorEq,jE,jF])|(with_reducible refine uR ?_;refine uS rfl ?_)|omega))
  rw[←hQ1]
  refine aF (j+1,T) (by dsimp only;omega) ⟨hlt,F,no (fun h=>h.elim (fun h=>by cases h) ha)⟩ ?_
  simp only[WkL,aD,jH,jI,jJ,go_sem,reduceIte,jA,jB,jC,jD,reduceCtorEq,jE,jF]
 have hc:decide ((j:Int)<(l.length:Int))=false:=decide_eq_false (by omega)
 have hjl:l.take j=l:=List.take_of_length_le (by omega)
 rw[hjl] at hT
 (repeat' (first|(with_reducible first|refine stp ?_|refine uP (by decide) ?_|refine uQ (fun _=>?_) (fun _=>?_))|((first|(with_reducible refine uA ?_;first|refine uB rfl ?_ ?_|(first|refine uC rfl ?_|refine uD rfl ?_)|refine uE rfl ?_)|(with_reducible refine uF ?_;first|refine uG rfl ?_ ?_|(first|refine uH rfl ?_|refine uI rfl ?_)|refine uJ rfl ?_|refine uK (uL ?_)|refine uK (uM ?_))|(with_reducible refine uN ?_;refine uO rfl ?_))<;>try simp only[hbox,hc,l1,l2,jK,go_sem,reduceIte,jA,jB,jC,jD,reduceCtorEq,jE,jF])|(with_reducible refine uR ?_;refine uS rfl ?_)|omega))
 rw[←hQ1]
 (repeat' (first|(with_reducible first|refine stp ?_|refine uP (by decide) ?_|refine uQ (fun _=>?_) (fun _=>?_))|((first|(with_reducible refine uA ?_;first|refine uB rfl ?_ ?_|(first|refine uC rfl ?_|refine uD rfl ?_)|refine uE rfl ?_)|(with_reducible refine uF ?_;first|refine uG rfl ?_ ?_|(first|refine uH rfl ?_|refine uI rfl ?_)|refine uJ rfl ?_|refine uK (uL ?_)|refine uK (uM ?_))|(with_reducible refine uN ?_;refine uO rfl ?_))<;>try simp only[hc,go_sem,reduceIte,jA,jB,jC,jD,reduceCtorEq,jE,jF])|(with_reducible refine uR ?_;refine uS rfl ?_)|omega))
 have hE:∀a b,pS idle l a b→a<i∧b<i:=by
  rintro a b ⟨w,hw,_,rfl,rfl⟩
  exact⟨(hfit w hw).1,(hfit w hw).2.1⟩
 clear hbox htab hge l1 l2 hlen hge2 hc hj hjl
 refine bD (fun q:Nat×(Nat→Nat→Bool)=>aD 111 0 [(2, .ptr nx (.agg 2) 0 0),(5, .rs (nx+1) .leaf 0 i),(8, .int .i64 q.1)])
  (fun q hp nx1=>q.1≤i∧tO h' hp nx nx1 i i mv q.2 ν∧Wsh (pS idle l) i q.1 0 0 q.2)
  (fun q=>i-q.1) (0,T) ⟨Nat.zero_le _,F,Wsh.first hT⟩ ?_ ?_
 ·simp only[WkL,aD,jH,jI,jJ,go_sem,reduceIte,jA,jB,jC,jD,reduceCtorEq,jE,jF]
 clear F hT
 rintro⟨k,T⟩ hp nx1 ⟨hk,F,W⟩
 generalize hQ2:dD _ _ _ _ _=Q2
 dsimp only at hk F W
 simp only[aD,go_sem,reduceIte,jA,jB,jC,jD,reduceCtorEq,jE,jF]
 have hbox:=F.box
 rw[hmv] at hbox
 have hge:=F.ge
 have l1:nx<nx1:=by omega
 rcases Nat.lt_or_ge k i with hkl|hge2
 ·have hc:decide ((k:Int)<(i:Int))=true:=decide_eq_true (by omega)
  have hw:IntKind.i64.wrap ((k:Int)+1)=((k+1:Nat):Int):=by rw[aY]<;>omega
  (repeat' (first|(with_reducible first|refine stp ?_|refine uP (by decide) ?_|refine uQ (fun _=>?_) (fun _=>?_))|((first|(with_reducible refine uA ?_;first|refine uB rfl ?_ ?_|(first|refine uC rfl ?_|refine uD rfl ?_)|refine uE rfl ?_)|(with_reducible refine uF ?_;first|refine uG rfl ?_ ?_|(first|refine uH rfl ?_|refine uI rfl ?_)|refine uJ rfl ?_|refine uK (uL ?_)|refine uK (uM ?_))|(with_reducible refine uN ?_;refine uO rfl ?_))<;>try simp only[hbox,hc,l1,go_sem,reduceIte,jA,jB,jC,jD,reduceCtorEq,jE,jF])|(with_reducible refine uR ?_;refine uS rfl ?_)|omega))
  refine bD (fun q:Nat×(Nat→Nat→Bool)=>aD 111 0 [(2, .ptr nx (.agg 2) 0 0),(5, .rs (nx+1) .leaf 0 i),(8, .int .i64 k),(9, .int .i64 q.1)])
   (fun q hp nx1=>q.1≤i∧tO h' hp nx nx1 i i mv q.2 ν∧Wsh (pS idle l) i k q.1 0 q.2)
   (fun q=>i-q.1) (0,T) ⟨Nat.zero_le _,F,W⟩ ?_ ?_
  ·simp only[WkL,aD,jH,jI,jJ,go_sem,reduceIte,jA,jB,jC,jD,reduceCtorEq,jE,jF]
  clear F W hbox hge l1
  rintro⟨x,T⟩ hp nx1 ⟨hx,F,W⟩
  generalize hQ3:dD _ _ _ _ _=Q3
  dsimp only at hx F W
  simp only[aD,go_sem,reduceIte,jA,jB,jC,jD,reduceCtorEq,jE,jF]
  have hbox:=F.box
  rw[hmv] at hbox
  have hge:=F.ge
  have l1:nx<nx1:=by omega
  rcases Nat.lt_or_ge x i with hxl|hge3
  ·have hc3:decide ((x:Int)<(i:Int))=true:=decide_eq_true (by omega)
   have hw3:IntKind.i64.wrap ((x:Int)+1)=((x+1:Nat):Int):=by rw[aY]<;>omega
   (repeat' (first|(with_reducible first|refine stp ?_|refine uP (by decide) ?_|refine uQ (fun _=>?_) (fun _=>?_))|((first|(with_reducible refine uA ?_;first|refine uB rfl ?_ ?_|(first|refine uC rfl ?_|refine uD rfl ?_)|refine uE rfl ?_)|(with_reducible refine uF ?_;first|refine uG rfl ?_ ?_|(first|refine uH rfl ?_|refine uI rfl ?_)|refine uJ rfl ?_|refine uK (uL ?_)|refine uK (uM ?_))|(with_reducible refine uN ?_;refine uO rfl ?_))<;>try simp only[hbox,hc3,l1,go_sem,reduceIte,jA,jB,jC,jD,reduceCtorEq,jE,jF])|(with_reducible refine uR ?_;refine uS rfl ?_)|omega))
   refine bD (fun q:Nat×(Nat→Nat→Bool)=>aD 111 0 [(2, .ptr nx (.agg 2) 0 0),(5, .rs (nx+1) .leaf 0 i),(8, .int .i64 k),(9, .int .i64 x),(10, .int .i64 q.1)])
    (fun q hp nx1=>q.1≤i∧tO h' hp nx nx1 i i mv q.2 ν∧Wsh (pS idle l) i k x q.1 q.2)
    (fun q=>i-q.1) (0,T) ⟨Nat.zero_le _,F,W⟩ ?_ ?_
   ·simp only[WkL,aD,jH,jI,jJ,go_sem,reduceIte,jA,jB,jC,jD,reduceCtorEq,jE,jF]
   clear F W hbox hge l1
   rintro⟨y,T⟩ hp nx1 ⟨hy,F,W⟩
   generalize hQ4:dD _ _ _ _ _=Q4
   dsimp only at hy F W
   simp only[aD,go_sem,reduceIte,jA,jB,jC,jD,reduceCtorEq,jE,jF]
   have hbox:=F.box
   rw[hmv] at hbox
   have htab:=F.tab
   have hge:=F.ge
   have l1:nx<nx1:=by omega
   have l2:nx+1<nx1:=by omega
   have hlen:=qH i i ν
   have hrx:=(F.row x hxl hxl).1
   have hrk:=(F.row k hkl hkl).1
   have hrlx:=nH i T x
   have hrlk:=nH i T k
   have hgx:(mO i i ν).getD x (.tup [])= .rs (ν x) .leaf 0 i:=by rw[qI ν hxl,if_pos hxl]
   have hgk:(mO i i ν).getD k (.tup [])= .rs (ν k) .leaf 0 i:=by rw[qI ν hkl,if_pos hkl]
   have hxk:=pL T x hkl
   rcases Nat.lt_or_ge y i with hyl|hge4
   ·have hc4:decide ((y:Int)<(i:Int))=true:=decide_eq_true (by omega)
    have hw4:IntKind.i64.wrap ((y:Int)+1)=((y+1:Nat):Int):=by rw[aY]<;>omega
    have hxy:=pL T x hyl
    have hky:=pL T k hyl
    cases hb:T x k with
    |true=>
     rw[hb] at hxk
     have hs:=W.step hkl hxl hyl hb
     cases hb1:T x y with
     |true=>
      rw[hb1] at hxy hs
      (repeat' (first|(with_reducible first|refine stp ?_|refine uP (by decide) ?_|refine uQ (fun _=>?_) (fun _=>?_))|((first|(with_reducible refine uA ?_;first|refine uB rfl ?_ ?_|(first|refine uC rfl ?_|refine uD rfl ?_)|refine uE rfl ?_)|(with_reducible refine uF ?_;first|refine uG rfl ?_ ?_|(first|refine uH rfl ?_|refine uI rfl ?_)|refine uJ rfl ?_|refine uK (uL ?_)|refine uK (uM ?_))|(with_reducible refine uN ?_;refine uO rfl ?_))<;>try simp only[hbox,htab,hc4,hw4,hlen,hrx,hrk,hrlx,hrlk,hgx,hgk,hxk,hxy,hky,hxl,hkl,hyl,hstb,l1,l2,jG,go_sem,reduceIte,jA,jB,jC,jD,reduceCtorEq,jE,jF])|(with_reducible refine uR ?_;refine uS rfl ?_)|omega))
      rw[←hQ4]
      refine aF (y+1,upd T x y true) (by dsimp only;omega) ⟨hyl,(F.put hxl hyl true).up (by omega),hs⟩ ?_
      simp only[WkL,aD,jH,jI,jJ,go_sem,reduceIte,jA,jB,jC,jD,reduceCtorEq,jE,jF]
     |false=>
      rw[hb1] at hxy hs
      rw[Bool.false_or] at hs
      (repeat' (first|(with_reducible first|refine stp ?_|refine uP (by decide) ?_|refine uQ (fun _=>?_) (fun _=>?_))|((first|(with_reducible refine uA ?_;first|refine uB rfl ?_ ?_|(first|refine uC rfl ?_|refine uD rfl ?_)|refine uE rfl ?_)|(with_reducible refine uF ?_;first|refine uG rfl ?_ ?_|(first|refine uH rfl ?_|refine uI rfl ?_)|refine uJ rfl ?_|refine uK (uL ?_)|refine uK (uM ?_))|(with_reducible refine uN ?_;refine uO rfl ?_))<;>try simp only[hbox,htab,hc4,hw4,hlen,hrx,hrk,hrlx,hrlk,hgx,hgk,hxk,hxy,hky,hxl,hkl,hyl,hstb,l1,l2,jG,go_sem,reduceIte,jA,jB,jC,jD,reduceCtorEq,jE,jF])|(with_reducible refine uR ?_;refine uS rfl ?_)|omega))
      rw[←hQ4]
      refine aF (y+1,upd T x y (T k y)) (by dsimp only;omega) ⟨hyl,(F.put hxl hyl (T k y)).up (by omega),hs⟩ ?_
      simp only[WkL,aD,jH,jI,jJ,go_sem,reduceIte,jA,jB,jC,jD,reduceCtorEq,jE,jF]
    |false=>
     rw[hb] at hxk
     have hs:=W.no hkl hxl hb
     (repeat' (first|(with_reducible first|refine stp ?_|refine uP (by decide) ?_|refine uQ (fun _=>?_) (fun _=>?_))|((first|(with_reducible refine uA ?_;first|refine uB rfl ?_ ?_|(first|refine uC rfl ?_|refine uD rfl ?_)|refine uE rfl ?_)|(with_reducible refine uF ?_;first|refine uG rfl ?_ ?_|(first|refine uH rfl ?_|refine uI rfl ?_)|refine uJ rfl ?_|refine uK (uL ?_)|refine uK (uM ?_))|(with_reducible refine uN ?_;refine uO rfl ?_))<;>try simp only[hbox,htab,hc4,hlen,hrx,hrlx,hgx,hxk,hxl,hkl,l1,l2,jG,go_sem,reduceIte,jA,jB,jC,jD,reduceCtorEq,jE,jF])|(with_reducible refine uR ?_;refine uS rfl ?_)|omega))
     rw[←hQ4]
     (repeat' (first|(with_reducible first|refine stp ?_|refine uP (by decide) ?_|refine uQ (fun _=>?_) (fun _=>?_))|((first|(with_reducible refine uA ?_;first|refine uB rfl ?_ ?_|(first|refine uC rfl ?_|refine uD rfl ?_)|refine uE rfl ?_)|(with_reducible refine uF ?_;first|refine uG rfl ?_ ?_|(first|refine uH rfl ?_|refine uI rfl ?_)|refine uJ rfl ?_|refine uK (uL ?_)|refine uK (uM ?_))|(with_reducible refine uN ?_;refine uO rfl ?_))<;>try simp only[hw3,go_sem,reduceIte,jA,jB,jC,jD,reduceCtorEq,jE,jF])|(with_reducible refine uR ?_;refine uS rfl ?_)|omega))
     rw[←hQ3]
     refine aF (x+1,T) (by dsimp only;omega) ⟨hxl,F,hs⟩ ?_
     simp only[WkL,aD,jH,jI,jJ,go_sem,reduceIte,jA,jB,jC,jD,reduceCtorEq,jE,jF]
   have hc4:decide ((y:Int)<(i:Int))=false:=decide_eq_false (by omega)
   have hyi:y=i:=by omega
   subst hyi
   (repeat' (first|(with_reducible first|refine stp ?_|refine uP (by decide) ?_|refine uQ (fun _=>?_) (fun _=>?_))|((first|(with_reducible refine uA ?_;first|refine uB rfl ?_ ?_|(first|refine uC rfl ?_|refine uD rfl ?_)|refine uE rfl ?_)|(with_reducible refine uF ?_;first|refine uG rfl ?_ ?_|(first|refine uH rfl ?_|refine uI rfl ?_)|refine uJ rfl ?_|refine uK (uL ?_)|refine uK (uM ?_))|(with_reducible refine uN ?_;refine uO rfl ?_))<;>try simp only[hbox,hc4,l1,l2,go_sem,reduceIte,jA,jB,jC,jD,reduceCtorEq,jE,jF])|(with_reducible refine uR ?_;refine uS rfl ?_)|omega))
   rw[←hQ4]
   (repeat' (first|(with_reducible first|refine stp ?_|refine uP (by decide) ?_|refine uQ (fun _=>?_) (fun _=>?_))|((first|(with_reducible refine uA ?_;first|refine uB rfl ?_ ?_|(first|refine uC rfl ?_|refine uD rfl ?_)|refine uE rfl ?_)|(with_reducible refine uF ?_;first|refine uG rfl ?_ ?_|(first|refine uH rfl ?_|refine uI rfl ?_)|refine uJ rfl ?_|refine uK (uL ?_)|refine uK (uM ?_))|(with_reducible refine uN ?_;refine uO rfl ?_))<;>try simp only[hw3,go_sem,reduceIte,jA,jB,jC,jD,reduceCtorEq,jE,jF])|(with_reducible refine uR ?_;refine uS rfl ?_)|omega))
   rw[←hQ3]
   refine aF (x+1,T) (by dsimp only;omega) ⟨hxl,F,W.rowEnd⟩ ?_
   simp only[WkL,aD,jH,jI,jJ,go_sem,reduceIte,jA,jB,jC,jD,reduceCtorEq,jE,jF]
  have hc3:decide ((x:Int)<(i:Int))=false:=decide_eq_false (by omega)
  have hxi:x=i:=by omega
  subst hxi
  (repeat' (first|(with_reducible first|refine stp ?_|refine uP (by decide) ?_|refine uQ (fun _=>?_) (fun _=>?_))|((first|(with_reducible refine uA ?_;first|refine uB rfl ?_ ?_|(first|refine uC rfl ?_|refine uD rfl ?_)|refine uE rfl ?_)|(with_reducible refine uF ?_;first|refine uG rfl ?_ ?_|(first|refine uH rfl ?_|refine uI rfl ?_)|refine uJ rfl ?_|refine uK (uL ?_)|refine uK (uM ?_))|(with_reducible refine uN ?_;refine uO rfl ?_))<;>try simp only[hbox,hc3,l1,go_sem,reduceIte,jA,jB,jC,jD,reduceCtorEq,jE,jF])|(with_reducible refine uR ?_;refine uS rfl ?_)|omega))
  rw[←hQ3]
  (repeat' (first|(with_reducible first|refine stp ?_|refine uP (by decide) ?_|refine uQ (fun _=>?_) (fun _=>?_))|((first|(with_reducible refine uA ?_;first|refine uB rfl ?_ ?_|(first|refine uC rfl ?_|refine uD rfl ?_)|refine uE rfl ?_)|(with_reducible refine uF ?_;first|refine uG rfl ?_ ?_|(first|refine uH rfl ?_|refine uI rfl ?_)|refine uJ rfl ?_|refine uK (uL ?_)|refine uK (uM ?_))|(with_reducible refine uN ?_;refine uO rfl ?_))<;>try simp only[hw,go_sem,reduceIte,jA,jB,jC,jD,reduceCtorEq,jE,jF])|(with_reducible refine uR ?_;refine uS rfl ?_)|omega))
  rw[←hQ2]
  refine aF (k+1,T) (by dsimp only;omega) ⟨hkl,F,W.next⟩ ?_
  simp only[WkL,aD,jH,jI,jJ,go_sem,reduceIte,jA,jB,jC,jD,reduceCtorEq,jE,jF]
 have hc:decide ((k:Int)<(i:Int))=false:=decide_eq_false (by omega)
 have hki:k=i:=by omega
 subst hki
 (repeat' (first|(with_reducible first|refine stp ?_|refine uP (by decide) ?_|refine uQ (fun _=>?_) (fun _=>?_))|((first|(with_reducible refine uA ?_;first|refine uB rfl ?_ ?_|(first|refine uC rfl ?_|refine uD rfl ?_)|refine uE rfl ?_)|(with_reducible refine uF ?_;first|refine uG rfl ?_ ?_|(first|refine uH rfl ?_|refine uI rfl ?_)|refine uJ rfl ?_|refine uK (uL ?_)|refine uK (uM ?_))|(with_reducible refine uN ?_;refine uO rfl ?_))<;>try simp only[hbox,hc,l1,go_sem,reduceIte,jA,jB,jC,jD,reduceCtorEq,jE,jF])|(with_reducible refine uR ?_;refine uS rfl ?_)|omega))
 rw[←hQ2]
 (repeat' (first|(with_reducible first|refine stp ?_|refine uP (by decide) ?_|refine uQ (fun _=>?_) (fun _=>?_))|((first|(with_reducible refine uA ?_;first|refine uB rfl ?_ ?_|(first|refine uC rfl ?_|refine uD rfl ?_)|refine uE rfl ?_)|(with_reducible refine uF ?_;first|refine uG rfl ?_ ?_|(first|refine uH rfl ?_|refine uI rfl ?_)|refine uJ rfl ?_|refine uK (uL ?_)|refine uK (uM ?_))|(with_reducible refine uN ?_;refine uO rfl ?_))<;>try simp only[ go_sem,reduceIte,jA,jB,jC,jD,reduceCtorEq,jE,jF])|(with_reducible refine uR ?_;refine uS rfl ?_)|omega))
 have hTJ:∀x,x<k→mS k T x=mS k (gR idle l) x:=fun x hx=>lX fun y hy=>by
  have:T x y=gR idle l x y:=by rw[Bool.eq_iff_iff,pP];exact W.done hE x y hx hy
  rw[this]
 have hgl:∀x (hx:x<(jZ k (mS k (gR idle l))).length),(jZ k (mS k (gR idle l)))[x]=mS k (gR idle l) x:=fun x hx=>by simp[jZ]
 refine aO hp (Hp.le_refl _) ⟨nx+1,ν,jZ k (mS k (gR idle l)),mO k k ν,?_,by omega,fun x hx hne=>?_,?_,F.same,rfl⟩
 ·simp only[iX,go_sem,reduceIte,jA,jB,jC,jD,reduceCtorEq,jE,jF]
 ·have hx':x<k:=by simpa [iX] using hx
  have:=(F.row x hx' hx').2.1
  omega
 refine⟨F.tab,by rw[qH,iX],fun x hx hx' h0=>absurd h0 (by omega),fun x hx hx' _=>?_,fun x hx _ hne=>?_,fun x x' hx hx' _ hlt hne hne'=>?_⟩
 ·have hxk:x<k:=by simpa [iX] using hx
  rw[hgl]
  have h1:(mO k k ν)[x]= .rs (ν x) .leaf 0 k:=by simp[mO,jZ,hxk]
  rw[h1]
  unfold sN
  have h2:(mS k (gR idle l) x).isEmpty=false:=by
   cases e:mS k (gR idle l) x with
   |nil=>have:=nH k (gR idle l) x;rw[e] at this;simp at this;omega
   |cons=>rfl
  rw[h2,nH]
  rfl
 ·have hxk:x<k:=by simpa [iX] using hx
  rw[hgl,←hTJ x hxk]
  have:=F.row x hxk hxk
  exact⟨this.1,by omega⟩
 have hxk:x<k:=by simpa [iX] using hx
 have hxk':x'<k:=by simpa [iX] using hx'
 exact F.apart x x' hxk hxk' hxk hxk' (by omega)
noncomputable def aGx(n:Nat)(idle:Bool)(l:List We):V:= .sl .leaf .free ((jZ n (mS n (gR idle l))).map (lst .leaf))
theorem xF(o:Own)(n:Nat)(l:List We)(idle:Bool)(hfit:vT n l)(hn:n≤200)(hl:l.length≤1000)(h:Hp):
 bP Tryz.prog 147 [.agg [.int .i64 n,wes o l], .bool idle] h (aGx n idle l):=by
 refine aZ (fun L=>?_) fun h' nx hh=>(oT (G:=fun ls=>ls=jZ n (mS n (gR idle l))) (aCG o n l idle hfit hn hl h' nx)).mono ?_
 ·unfold aGx
  simp only[V.names,true_and,and_true]
  refine⟨fun n e=>(by cases e),?_⟩
  unfold jZ
  rw[List.map_map]
  exact cV (f:=lst .leaf∘mS n (gR idle l)) (fun i=>gD (fun L=>by unfold mS jZ;exact cV (f:=fun j=>V.bool (gR idle l i j)) (fun j=>trivial) _) L) _
 rintro v h'' nx2 hnx ⟨ls,rfl,rfl,rfl⟩
 exact⟨rfl,rfl⟩
/-
Contract of the document's Of:the map of ways. No conditions.
-/
theorem qC(a b:Int):a<b∨b≤a:=by omega
theorem xL(l:List We):pS false l=tP l:=by
 funext i j
 simp[pS,tP]
theorem zY(l:List We):pS true l=fun a b=>(a,b)∈zE l:=by
 funext i j
 apply propext
 rw[aFn]
 constructor
 ·rintro⟨w,h1,h2,h3,h4⟩
  exact⟨w,h1,h2.elim (fun h=>by cases h) id,by rw[h3,h4]⟩
 rintro⟨w,h1,h2,h3⟩
 injection h3 with h3 h4
 exact⟨w,h1, .inr h2,h3,h4⟩
theorem aEs{n:Nat}{l:List We}{b:Bool}{i:Nat}(hi:i<n):((jZ n (mS n (gR b l))).map (lst .leaf)).getD i (.tup [])= .sl .leaf .free (mS n (gR b l) i):=by
 have h1:i<((jZ n (mS n (gR b l))).map (lst .leaf)).length:=by simpa [iX] using hi
 rw[List.getD_eq_getElem?_getD,List.getElem?_eq_getElem h1]
 simp only[List.getElem_map,jZ,List.getElem_range,Option.getD_some]
 unfold lst
 have h2:=nH n (gR b l) i
 cases e:mS n (gR b l) i with
 |nil=>rw[e] at h2;simp at h2;omega
 |cons=>rfl
theorem aBg(n:Nat)(b:Bool)(l:List We):((jZ n (mS n (gR b l))).map (lst .leaf)).length=n:=by rw[jK,iX]
theorem aDO{n:Int}{oo:Own}{M:List Wy}{c:Int}(h:(M=[]∧oo= .nil)∨(M≠ []∧oo≠ .nil)):(V.tup [.agg [.int .i64 n,wys oo M], .int .i64 c]).loose2= .tup [wC n M, .int .i64 c]:=by
 rcases h with⟨rfl,rfl⟩|⟨h1,h2⟩
 ·rfl
 cases M with
 |nil=>exact absurd rfl h1
 |cons w M=>cases oo<;>first|exact absurd rfl h2|rfl
theorem aEu(l:List Wy)(w:Wy):pH Wy.less l w≠ []:=by
 cases l with
 |nil=>simp[pH]
 |cons x l=>unfold pH;repeat' split
            all_goals simp
theorem aCL(ws:List Wy)(i:Nat)(h:i<ws.length):mN Wy.less (ws.take (i+1))=pH Wy.less (mN Wy.less (ws.take i)) ws[i]:=by
 rw[List.take_succ_eq_append_getElem h]
 unfold mN
 rw[List.foldl_append]
 rfl
theorem aDV(l:List Wy):(mN Wy.less l).length≤l.length:=by rw[←oR];exact oQ l
set_option maxRecDepth 100000 in
set_option maxHeartbeats 4000000 in
theorem aDB(o:Own)(P:Int)(ws:List Wy)(hl:ws.length≤1000)(h:Hp):bP Tryz.prog 105 [.int .i64 P,wys o ws] h (.tup [wC (eI P ws).1.1 (eI P ws).1.2, .int .i64 (eI P ws).2]):=by
 refine yT (fun L=>by simp[V.names,dG,sZ]) fun h' nx hh=>aK L.corollaryref22_Of_low fun hd=>?_
 simp only[jL,jM,jA,jB,jN,jO,jP,jQ,V.undef]
 have e1:(P<0∨200<P)→eI P ws=((0,[]),1):=fun h=>by
  unfold eI
  rw[if_pos (h.elim .inl fun h=> .inr (.inl h))]
 rcases qC P 0 with hP|hP
 ·have hc1:decide (P<0)=true:=decide_eq_true hP
  have hmf:(V.agg [V.int .i64 0,V.sl (.agg 4) .nil []]).fits (.agg 2)=true:=rfl
  (repeat' (first|(with_reducible first|refine stp ?_|refine uP (by decide) ?_|refine uQ (fun _=>?_) (fun _=>?_))|((first|(with_reducible refine uA ?_;first|refine uB rfl ?_ ?_|(first|refine uC rfl ?_|refine uD rfl ?_)|refine uE rfl ?_)|(with_reducible refine uF ?_;first|refine uG rfl ?_ ?_|(first|refine uH rfl ?_|refine uI rfl ?_)|refine uJ rfl ?_|refine uK (uL ?_)|refine uK (uM ?_))|(with_reducible refine uN ?_;refine uO rfl ?_))<;>try simp only[hc1,hmf,go_sem,reduceIte,jA,jB,jC,jD,reduceCtorEq,jE,jF])|(with_reducible refine uR ?_;refine uS rfl ?_)|omega))
  refine dO (by simp only[go_sem,reduceIte,jA,jB,jC,jD,reduceCtorEq,jE,jF]) h' (by repeat (first|exact Hp.le_refl _|refine aQ hd ?_ (by omega) _|refine aV hd ?_ (by omega))) ⟨?_,Hp.le_refl _⟩
  simp only[go_sem,reduceIte,jA,jB,jC,jD,reduceCtorEq,jE,jF]
  rw[e1 (.inl hP)]
  rfl
 rcases qC 200 P with hP2|hP2
 ·have hc1:decide (P<0)=false:=decide_eq_false (by omega)
  have hc2:decide (P>200)=true:=decide_eq_true (by omega)
  have hmf:(V.agg [V.int .i64 0,V.sl (.agg 4) .nil []]).fits (.agg 2)=true:=rfl
  (repeat' (first|(with_reducible first|refine stp ?_|refine uP (by decide) ?_|refine uQ (fun _=>?_) (fun _=>?_))|((first|(with_reducible refine uA ?_;first|refine uB rfl ?_ ?_|(first|refine uC rfl ?_|refine uD rfl ?_)|refine uE rfl ?_)|(with_reducible refine uF ?_;first|refine uG rfl ?_ ?_|(first|refine uH rfl ?_|refine uI rfl ?_)|refine uJ rfl ?_|refine uK (uL ?_)|refine uK (uM ?_))|(with_reducible refine uN ?_;refine uO rfl ?_))<;>try simp only[hc1,hc2,hmf,go_sem,reduceIte,jA,jB,jC,jD,reduceCtorEq,jE,jF])|(with_reducible refine uR ?_;refine uS rfl ?_)|omega))
  refine dO (by simp only[go_sem,reduceIte,jA,jB,jC,jD,reduceCtorEq,jE,jF]) h' (by repeat (first|exact Hp.le_refl _|refine aQ hd ?_ (by omega) _|refine aV hd ?_ (by omega))) ⟨?_,Hp.le_refl _⟩
  simp only[go_sem,reduceIte,jA,jB,jC,jD,reduceCtorEq,jE,jF]
  rw[e1 (.inr hP2)]
  rfl
 have hc1:decide (P<0)=false:=decide_eq_false (by omega)
 have hc2:decide (P>200)=false:=decide_eq_false (by omega)
 have hmf:∀m oo M,(V.agg [V.int .i64 m,wys oo M]).fits (.agg 2)=true:=fun _ _ _=>by simp[V.fits,V.leafy]
 have hmf0:(V.agg [V.int .i64 0,V.sl (.agg 4) .nil []]).fits (.agg 2)=true:=rfl
 have hmfw:∀oo l,(V.agg [V.int .i64 P,wes oo l]).fits (.agg 2)=true:=fun _ _=>by simp[V.fits,V.leafy]
 have hex:∀(code:Int) (sl:List V) (h2:Hp) (nx2:Nat),eI P ws=((0,[]),code)→Hp.same nx h' h2→h2 nx=some (.arr (.agg 2) [.agg [.int .i64 0, .sl (.agg 4) .nil []]])→sl.getD 4 V.undef= .ptr nx (.agg 2) 0 0→sl.getD 5 V.undef= .int .i64 code→tY [wS.cell 4 (.agg 2),wS.slot 5] (fun v' h'' x=>v'.loose2= .tup [wC (eI P ws).1.1 (eI P ws).1.2, .int .i64 (eI P ws).2]∧h'.le h'') eO.ret ⟨sl,h2,nx2⟩:=fun code sl h2 nx2 q0 q2 q1 q3 q4=>by
  have q3':sl.getD 4 (.tup [])= .ptr nx (.agg 2) 0 0:=q3
  refine dO (by simp only[bH.ok,aU.ev,q1,q3',q3,V.undef,go_sem,reduceIte,jA,jB,jC,jD,reduceCtorEq,jE,jF]) h' (q2.le hd (Hp.le_refl _)) ⟨?_,Hp.le_refl _⟩
  rw[q0,q4]
  simp only[bH.out,aU.ev,q1,q3',q3,V.undef,go_sem,reduceIte,jA,jB,jC,jD,reduceCtorEq,jE,jF]
  rfl
 (repeat' (first|(with_reducible first|refine stp ?_|refine uP (by decide) ?_|refine uQ (fun _=>?_) (fun _=>?_))|((first|(with_reducible refine uA ?_;first|refine uB rfl ?_ ?_|(first|refine uC rfl ?_|refine uD rfl ?_)|refine uE rfl ?_)|(with_reducible refine uF ?_;first|refine uG rfl ?_ ?_|(first|refine uH rfl ?_|refine uI rfl ?_)|refine uJ rfl ?_|refine uK (uL ?_)|refine uK (uM ?_))|(with_reducible refine uN ?_;refine uO rfl ?_))<;>try simp only[hc1,hc2,hmf0,go_sem,reduceIte,jA,jB,jC,jD,reduceCtorEq,jE,jF])|(with_reducible refine uR ?_;refine uS rfl ?_)|omega))
 refine bD (fun q:Nat×Own=>aD 138 0 [(0, .int .i64 P),(1,wys o ws),(4, .ptr nx (.agg 2) 0 0),(6, .ptr (nx+1) (.agg 2) 0 0),(7, .int .i64 q.1)])
  (fun q hp nx1=>q.1≤ws.length∧nx+2≤nx1∧aT hp nx1∧hp nx=some (.arr (.agg 2) [.agg [.int .i64 0, .sl (.agg 4) .nil []]])∧hp (nx+1)=some (.arr (.agg 2) [.agg [.int .i64 P,wys q.2 (mN Wy.less (ws.take q.1))]])∧Hp.same nx h' hp∧((mN Wy.less (ws.take q.1)=[]∧q.2= .nil)∨(mN Wy.less (ws.take q.1)≠ []∧q.2≠ .nil))∧∀w∈ws.take q.1,w.fit P=true)
  (fun q=>ws.length-q.1) (0, .nil) ⟨Nat.zero_le _,by dsimp only;omega,(by(try dsimp only);repeat (first|exact aT.up hd (by omega)|refine aT.set2 ?_ (by omega) _|refine aT.del ?_|refine aT.delO ?_ _)),by simp only[go_sem,reduceIte,jA,jB,jC,jD,reduceCtorEq,jE,jF],by simp only[mN,List.foldl_nil,wys,List.map_nil,go_sem,reduceIte,jA,jB,jC,jD,reduceCtorEq,jE,jF],(by(try dsimp only);repeat (first|exact Hp.same.rfl'|refine bK ?_ (by omega) _|refine bE ?_ (by omega))), .inl ⟨rfl,rfl⟩,fun w hw=>by simp at hw⟩ ?_ ?_
 ·simp only[WkL,aD,jH,jI,jJ,wys,go_sem,reduceIte,jA,jB,jC,jD,reduceCtorEq,jE,jF]
 rintro⟨i,oo⟩ hp nx1 ⟨hi,hnx,hdm,hb0,hb1,hsm,hoo,hfits⟩
 generalize hQ:dD _ _ _ _ _=Q0
 dsimp only at hi hb1 hoo hfits
 simp only[aD,go_sem,reduceIte,jA,jB,jC,jD,reduceCtorEq,jE,jF]
 have l1:nx<nx1:=by omega
 have l2:nx+1<nx1:=by omega
 rcases Nat.lt_or_ge i ws.length with hlt|hge
 ·have hc:decide ((i:Int)<(ws.length:Int))=true:=decide_eq_true (by omega)
  have hg:(ws.map Wy.v).getD i (.tup [])= .agg [.int .i64 ws[i].f, .int .i64 ws[i].t, .bool ws[i].p.n, .int .i64 ws[i].p.a]:=bB Wy.v ws i hlt
  have hw:IntKind.i64.wrap ((i:Int)+1)=((i+1:Nat):Int):=by rw[aY]<;>omega
  have htk:ws.take (i+1)=ws.take i++[ws[i]]:=List.take_succ_eq_append_getElem hlt
  have hins:=aCL ws i hlt
  have hil:(mN Wy.less (ws.take i)).length≤100000:=Nat.le_trans (aDV _) (by simp;omega)
  obtain⟨M,hM⟩:∃M,M=mN Wy.less (ws.take i):=⟨_,rfl⟩
  rw[←hM] at hb1 hoo hins hil
  have hmem:ws[i]∈ws:=List.getElem_mem _
  have hbad:ws[i].fit P=false→eI P ws=((0,[]),1):=fun h=>by
   unfold eI
   rw[if_pos (.inr (.inr ⟨_,hmem,h⟩))]
  obtain⟨w,hwi⟩:∃w,w=ws[i]:=⟨_,rfl⟩
  rw[←hwi] at hg htk hins hbad
  have hdef:w.fit P=(decide (0≤w.f)&&(decide (w.f<P)&&(decide (0≤w.t)&&(decide (w.t<P)&&w.p.ok)))):=rfl
  rcases qC w.f 0 with f1|f1
  ·have hd1:decide (w.f<0)=true:=decide_eq_true f1
   have hn:eI P ws=((0,[]),1):=hbad (by rw[hdef,decide_eq_false (by omega)];rfl)
   (repeat' (first|(with_reducible first|refine stp ?_|refine uP (by decide) ?_|refine uQ (fun _=>?_) (fun _=>?_))|((first|(with_reducible refine uA ?_;first|refine uB rfl ?_ ?_|(first|refine uC rfl ?_|refine uD rfl ?_)|refine uE rfl ?_)|(with_reducible refine uF ?_;first|refine uG rfl ?_ ?_|(first|refine uH rfl ?_|refine uI rfl ?_)|refine uJ rfl ?_|refine uK (uL ?_)|refine uK (uM ?_))|(with_reducible refine uN ?_;refine uO rfl ?_))<;>try simp only[hb0,hb1,hc,hg,hlt,l1,l2,hmf0,hd1,jK,jG,go_sem,reduceIte,jA,jB,jC,jD,reduceCtorEq,jE,jF])|(with_reducible refine uR ?_;refine uS rfl ?_)|omega))
   rw[←hQ]
   (repeat' (first|(with_reducible first|refine stp ?_|refine uP (by decide) ?_|refine uQ (fun _=>?_) (fun _=>?_))|((first|(with_reducible refine uA ?_;first|refine uB rfl ?_ ?_|(first|refine uC rfl ?_|refine uD rfl ?_)|refine uE rfl ?_)|(with_reducible refine uF ?_;first|refine uG rfl ?_ ?_|(first|refine uH rfl ?_|refine uI rfl ?_)|refine uJ rfl ?_|refine uK (uL ?_)|refine uK (uM ?_))|(with_reducible refine uN ?_;refine uO rfl ?_))<;>try simp only[ go_sem,reduceIte,jA,jB,jC,jD,reduceCtorEq,jE,jF])|(with_reducible refine uR ?_;refine uS rfl ?_)|omega))
   refine hex 1 _ _ _ hn ?_ ?_ ?_ ?_
   ·exact(by(try dsimp only);repeat (first|exact hsm|refine bK ?_ (by omega) _|refine bE ?_ (by omega)))
   ·simp only[go_sem,reduceIte,jA,jB,jC,jD,reduceCtorEq,jE,jF]
   ·rfl
   rfl
  rcases qC w.t 0 with f2|f2
  ·have hd1:decide (w.f<0)=false:=decide_eq_false (by omega)
   have hd2:decide (w.t<0)=true:=decide_eq_true f2
   have hn:eI P ws=((0,[]),1):=hbad (by rw[hdef,decide_eq_false (show¬(0:Int)≤w.t by omega)];simp)
   (repeat' (first|(with_reducible first|refine stp ?_|refine uP (by decide) ?_|refine uQ (fun _=>?_) (fun _=>?_))|((first|(with_reducible refine uA ?_;first|refine uB rfl ?_ ?_|(first|refine uC rfl ?_|refine uD rfl ?_)|refine uE rfl ?_)|(with_reducible refine uF ?_;first|refine uG rfl ?_ ?_|(first|refine uH rfl ?_|refine uI rfl ?_)|refine uJ rfl ?_|refine uK (uL ?_)|refine uK (uM ?_))|(with_reducible refine uN ?_;refine uO rfl ?_))<;>try simp only[hb0,hb1,hc,hg,hlt,l1,l2,hmf0,hd1,hd2,jK,jG,go_sem,reduceIte,jA,jB,jC,jD,reduceCtorEq,jE,jF])|(with_reducible refine uR ?_;refine uS rfl ?_)|omega))
   rw[←hQ]
   (repeat' (first|(with_reducible first|refine stp ?_|refine uP (by decide) ?_|refine uQ (fun _=>?_) (fun _=>?_))|((first|(with_reducible refine uA ?_;first|refine uB rfl ?_ ?_|(first|refine uC rfl ?_|refine uD rfl ?_)|refine uE rfl ?_)|(with_reducible refine uF ?_;first|refine uG rfl ?_ ?_|(first|refine uH rfl ?_|refine uI rfl ?_)|refine uJ rfl ?_|refine uK (uL ?_)|refine uK (uM ?_))|(with_reducible refine uN ?_;refine uO rfl ?_))<;>try simp only[ go_sem,reduceIte,jA,jB,jC,jD,reduceCtorEq,jE,jF])|(with_reducible refine uR ?_;refine uS rfl ?_)|omega))
   refine hex 1 _ _ _ hn ?_ ?_ ?_ ?_
   ·exact(by(try dsimp only);repeat (first|exact hsm|refine bK ?_ (by omega) _|refine bE ?_ (by omega)))
   ·simp only[go_sem,reduceIte,jA,jB,jC,jD,reduceCtorEq,jE,jF]
   ·rfl
   rfl
  rcases qC w.f P with f3|f3
  rotate_left
  ·have hd1:decide (w.f<0)=false:=decide_eq_false (by omega)
   have hd2:decide (w.t<0)=false:=decide_eq_false (by omega)
   have hd3:decide (w.f≥P)=true:=decide_eq_true f3
   have hn:eI P ws=((0,[]),1):=hbad (by rw[hdef,decide_eq_false (show¬w.f<P by omega)];simp)
   (repeat' (first|(with_reducible first|refine stp ?_|refine uP (by decide) ?_|refine uQ (fun _=>?_) (fun _=>?_))|((first|(with_reducible refine uA ?_;first|refine uB rfl ?_ ?_|(first|refine uC rfl ?_|refine uD rfl ?_)|refine uE rfl ?_)|(with_reducible refine uF ?_;first|refine uG rfl ?_ ?_|(first|refine uH rfl ?_|refine uI rfl ?_)|refine uJ rfl ?_|refine uK (uL ?_)|refine uK (uM ?_))|(with_reducible refine uN ?_;refine uO rfl ?_))<;>try simp only[hb0,hb1,hc,hg,hlt,l1,l2,hmf0,hd1,hd2,hd3,jK,jG,go_sem,reduceIte,jA,jB,jC,jD,reduceCtorEq,jE,jF])|(with_reducible refine uR ?_;refine uS rfl ?_)|omega))
   rw[←hQ]
   (repeat' (first|(with_reducible first|refine stp ?_|refine uP (by decide) ?_|refine uQ (fun _=>?_) (fun _=>?_))|((first|(with_reducible refine uA ?_;first|refine uB rfl ?_ ?_|(first|refine uC rfl ?_|refine uD rfl ?_)|refine uE rfl ?_)|(with_reducible refine uF ?_;first|refine uG rfl ?_ ?_|(first|refine uH rfl ?_|refine uI rfl ?_)|refine uJ rfl ?_|refine uK (uL ?_)|refine uK (uM ?_))|(with_reducible refine uN ?_;refine uO rfl ?_))<;>try simp only[ go_sem,reduceIte,jA,jB,jC,jD,reduceCtorEq,jE,jF])|(with_reducible refine uR ?_;refine uS rfl ?_)|omega))
   refine hex 1 _ _ _ hn ?_ ?_ ?_ ?_
   ·exact(by(try dsimp only);repeat (first|exact hsm|refine bK ?_ (by omega) _|refine bE ?_ (by omega)))
   ·simp only[go_sem,reduceIte,jA,jB,jC,jD,reduceCtorEq,jE,jF]
   ·rfl
   rfl
  rcases qC w.t P with f4|f4
  rotate_left
  ·have hd1:decide (w.f<0)=false:=decide_eq_false (by omega)
   have hd2:decide (w.t<0)=false:=decide_eq_false (by omega)
   have hd3:decide (w.f≥P)=false:=decide_eq_false (by omega)
   have hd4:decide (w.t≥P)=true:=decide_eq_true f4
   have hn:eI P ws=((0,[]),1):=hbad (by rw[hdef,decide_eq_false (show¬w.t<P by omega)];simp)
   (repeat' (first|(with_reducible first|refine stp ?_|refine uP (by decide) ?_|refine uQ (fun _=>?_) (fun _=>?_))|((first|(with_reducible refine uA ?_;first|refine uB rfl ?_ ?_|(first|refine uC rfl ?_|refine uD rfl ?_)|refine uE rfl ?_)|(with_reducible refine uF ?_;first|refine uG rfl ?_ ?_|(first|refine uH rfl ?_|refine uI rfl ?_)|refine uJ rfl ?_|refine uK (uL ?_)|refine uK (uM ?_))|(with_reducible refine uN ?_;refine uO rfl ?_))<;>try simp only[hb0,hb1,hc,hg,hlt,l1,l2,hmf0,hd1,hd2,hd3,hd4,jK,jG,go_sem,reduceIte,jA,jB,jC,jD,reduceCtorEq,jE,jF])|(with_reducible refine uR ?_;refine uS rfl ?_)|omega))
   rw[←hQ]
   (repeat' (first|(with_reducible first|refine stp ?_|refine uP (by decide) ?_|refine uQ (fun _=>?_) (fun _=>?_))|((first|(with_reducible refine uA ?_;first|refine uB rfl ?_ ?_|(first|refine uC rfl ?_|refine uD rfl ?_)|refine uE rfl ?_)|(with_reducible refine uF ?_;first|refine uG rfl ?_ ?_|(first|refine uH rfl ?_|refine uI rfl ?_)|refine uJ rfl ?_|refine uK (uL ?_)|refine uK (uM ?_))|(with_reducible refine uN ?_;refine uO rfl ?_))<;>try simp only[ go_sem,reduceIte,jA,jB,jC,jD,reduceCtorEq,jE,jF])|(with_reducible refine uR ?_;refine uS rfl ?_)|omega))
   refine hex 1 _ _ _ hn ?_ ?_ ?_ ?_
   ·exact(by(try dsimp only);repeat (first|exact hsm|refine bK ?_ (by omega) _|refine bE ?_ (by omega)))
   ·simp only[go_sem,reduceIte,jA,jB,jC,jD,reduceCtorEq,jE,jF]
   ·rfl
   rfl
  have hd1:decide (w.f<0)=false:=decide_eq_false (by omega)
  have hd2:decide (w.t<0)=false:=decide_eq_false (by omega)
  have hd3:decide (w.f≥P)=false:=decide_eq_false (by omega)
  have hd4:decide (w.t≥P)=false:=decide_eq_false (by omega)
  cases hok:w.p.ok with
  |false=>
   have hn:eI P ws=((0,[]),1):=hbad (by rw[hdef,hok];simp)
   (repeat' (first|(with_reducible first|refine stp ?_|refine uP (by decide) ?_|refine uQ (fun _=>?_) (fun _=>?_))|((first|(with_reducible refine uA ?_;first|refine uB rfl ?_ ?_|refine aN (lW w.p _) rfl (aR _) ?_|(first|refine uC rfl ?_|refine uD rfl ?_)|refine uE rfl ?_)|(with_reducible refine uF ?_;first|refine uG rfl ?_ ?_|(first|refine uH rfl ?_|refine uI rfl ?_)|refine uJ rfl ?_|refine uK (uL ?_)|refine uK (uM ?_))|(with_reducible refine uN ?_;refine uO rfl ?_))<;>try simp only[hb0,hb1,hc,hg,hlt,l1,l2,hmf0,hd1,hd2,hd3,hd4,hok,jK,jG,go_sem,reduceIte,jA,jB,jC,jD,reduceCtorEq,jE,jF])|(with_reducible refine uR ?_;refine uS rfl ?_)|omega))
   rw[←hQ]
   (repeat' (first|(with_reducible first|refine stp ?_|refine uP (by decide) ?_|refine uQ (fun _=>?_) (fun _=>?_))|((first|(with_reducible refine uA ?_;first|refine uB rfl ?_ ?_|(first|refine uC rfl ?_|refine uD rfl ?_)|refine uE rfl ?_)|(with_reducible refine uF ?_;first|refine uG rfl ?_ ?_|(first|refine uH rfl ?_|refine uI rfl ?_)|refine uJ rfl ?_|refine uK (uL ?_)|refine uK (uM ?_))|(with_reducible refine uN ?_;refine uO rfl ?_))<;>try simp only[ go_sem,reduceIte,jA,jB,jC,jD,reduceCtorEq,jE,jF])|(with_reducible refine uR ?_;refine uS rfl ?_)|omega))
   refine hex 1 _ _ _ hn ?_ ?_ ?_ ?_
   ·exact(by(try dsimp only);repeat (first|exact hsm|refine bK ?_ (by omega) _|refine bE ?_ (by omega)))
   ·simp only[go_sem,reduceIte,jA,jB,jC,jD,reduceCtorEq,jE,jF]
   ·rfl
   rfl
  |true=>
   have hfit:w.fit P=true:=by rw[hdef,hok,decide_eq_true f1,decide_eq_true f2,decide_eq_true f3,decide_eq_true f4];rfl
   have hfits':∀v∈ws.take (i+1),v.fit P=true:=fun v hv=>by
    rw[htk] at hv
    rcases List.mem_append.1 hv with hv|hv
    ·exact hfits v hv
    simp at hv;rw[hv];exact hfit
   have hwe:Wy.v w= .agg [.int .i64 w.f, .int .i64 w.t, .bool w.p.n, .int .i64 w.p.a]:=rfl
   (repeat' (first|(with_reducible first|refine stp ?_|refine uP (by decide) ?_|refine uQ (fun _=>?_) (fun _=>?_))|((first|(with_reducible refine uA ?_;first|refine uB rfl ?_ ?_|refine aN (lW w.p _) rfl (aR _) ?_|(first|refine uC rfl ?_|refine uD rfl ?_)|refine uE rfl ?_)|(with_reducible refine uF ?_;first|refine uG rfl ?_ ?_|(first|refine uH rfl ?_|refine uI rfl ?_)|refine uJ rfl ?_|refine uK (uL ?_)|refine uK (uM ?_))|(with_reducible refine uN ?_;refine uO rfl ?_))<;>try simp only[hb0,hb1,hc,hg,hlt,l1,l2,hmf0,hd1,hd2,hd3,hd4,hok,jK,jG,go_sem,reduceIte,jA,jB,jC,jD,reduceCtorEq,jE,jF])|(with_reducible refine uR ?_;refine uS rfl ?_)|omega))
   refine iG ((aEF oo M w hil _ _).mono ?_)
   rintro v2 hq nx2 hnx2 (⟨rfl,rfl,hne⟩|⟨id,hid,hid2,rfl,rfl⟩)
   ·dsimp only at hnx2
    unfold nM
    simp only[go_sem,reduceIte,jA,jB,jC,jD,reduceCtorEq,jE,jF]
    (repeat' (first|(with_reducible first|refine stp ?_|refine uP (by decide) ?_|refine uQ (fun _=>?_) (fun _=>?_))|((first|(with_reducible refine uA ?_;first|refine uB rfl ?_ ?_|(first|refine uC rfl ?_|refine uD rfl ?_)|refine uE rfl ?_)|(with_reducible refine uF ?_;first|refine uG rfl ?_ ?_|(first|refine uH rfl ?_|refine uI rfl ?_)|refine uJ rfl ?_|refine uK (uL ?_)|refine uK (uM ?_))|(with_reducible refine uN ?_;refine uO rfl ?_))<;>try simp only[hb0,hb1,hw,l1,l2,hmf,jK,go_sem,reduceIte,jA,jB,jC,jD,reduceCtorEq,jE,jF])|(with_reducible refine uR ?_;refine uS rfl ?_)|omega))
    rw[←hQ]
    refine aF (i+1,oo) (by dsimp only;omega) ⟨hlt,by omega,(by(try dsimp only);repeat (first|exact aT.up hdm (by omega)|refine aT.set2 ?_ (by omega) _|refine aT.del ?_|refine aT.delO ?_ _)),?_,?_,(by(try dsimp only);repeat (first|exact hsm|refine bK ?_ (by omega) _|refine bE ?_ (by omega))), .inr ⟨?_,?_⟩,hfits'⟩ ?_
    ·simp only[hb0,l1,go_sem,reduceIte,jA,jB,jC,jD,reduceCtorEq,jE,jF]
    ·simp only[hins,go_sem,reduceIte,jA,jB,jC,jD,reduceCtorEq,jE,jF]
    ·dsimp only;rw[hins];exact aEu M w
    ·rcases hoo with⟨h,_⟩|⟨_,h⟩
     ·exact absurd h hne
     exact h
    simp only[WkL,aD,jH,jI,jJ,wys,go_sem,reduceIte,jA,jB,jC,jD,reduceCtorEq,jE,jF]
   dsimp only at hnx2
   unfold nM
   simp only[go_sem,reduceIte,jA,jB,jC,jD,reduceCtorEq,jE,jF]
   dsimp only at hid
   have hid3:id<nx2:=hid2
   have l3:nx<id:=by omega
   have l4:nx+1<id:=by omega
   (repeat' (first|(with_reducible first|refine stp ?_|refine uP (by decide) ?_|refine uQ (fun _=>?_) (fun _=>?_))|((first|(with_reducible refine uA ?_;first|refine uB rfl ?_ ?_|(first|refine uC rfl ?_|refine uD rfl ?_)|refine uE rfl ?_)|(with_reducible refine uF ?_;first|refine uG rfl ?_ ?_|(first|refine uH rfl ?_|refine uI rfl ?_)|refine uJ rfl ?_|refine uK (uL ?_)|refine uK (uM ?_))|(with_reducible refine uN ?_;refine uO rfl ?_))<;>try simp only[hb0,hb1,hw,l1,l2,l3,l4,hmf,jK,go_sem,reduceIte,jA,jB,jC,jD,reduceCtorEq,jE,jF])|(with_reducible refine uR ?_;refine uS rfl ?_)|omega))
   rw[←hQ]
   refine aF (i+1, .tok id) (by dsimp only;omega) ⟨hlt,by omega,(by(try dsimp only);repeat (first|exact aT.up hdm (by omega)|refine aT.set2 ?_ (by omega) _|refine aT.del ?_|refine aT.delO ?_ _)),?_,?_,(by(try dsimp only);repeat (first|exact hsm|refine bK ?_ (by omega) _|refine bE ?_ (by omega))), .inr ⟨?_,fun e=>by cases e⟩,hfits'⟩ ?_
   ·simp only[hb0,l1,l3,go_sem,reduceIte,jA,jB,jC,jD,reduceCtorEq,jE,jF]
   ·simp only[hins,go_sem,reduceIte,jA,jB,jC,jD,reduceCtorEq,jE,jF]
   ·dsimp only;rw[hins];exact aEu M w
   simp only[WkL,aD,jH,jI,jJ,wys,go_sem,reduceIte,jA,jB,jC,jD,reduceCtorEq,jE,jF]
 have hc:decide ((i:Int)<(ws.length:Int))=false:=decide_eq_false (by omega)
 have htw:ws.take i=ws:=List.take_of_length_le (by omega)
 rw[htw] at hb1 hoo hfits
 rw[←oR] at hb1 hoo
 (repeat' (first|(with_reducible first|refine stp ?_|refine uP (by decide) ?_|refine uQ (fun _=>?_) (fun _=>?_))|((first|(with_reducible refine uA ?_;first|refine uB rfl ?_ ?_|(first|refine uC rfl ?_|refine uD rfl ?_)|refine uE rfl ?_)|(with_reducible refine uF ?_;first|refine uG rfl ?_ ?_|(first|refine uH rfl ?_|refine uI rfl ?_)|refine uJ rfl ?_|refine uK (uL ?_)|refine uK (uM ?_))|(with_reducible refine uN ?_;refine uO rfl ?_))<;>try simp only[hc,jK,go_sem,reduceIte,jA,jB,jC,jD,reduceCtorEq,jE,jF])|(with_reducible refine uR ?_;refine uS rfl ?_)|omega))
 rw[←hQ]
 (repeat' (first|(with_reducible first|refine stp ?_|refine uP (by decide) ?_|refine uQ (fun _=>?_) (fun _=>?_))|((first|(with_reducible refine uA ?_;first|refine uB rfl ?_ ?_|(first|refine uC rfl ?_|refine uD rfl ?_)|refine uE rfl ?_)|(with_reducible refine uF ?_;first|refine uG rfl ?_ ?_|(first|refine uH rfl ?_|refine uI rfl ?_)|refine uJ rfl ?_|refine uK (uL ?_)|refine uK (uM ?_))|(with_reducible refine uN ?_;refine uO rfl ?_))<;>try simp only[hc,go_sem,reduceIte,jA,jB,jC,jD,reduceCtorEq,jE,jF])|(with_reducible refine uR ?_;refine uS rfl ?_)|omega))
 obtain⟨n,rfl⟩:∃n:Nat,P=n:=⟨P.toNat,by omega⟩
 obtain⟨k1,k2⟩:=zV (P:=(n:Int)) (ws:=dF ws) (fun w hw=>hfits w ((oP ws w).1 hw))
 rw[jG] at k2
 have hcl:=oQ ws
 obtain⟨l,hll⟩:∃l,l=(dF ws).map Wy.we:=⟨_,rfl⟩
 rw[←hll] at k1 k2
 have hln:l.length≤1000:=by rw[hll,jK];omega
 have hwes:wys oo (dF ws)=wes oo l:=by rw[k1];simp only[wys,wes,aDp]
 rw[hwes] at hb1
 have hno:¬((n:Int)<0∨200<(n:Int)∨∃w∈ws,w.fit n=false):=by
  rintro(h|h|⟨w,h1,h2⟩)
  ·omega
  ·omega
  rw[hfits w h1] at h2;cases h2
 have had:iV (dF ws)=adds l:=by rw[k1,aFj]
 have e2:1048576<adds l→eI n ws=((0,[]),1):=fun h=>by
  unfold eI;rw[if_neg hno,had,if_pos h]
 have e3:¬1048576<adds l→(aAQ l∨rM l)→eI n ws=((0,[]),9):=fun h h2=>by
  unfold eI;rw[if_neg hno,had,if_neg h,←hll,if_pos h2]
 have e4:¬1048576<adds l→¬(aAQ l∨rM l)→eI n ws=(((n:Int),dF ws),0):=fun h h2=>by
  unfold eI;rw[if_neg hno,had,if_neg h,←hll,if_neg h2]
 have hsum:∀k,k≤l.length→0≤adds (l.take k)∧adds (l.take k)≤1048576*k:=by
  intro k hk
  induction k with
  |zero=>simp[adds]
  |succ k ih=>
   have ih:=ih (by omega)
   have:=(k2 l[k] (List.getElem_mem _)).2.2
   simp only[Pa.ok,Bool.and_eq_true,decide_eq_true_eq] at this
   rw[List.take_succ_eq_append_getElem (by omega)]
   simp only[adds,List.map_append,List.map_cons,List.map_nil,List.sum_append,List.sum_cons,List.sum_nil] at ih⊢
   omega
 clear hQ hi hge htw hwes had hno hfits l1 l2
 refine bD (fun k:Nat=>aD 138 0 [(0, .int .i64 n),(4, .ptr nx (.agg 2) 0 0),(6, .ptr (nx+1) (.agg 2) 0 0),(9, .int .i64 (adds (l.take k))),(10, .int .i64 k)])
  (fun k hp nx1=>k≤l.length∧nx+2≤nx1∧aT hp nx1∧hp nx=some (.arr (.agg 2) [.agg [.int .i64 0, .sl (.agg 4) .nil []]])∧hp (nx+1)=some (.arr (.agg 2) [.agg [.int .i64 n,wes oo l]])∧Hp.same nx h' hp)
  (fun k=>l.length-k) 0 ⟨Nat.zero_le _,hnx,hdm,hb0,hb1,hsm⟩ ?_ ?_
 ·simp only[WkL,aD,jH,jI,jJ,wes,adds,List.take_zero,List.map_nil,List.sum_nil,go_sem,reduceIte,jA,jB,jC,jD,reduceCtorEq,jE,jF]
 clear hnx hdm hb0 hb1 hsm
 rintro k hp nx1 ⟨hk,hnx,hdm,hb0,hb1,hsm⟩
 generalize hQ:dD _ _ _ _ _=Q0
 simp only[aD,go_sem,reduceIte,jA,jB,jC,jD,reduceCtorEq,jE,jF]
 have l1:nx<nx1:=by omega
 have l2:nx+1<nx1:=by omega
 rcases Nat.lt_or_ge k l.length with hlt|hge
 ·have hc:decide ((k:Int)<(l.length:Int))=true:=decide_eq_true (by omega)
  have hg:(l.map We.v).getD k (.tup [])= .agg [.int .i64 l[k].f, .int .i64 l[k].t, .bool l[k].p.n, .int .i64 l[k].p.a]:=bB We.v l k hlt
  have hs1:=hsum k hk
  have hs2:=hsum (k+1) (by omega)
  have hw:IntKind.i64.wrap ((k:Int)+1)=((k+1:Nat):Int):=by rw[aY]<;>omega
  have hsn:adds (l.take (k+1))=adds (l.take k)+l[k].p.a:=by
   rw[List.take_succ_eq_append_getElem hlt];simp only[adds,List.map_append,List.map_cons,List.map_nil,List.sum_append,List.sum_cons,List.sum_nil];omega
  have hw2:IntKind.i64.wrap (adds (l.take k)+l[k].p.a)=adds (l.take (k+1)):=by rw[hsn,aY]<;>omega
  (repeat' (first|(with_reducible first|refine stp ?_|refine uP (by decide) ?_|refine uQ (fun _=>?_) (fun _=>?_))|((first|(with_reducible refine uA ?_;first|refine uB rfl ?_ ?_|(first|refine uC rfl ?_|refine uD rfl ?_)|refine uE rfl ?_)|(with_reducible refine uF ?_;first|refine uG rfl ?_ ?_|(first|refine uH rfl ?_|refine uI rfl ?_)|refine uJ rfl ?_|refine uK (uL ?_)|refine uK (uM ?_))|(with_reducible refine uN ?_;refine uO rfl ?_))<;>try simp only[hb1,hc,hg,hw,hw2,hlt,l1,l2,jK,jG,go_sem,reduceIte,jA,jB,jC,jD,reduceCtorEq,jE,jF])|(with_reducible refine uR ?_;refine uS rfl ?_)|omega))
  rw[←hQ]
  refine aF (k+1) (by omega) ⟨hlt,hnx,hdm,hb0,hb1,hsm⟩ ?_
  simp only[WkL,aD,jH,jI,jJ,wes,go_sem,reduceIte,jA,jB,jC,jD,reduceCtorEq,jE,jF]
 have hc:decide ((k:Int)<(l.length:Int))=false:=decide_eq_false (by omega)
 have htl:l.take k=l:=List.take_of_length_le (by omega)
 (repeat' (first|(with_reducible first|refine stp ?_|refine uP (by decide) ?_|refine uQ (fun _=>?_) (fun _=>?_))|((first|(with_reducible refine uA ?_;first|refine uB rfl ?_ ?_|(first|refine uC rfl ?_|refine uD rfl ?_)|refine uE rfl ?_)|(with_reducible refine uF ?_;first|refine uG rfl ?_ ?_|(first|refine uH rfl ?_|refine uI rfl ?_)|refine uJ rfl ?_|refine uK (uL ?_)|refine uK (uM ?_))|(with_reducible refine uN ?_;refine uO rfl ?_))<;>try simp only[hb1,hc,htl,l1,l2,jK,go_sem,reduceIte,jA,jB,jC,jD,reduceCtorEq,jE,jF])|(with_reducible refine uR ?_;refine uS rfl ?_)|omega))
 rw[←hQ]
 rcases qC 1048576 (adds l) with hbig|hsml
 ·have hcb:decide (adds l>1048576)=true:=decide_eq_true hbig
  (repeat' (first|(with_reducible first|refine stp ?_|refine uP (by decide) ?_|refine uQ (fun _=>?_) (fun _=>?_))|((first|(with_reducible refine uA ?_;first|refine uB rfl ?_ ?_|(first|refine uC rfl ?_|refine uD rfl ?_)|refine uE rfl ?_)|(with_reducible refine uF ?_;first|refine uG rfl ?_ ?_|(first|refine uH rfl ?_|refine uI rfl ?_)|refine uJ rfl ?_|refine uK (uL ?_)|refine uK (uM ?_))|(with_reducible refine uN ?_;refine uO rfl ?_))<;>try simp only[hb0,hcb,htl,hmf0,l1,l2,go_sem,reduceIte,jA,jB,jC,jD,reduceCtorEq,jE,jF])|(with_reducible refine uR ?_;refine uS rfl ?_)|omega))
  refine hex 1 _ _ _ (e2 hbig) ?_ ?_ ?_ ?_
  ·exact(by(try dsimp only);repeat (first|exact hsm|refine bK ?_ (by omega) _|refine bE ?_ (by omega)))
  ·simp only[go_sem,reduceIte,jA,jB,jC,jD,reduceCtorEq,jE,jF]
  ·rfl
  rfl
 have hcb:decide (adds l>1048576)=false:=decide_eq_false (by omega)
 have hnb:¬1048576<adds l:=by omega
 obtain⟨J1,hJ1⟩:∃J,J=(jZ n (mS n (gR true l))).map (lst .leaf):=⟨_,rfl⟩
 obtain⟨J2,hJ2⟩:∃J,J=(jZ n (mS n (gR false l))).map (lst .leaf):=⟨_,rfl⟩
 have c1:∀h,bP Tryz.prog 147 [.agg [.int .i64 n,wes oo l], .bool true] h (.sl .leaf .free J1):=fun h=>by rw[hJ1];exact xF oo n l true k2 (by omega) hln h
 have c2:∀h,bP Tryz.prog 147 [.agg [.int .i64 n,wes oo l], .bool false] h (.sl .leaf .free J2):=fun h=>by rw[hJ2];exact xF oo n l false k2 (by omega) hln h
 have g1:∀i,i<n→J1.getD i (.tup [])= .sl .leaf .free (mS n (gR true l) i):=fun i hi=>by rw[hJ1];exact aEs hi
 have g2:∀i,i<n→J2.getD i (.tup [])= .sl .leaf .free (mS n (gR false l) i):=fun i hi=>by rw[hJ2];exact aEs hi
 have n1:J1.length=n:=by rw[hJ1];exact aBg _ _ _
 have n2:J2.length=n:=by rw[hJ2];exact aBg _ _ _
 clear hJ1 hJ2
 have hmfn:=hmfw oo l
 (repeat' (first|(with_reducible first|refine stp ?_|refine uP (by decide) ?_|refine uQ (fun _=>?_) (fun _=>?_))|((first|(with_reducible refine uA ?_;first|refine uB rfl ?_ ?_|(first|refine uC rfl ?_|refine uD rfl ?_)|refine uE rfl ?_)|(with_reducible refine uF ?_;first|refine uG rfl ?_ ?_|refine cH (c1 _) rfl (cA _) ?_|refine cH (c2 _) rfl (cA _) ?_|(first|refine uH rfl ?_|refine uI rfl ?_)|refine uJ rfl ?_|refine uK (uL ?_)|refine uK (uM ?_))|(with_reducible refine uN ?_;refine uO rfl ?_))<;>try simp only[hb1,hcb,htl,hmfn,l1,l2,go_sem,reduceIte,jA,jB,jC,jD,reduceCtorEq,jE,jF])|(with_reducible refine uR ?_;refine uS rfl ?_)|omega))
 clear hQ hk hge hc htl
 refine bD (fun k:Nat=>aD 138 0 [(0, .int .i64 n),(4, .ptr nx (.agg 2) 0 0),(6, .ptr (nx+1) (.agg 2) 0 0),(11, .sl .leaf .free J1),(12, .sl .leaf .free J2),(13, .int .i64 k)])
  (fun k hp nx1=>k≤n∧nx+2≤nx1∧aT hp nx1∧hp nx=some (.arr (.agg 2) [.agg [.int .i64 0, .sl (.agg 4) .nil []]])∧hp (nx+1)=some (.arr (.agg 2) [.agg [.int .i64 n,wes oo l]])∧Hp.same nx h' hp∧∀x,x<k→gR true l x x=false)
  (fun k=>n-k) 0 ⟨Nat.zero_le _,by dsimp only;omega,(by(try dsimp only);repeat (first|exact aT.up hdm (by omega)|refine aT.set2 ?_ (by omega) _|refine aT.del ?_|refine aT.delO ?_ _)),hb0,hb1,hsm,fun x hx=>absurd hx (by omega)⟩ ?_ ?_
 ·simp only[WkL,aD,jH,jI,jJ,wes,go_sem,reduceIte,jA,jB,jC,jD,reduceCtorEq,jE,jF]
 clear hnx hdm hb0 hb1 hsm l1 l2
 rintro x hp nx1 ⟨hx,hnx,hdm,hb0,hb1,hsm,hid⟩
 generalize hQ:dD _ _ _ _ _=Q0
 simp only[aD,go_sem,reduceIte,jA,jB,jC,jD,reduceCtorEq,jE,jF]
 have l1:nx<nx1:=by omega
 have l2:nx+1<nx1:=by omega
 rcases Nat.lt_or_ge x n with hxn|hge
 ·have hc:decide ((x:Int)<(n:Int))=true:=decide_eq_true (by omega)
  have hg:=g1 x hxn
  have hr:=pL (gR true l) x hxn
  have hrl:=nH n (gR true l) x
  have hw:IntKind.i64.wrap ((x:Int)+1)=((x+1:Nat):Int):=by rw[aY]<;>omega
  cases hb:gR true l x x with
  |true=>
   rw[hb] at hr
   have hidle:aAQ l:=by
    have:=(pP true l x x).1 hb
    rw[zY] at this
    exact⟨x,this⟩
   (repeat' (first|(with_reducible first|refine stp ?_|refine uP (by decide) ?_|refine uQ (fun _=>?_) (fun _=>?_))|((first|(with_reducible refine uA ?_;first|refine uB rfl ?_ ?_|(first|refine uC rfl ?_|refine uD rfl ?_)|refine uE rfl ?_)|(with_reducible refine uF ?_;first|refine uG rfl ?_ ?_|(first|refine uH rfl ?_|refine uI rfl ?_)|refine uJ rfl ?_|refine uK (uL ?_)|refine uK (uM ?_))|(with_reducible refine uN ?_;refine uO rfl ?_))<;>try simp only[hb0,hc,hg,hr,hrl,n1,hxn,hmf0,l1,l2,jG,go_sem,reduceIte,jA,jB,jC,jD,reduceCtorEq,jE,jF])|(with_reducible refine uR ?_;refine uS rfl ?_)|omega))
   rw[←hQ]
   (repeat' (first|(with_reducible first|refine stp ?_|refine uP (by decide) ?_|refine uQ (fun _=>?_) (fun _=>?_))|((first|(with_reducible refine uA ?_;first|refine uB rfl ?_ ?_|(first|refine uC rfl ?_|refine uD rfl ?_)|refine uE rfl ?_)|(with_reducible refine uF ?_;first|refine uG rfl ?_ ?_|(first|refine uH rfl ?_|refine uI rfl ?_)|refine uJ rfl ?_|refine uK (uL ?_)|refine uK (uM ?_))|(with_reducible refine uN ?_;refine uO rfl ?_))<;>try simp only[ go_sem,reduceIte,jA,jB,jC,jD,reduceCtorEq,jE,jF])|(with_reducible refine uR ?_;refine uS rfl ?_)|omega))
   refine hex 9 _ _ _ (e3 hnb (.inl hidle)) ?_ ?_ ?_ ?_
   ·exact(by(try dsimp only);repeat (first|exact hsm|refine bK ?_ (by omega) _|refine bE ?_ (by omega)))
   ·simp only[go_sem,reduceIte,jA,jB,jC,jD,reduceCtorEq,jE,jF]
   ·rfl
   rfl
  |false=>
   rw[hb] at hr
   (repeat' (first|(with_reducible first|refine stp ?_|refine uP (by decide) ?_|refine uQ (fun _=>?_) (fun _=>?_))|((first|(with_reducible refine uA ?_;first|refine uB rfl ?_ ?_|(first|refine uC rfl ?_|refine uD rfl ?_)|refine uE rfl ?_)|(with_reducible refine uF ?_;first|refine uG rfl ?_ ?_|(first|refine uH rfl ?_|refine uI rfl ?_)|refine uJ rfl ?_|refine uK (uL ?_)|refine uK (uM ?_))|(with_reducible refine uN ?_;refine uO rfl ?_))<;>try simp only[hb0,hc,hg,hr,hrl,hw,n1,hxn,hmf0,l1,l2,jG,go_sem,reduceIte,jA,jB,jC,jD,reduceCtorEq,jE,jF])|(with_reducible refine uR ?_;refine uS rfl ?_)|omega))
   rw[←hQ]
   refine aF (x+1) (by omega) ⟨hxn,hnx,hdm,hb0,hb1,hsm,fun y hy=>?_⟩ ?_
   ·rcases Nat.lt_or_ge y x with h|h
    ·exact hid y h
    rw[show y=x by omega];exact hb
   simp only[WkL,aD,jH,jI,jJ,wes,go_sem,reduceIte,jA,jB,jC,jD,reduceCtorEq,jE,jF]
 have hc:decide ((x:Int)<(n:Int))=false:=decide_eq_false (by omega)
 have hni:¬aAQ l:=by
  rintro⟨y,hy⟩
  have hyn:y<n:=by
   obtain⟨c,hc,_⟩:=hy.last
   exact(aGu k2 _ hc).2
  have h1:=hid y (by omega)
  have h2:gR true l y y=true:=by rw[pP,zY];exact hy
  rw[h2] at h1;cases h1
 (repeat' (first|(with_reducible first|refine stp ?_|refine uP (by decide) ?_|refine uQ (fun _=>?_) (fun _=>?_))|((first|(with_reducible refine uA ?_;first|refine uB rfl ?_ ?_|(first|refine uC rfl ?_|refine uD rfl ?_)|refine uE rfl ?_)|(with_reducible refine uF ?_;first|refine uG rfl ?_ ?_|(first|refine uH rfl ?_|refine uI rfl ?_)|refine uJ rfl ?_|refine uK (uL ?_)|refine uK (uM ?_))|(with_reducible refine uN ?_;refine uO rfl ?_))<;>try simp only[hc,go_sem,reduceIte,jA,jB,jC,jD,reduceCtorEq,jE,jF])|(with_reducible refine uR ?_;refine uS rfl ?_)|omega))
 rw[←hQ]
 (repeat' (first|(with_reducible first|refine stp ?_|refine uP (by decide) ?_|refine uQ (fun _=>?_) (fun _=>?_))|((first|(with_reducible refine uA ?_;first|refine uB rfl ?_ ?_|(first|refine uC rfl ?_|refine uD rfl ?_)|refine uE rfl ?_)|(with_reducible refine uF ?_;first|refine uG rfl ?_ ?_|(first|refine uH rfl ?_|refine uI rfl ?_)|refine uJ rfl ?_|refine uK (uL ?_)|refine uK (uM ?_))|(with_reducible refine uN ?_;refine uO rfl ?_))<;>try simp only[hc,go_sem,reduceIte,jA,jB,jC,jD,reduceCtorEq,jE,jF])|(with_reducible refine uR ?_;refine uS rfl ?_)|omega))
 clear hQ hx hge hc hid
 refine bD (fun k:Nat=>aD 138 0 [(4, .ptr nx (.agg 2) 0 0),(6, .ptr (nx+1) (.agg 2) 0 0),(12, .sl .leaf .free J2),(14, .int .i64 k)])
  (fun k hp nx1=>k≤l.length∧nx+2≤nx1∧aT hp nx1∧hp nx=some (.arr (.agg 2) [.agg [.int .i64 0, .sl (.agg 4) .nil []]])∧hp (nx+1)=some (.arr (.agg 2) [.agg [.int .i64 n,wes oo l]])∧Hp.same nx h' hp∧∀w∈l.take k,w.p.n=true→¬(w.t=w.f∨jU (tP l) w.t w.f))
  (fun k=>l.length-k) 0 ⟨Nat.zero_le _,hnx,hdm,hb0,hb1,hsm,fun w hw=>by simp at hw⟩ ?_ ?_
 ·simp only[WkL,aD,jH,jI,jJ,wes,go_sem,reduceIte,jA,jB,jC,jD,reduceCtorEq,jE,jF]
 clear hnx hdm hb0 hb1 hsm l1 l2
 rintro k hp nx1 ⟨hk,hnx,hdm,hb0,hb1,hsm,htu⟩
 generalize hQ:dD _ _ _ _ _=Q0
 simp only[aD,go_sem,reduceIte,jA,jB,jC,jD,reduceCtorEq,jE,jF]
 have l1:nx<nx1:=by omega
 have l2:nx+1<nx1:=by omega
 rcases Nat.lt_or_ge k l.length with hlt|hge
 ·have hc:decide ((k:Int)<(l.length:Int))=true:=decide_eq_true (by omega)
  have hw:IntKind.i64.wrap ((k:Int)+1)=((k+1:Nat):Int):=by rw[aY]<;>omega
  have htk:l.take (k+1)=l.take k++[l[k]]:=List.take_succ_eq_append_getElem hlt
  have hwf:=k2 l[k] (List.getElem_mem _)
  have hmem:l[k]∈l:=List.getElem_mem _
  have hg:(l.map We.v).getD k (.tup [])= .agg [.int .i64 l[k].f, .int .i64 l[k].t, .bool l[k].p.n, .int .i64 l[k].p.a]:=bB We.v l k hlt
  obtain⟨w,hwk⟩:∃w,w=l[k]:=⟨_,rfl⟩
  rw[←hwk] at htk hwf hmem hg
  have h1:=hwf.1
  have h2:=hwf.2.1
  have hgr:=g2 w.t h2
  have hr:=pL (gR false l) w.t h1
  have hrl:=nH n (gR false l) w.t
  have step:(w.p.n=true→¬(w.t=w.f∨jU (tP l) w.t w.f))→∀v∈l.take (k+1),v.p.n=true→¬(v.t=v.f∨jU (tP l) v.t v.f):=fun h v hv=>by
   rw[htk] at hv
   rcases List.mem_append.1 hv with hv|hv
   ·exact htu v hv
   simp at hv;rw[hv];exact h
  cases hn:w.p.n with
  |false=>
   rw[hn] at hg
   (repeat' (first|(with_reducible first|refine stp ?_|refine uP (by decide) ?_|refine uQ (fun _=>?_) (fun _=>?_))|((first|(with_reducible refine uA ?_;first|refine uB rfl ?_ ?_|(first|refine uC rfl ?_|refine uD rfl ?_)|refine uE rfl ?_)|(with_reducible refine uF ?_;first|refine uG rfl ?_ ?_|(first|refine uH rfl ?_|refine uI rfl ?_)|refine uJ rfl ?_|refine uK (uL ?_)|refine uK (uM ?_))|(with_reducible refine uN ?_;refine uO rfl ?_))<;>try simp only[hb0,hb1,hc,hg,hlt,hw,hmf0,l1,l2,jK,jG,go_sem,reduceIte,jA,jB,jC,jD,reduceCtorEq,jE,jF])|(with_reducible refine uR ?_;refine uS rfl ?_)|omega))
   rw[←hQ]
   refine aF (k+1) (by omega) ⟨hlt,by omega,(by(try dsimp only);repeat (first|exact aT.up hdm (by omega)|refine aT.set2 ?_ (by omega) _|refine aT.del ?_|refine aT.delO ?_ _)),?_,?_,(by(try dsimp only);repeat (first|exact hsm|refine bK ?_ (by omega) _|refine bE ?_ (by omega))),step (fun h=>by rw[hn] at h;cases h)⟩ ?_
   ·simp only[hb0,l1,go_sem,reduceIte,jA,jB,jC,jD,reduceCtorEq,jE,jF]
   ·simp only[hb1,l2,go_sem,reduceIte,jA,jB,jC,jD,reduceCtorEq,jE,jF]
   simp only[WkL,aD,jH,jI,jJ,wes,go_sem,reduceIte,jA,jB,jC,jD,reduceCtorEq,jE,jF]
  |true=>
   rw[hn] at hg
   by_cases hft:w.f=w.t
   ·have hcf:((w.f:Int)==(w.t:Int))=true:=by simp[hft]
    have htn:rM l:=⟨w,hmem,hn, .inl hft.symm⟩
    (repeat' (first|(with_reducible first|refine stp ?_|refine uP (by decide) ?_|refine uQ (fun _=>?_) (fun _=>?_))|((first|(with_reducible refine uA ?_;first|refine uB rfl ?_ ?_|(first|refine uC rfl ?_|refine uD rfl ?_)|refine uE rfl ?_)|(with_reducible refine uF ?_;first|refine uG rfl ?_ ?_|(first|refine uH rfl ?_|refine uI rfl ?_)|refine uJ rfl ?_|refine uK (uL ?_)|refine uK (uM ?_))|(with_reducible refine uN ?_;refine uO rfl ?_))<;>try simp only[hb0,hb1,hc,hg,hlt,hcf,hmf0,l1,l2,jK,jG,go_sem,reduceIte,jA,jB,jC,jD,reduceCtorEq,jE,jF])|(with_reducible refine uR ?_;refine uS rfl ?_)|omega))
    rw[←hQ]
    (repeat' (first|(with_reducible first|refine stp ?_|refine uP (by decide) ?_|refine uQ (fun _=>?_) (fun _=>?_))|((first|(with_reducible refine uA ?_;first|refine uB rfl ?_ ?_|(first|refine uC rfl ?_|refine uD rfl ?_)|refine uE rfl ?_)|(with_reducible refine uF ?_;first|refine uG rfl ?_ ?_|(first|refine uH rfl ?_|refine uI rfl ?_)|refine uJ rfl ?_|refine uK (uL ?_)|refine uK (uM ?_))|(with_reducible refine uN ?_;refine uO rfl ?_))<;>try simp only[ go_sem,reduceIte,jA,jB,jC,jD,reduceCtorEq,jE,jF])|(with_reducible refine uR ?_;refine uS rfl ?_)|omega))
    refine hex 9 _ _ _ (e3 hnb (.inr htn)) ?_ ?_ ?_ ?_
    ·exact(by(try dsimp only);repeat (first|exact hsm|refine bK ?_ (by omega) _|refine bE ?_ (by omega)))
    ·simp only[go_sem,reduceIte,jA,jB,jC,jD,reduceCtorEq,jE,jF]
    ·rfl
    rfl
   have hcf:((w.f:Int)==(w.t:Int))=false:=by simp;omega
   cases hb:gR false l w.t w.f with
   |true=>
    rw[hb] at hr
    have htn:rM l:=by
     have:=(pP false l w.t w.f).1 hb
     rw[xL] at this
     exact⟨w,hmem,hn, .inr this⟩
    (repeat' (first|(with_reducible first|refine stp ?_|refine uP (by decide) ?_|refine uQ (fun _=>?_) (fun _=>?_))|((first|(with_reducible refine uA ?_;first|refine uB rfl ?_ ?_|(first|refine uC rfl ?_|refine uD rfl ?_)|refine uE rfl ?_)|(with_reducible refine uF ?_;first|refine uG rfl ?_ ?_|(first|refine uH rfl ?_|refine uI rfl ?_)|refine uJ rfl ?_|refine uK (uL ?_)|refine uK (uM ?_))|(with_reducible refine uN ?_;refine uO rfl ?_))<;>try simp only[hb0,hb1,hc,hg,hlt,hcf,hgr,hr,hrl,n2,h1,h2,hmf0,l1,l2,jK,jG,go_sem,reduceIte,jA,jB,jC,jD,reduceCtorEq,jE,jF])|(with_reducible refine uR ?_;refine uS rfl ?_)|omega))
    rw[←hQ]
    (repeat' (first|(with_reducible first|refine stp ?_|refine uP (by decide) ?_|refine uQ (fun _=>?_) (fun _=>?_))|((first|(with_reducible refine uA ?_;first|refine uB rfl ?_ ?_|(first|refine uC rfl ?_|refine uD rfl ?_)|refine uE rfl ?_)|(with_reducible refine uF ?_;first|refine uG rfl ?_ ?_|(first|refine uH rfl ?_|refine uI rfl ?_)|refine uJ rfl ?_|refine uK (uL ?_)|refine uK (uM ?_))|(with_reducible refine uN ?_;refine uO rfl ?_))<;>try simp only[ go_sem,reduceIte,jA,jB,jC,jD,reduceCtorEq,jE,jF])|(with_reducible refine uR ?_;refine uS rfl ?_)|omega))
    refine hex 9 _ _ _ (e3 hnb (.inr htn)) ?_ ?_ ?_ ?_
    ·exact(by(try dsimp only);repeat (first|exact hsm|refine bK ?_ (by omega) _|refine bE ?_ (by omega)))
    ·simp only[go_sem,reduceIte,jA,jB,jC,jD,reduceCtorEq,jE,jF]
    ·rfl
    rfl
   |false=>
    rw[hb] at hr
    have hnt:¬(w.t=w.f∨jU (tP l) w.t w.f):=by
     rintro(h|h)
     ·exact hft h.symm
     have:gR false l w.t w.f=true:=by rw[pP,xL];exact h
     rw[this] at hb;cases hb
    (repeat' (first|(with_reducible first|refine stp ?_|refine uP (by decide) ?_|refine uQ (fun _=>?_) (fun _=>?_))|((first|(with_reducible refine uA ?_;first|refine uB rfl ?_ ?_|(first|refine uC rfl ?_|refine uD rfl ?_)|refine uE rfl ?_)|(with_reducible refine uF ?_;first|refine uG rfl ?_ ?_|(first|refine uH rfl ?_|refine uI rfl ?_)|refine uJ rfl ?_|refine uK (uL ?_)|refine uK (uM ?_))|(with_reducible refine uN ?_;refine uO rfl ?_))<;>try simp only[hb0,hb1,hc,hg,hlt,hcf,hgr,hr,hrl,hw,n2,h1,h2,hmf0,l1,l2,jK,jG,go_sem,reduceIte,jA,jB,jC,jD,reduceCtorEq,jE,jF])|(with_reducible refine uR ?_;refine uS rfl ?_)|omega))
    rw[←hQ]
    refine aF (k+1) (by omega) ⟨hlt,by omega,(by(try dsimp only);repeat (first|exact aT.up hdm (by omega)|refine aT.set2 ?_ (by omega) _|refine aT.del ?_|refine aT.delO ?_ _)),?_,?_,(by(try dsimp only);repeat (first|exact hsm|refine bK ?_ (by omega) _|refine bE ?_ (by omega))),step (fun _=>hnt)⟩ ?_
    ·simp only[hb0,l1,go_sem,reduceIte,jA,jB,jC,jD,reduceCtorEq,jE,jF]
    ·simp only[hb1,l2,go_sem,reduceIte,jA,jB,jC,jD,reduceCtorEq,jE,jF]
    simp only[WkL,aD,jH,jI,jJ,wes,go_sem,reduceIte,jA,jB,jC,jD,reduceCtorEq,jE,jF]
 have hc:decide ((k:Int)<(l.length:Int))=false:=decide_eq_false (by omega)
 have htl:l.take k=l:=List.take_of_length_le (by omega)
 rw[htl] at htu
 have hnt:¬rM l:=fun⟨w,h1,h2,h3⟩=>htu w h1 h2 h3
 have hnew:=e4 hnb (fun h=>h.elim hni hnt)
 (repeat' (first|(with_reducible first|refine stp ?_|refine uP (by decide) ?_|refine uQ (fun _=>?_) (fun _=>?_))|((first|(with_reducible refine uA ?_;first|refine uB rfl ?_ ?_|(first|refine uC rfl ?_|refine uD rfl ?_)|refine uE rfl ?_)|(with_reducible refine uF ?_;first|refine uG rfl ?_ ?_|(first|refine uH rfl ?_|refine uI rfl ?_)|refine uJ rfl ?_|refine uK (uL ?_)|refine uK (uM ?_))|(with_reducible refine uN ?_;refine uO rfl ?_))<;>try simp only[hb1,hc,l1,l2,jK,go_sem,reduceIte,jA,jB,jC,jD,reduceCtorEq,jE,jF])|(with_reducible refine uR ?_;refine uS rfl ?_)|omega))
 rw[←hQ]
 (repeat' (first|(with_reducible first|refine stp ?_|refine uP (by decide) ?_|refine uQ (fun _=>?_) (fun _=>?_))|((first|(with_reducible refine uA ?_;first|refine uB rfl ?_ ?_|(first|refine uC rfl ?_|refine uD rfl ?_)|refine uE rfl ?_)|(with_reducible refine uF ?_;first|refine uG rfl ?_ ?_|(first|refine uH rfl ?_|refine uI rfl ?_)|refine uJ rfl ?_|refine uK (uL ?_)|refine uK (uM ?_))|(with_reducible refine uN ?_;refine uO rfl ?_))<;>try simp only[hb0,hb1,hmfn,hmf0,l1,l2,go_sem,reduceIte,jA,jB,jC,jD,reduceCtorEq,jE,jF])|(with_reducible refine uR ?_;refine uS rfl ?_)|omega))
 refine dO (by simp only[go_sem,reduceIte,jA,jB,jC,jD,reduceCtorEq,jE,jF]) h' ((show Hp.same nx h' _ from(by(try dsimp only);repeat (first|exact hsm|refine bK ?_ (by omega) _|refine bE ?_ (by omega)))).le hd (Hp.le_refl _)) ⟨?_,Hp.le_refl _⟩
 simp only[go_sem,reduceIte,jA,jB,jC,jD,reduceCtorEq,jE,jF]
 rw[hnew]
 have hwv:l.map We.v=(dF ws).map Wy.v:=by rw[k1,aDp]
 have hwes2:(wes oo l:V)=wys oo (dF ws):=by simp only[wes,wys,hwv]
 rw[hwes2]
 exact aDO hoo
/-
Contract of the document's Right. No conditions.
-/
set_option maxRecDepth 100000 in
theorem kN(o:Own)(P:Int)(ws:List Wy)(hl:ws.length≤1000)(h:Hp):bP Tryz.prog 41 [mps o P ws] h (.bool (mZ P ws)):=by
 refine aZ (fun L=>trivial) fun h' nx hh=>aK L.corollaryref22_Right_low fun hd=>?_
 have hmf:(mps o P ws).fits (.agg 2)=true:=by simp[mps,V.fits,V.leafy,wys]
 obtain⟨Q,hQ⟩:∃Q,Q=(eI P ws).1.1:=⟨_,rfl⟩
 obtain⟨M,hM⟩:∃M,M=(eI P ws).1.2:=⟨_,rfl⟩
 obtain⟨c,hcd⟩:∃c,c=(eI P ws).2:=⟨_,rfl⟩
 have hr:mZ P ws=decide (c=0∧M=ws):=by rw[hcd,hM];rfl
 obtain⟨o2,ho2⟩:=zD Q M
 have hof:∀h,bP Tryz.prog 105 [.int .i64 P,wys o ws] h (.tup [mps o2 Q M, .int .i64 c]):=fun h=>by rw[←ho2,hQ,hM,hcd];exact aDB o P ws hl h
 have hmf2:(mps o2 Q M).fits (.agg 2)=true:=by simp[mps,V.fits,V.leafy,wys]
 clear hQ hM hcd ho2
 rw[hr]
 simp only[jL,jM,jA,jB,jN,jO,jP,jQ,V.undef]
 by_cases hc0:c=0
 rotate_left
 ·have h1:(c != 0)=true:=by simpa using hc0
  (repeat' (first|(with_reducible first|refine stp ?_|refine uP (by decide) ?_|refine uQ (fun _=>?_) (fun _=>?_))|((first|(with_reducible refine uA ?_;first|refine uB rfl ?_ ?_|refine aN (hof _) rfl (aR _) ?_|(first|refine uC rfl ?_|refine uD rfl ?_)|refine uE rfl ?_)|(with_reducible refine uF ?_;first|refine uG rfl ?_ ?_|(first|refine uH rfl ?_|refine uI rfl ?_)|refine uJ rfl ?_|refine uK (uL ?_)|refine uK (uM ?_))|(with_reducible refine uN ?_;refine uO rfl ?_))<;>try simp only[hmf,hmf2,h1,go_sem,reduceIte,jA,jB,jC,jD,reduceCtorEq,jE,jF])|(with_reducible refine uR ?_;refine uS rfl ?_)|omega))
  refine aO h' (by repeat (first|exact Hp.le_refl _|refine aQ hd ?_ (by omega) _|refine aV hd ?_ (by omega))) ⟨?_,rfl⟩
  simp only[hc0,go_sem,reduceIte,jA,jB,jC,jD,reduceCtorEq,jE,jF]
 have h1:(c != 0)=false:=by simpa using hc0
 by_cases hab:M.length=ws.length
 rotate_left
 ·have hc:((M.length:Int) != (ws.length:Int))=true:=by simp;omega
  (repeat' (first|(with_reducible first|refine stp ?_|refine uP (by decide) ?_|refine uQ (fun _=>?_) (fun _=>?_))|((first|(with_reducible refine uA ?_;first|refine uB rfl ?_ ?_|refine aN (hof _) rfl (aR _) ?_|(first|refine uC rfl ?_|refine uD rfl ?_)|refine uE rfl ?_)|(with_reducible refine uF ?_;first|refine uG rfl ?_ ?_|(first|refine uH rfl ?_|refine uI rfl ?_)|refine uJ rfl ?_|refine uK (uL ?_)|refine uK (uM ?_))|(with_reducible refine uN ?_;refine uO rfl ?_))<;>try simp only[hmf,hmf2,h1,hc,jK,go_sem,reduceIte,jA,jB,jC,jD,reduceCtorEq,jE,jF])|(with_reducible refine uR ?_;refine uS rfl ?_)|omega))
  refine aO h' (by repeat (first|exact Hp.le_refl _|refine aQ hd ?_ (by omega) _|refine aV hd ?_ (by omega))) ⟨?_,rfl⟩
  have:M≠ws:=by rintro rfl;exact hab rfl
  simp only[this,go_sem,reduceIte,jA,jB,jC,jD,reduceCtorEq,jE,jF]
 have hc:((M.length:Int) != (ws.length:Int))=false:=by simp;omega
 (repeat' (first|(with_reducible first|refine stp ?_|refine uP (by decide) ?_|refine uQ (fun _=>?_) (fun _=>?_))|((first|(with_reducible refine uA ?_;first|refine uB rfl ?_ ?_|refine aN (hof _) rfl (aR _) ?_|(first|refine uC rfl ?_|refine uD rfl ?_)|refine uE rfl ?_)|(with_reducible refine uF ?_;first|refine uG rfl ?_ ?_|(first|refine uH rfl ?_|refine uI rfl ?_)|refine uJ rfl ?_|refine uK (uL ?_)|refine uK (uM ?_))|(with_reducible refine uN ?_;refine uO rfl ?_))<;>try simp only[hmf,hmf2,h1,hc,jK,go_sem,reduceIte,jA,jB,jC,jD,reduceCtorEq,jE,jF])|(with_reducible refine uR ?_;refine uS rfl ?_)|omega))
 refine bD (fun i:Nat=>aD 43 0 [(1, .ptr nx (.agg 2) 0 0),(3, .ptr (nx+1) (.agg 2) 0 0),(5, .int .i64 i)])
  (fun i hp nx1=>i≤M.length∧hp nx=some (.arr (.agg 2) [mps o P ws])∧hp (nx+1)=some (.arr (.agg 2) [mps o2 Q M])∧Hp.same nx h' hp∧nx+2≤nx1∧M.take i=ws.take i) (fun i=>M.length-i) 0 ⟨Nat.zero_le _,by simp only[go_sem,reduceIte,jA,jB,jC,jD,reduceCtorEq,jE,jF],by simp only[go_sem,reduceIte,jA,jB,jC,jD,reduceCtorEq,jE,jF],(by(try dsimp only);repeat (first|exact Hp.same.rfl'|refine bK ?_ (by omega) _|refine bE ?_ (by omega))),by first|omega|(dsimp only;omega),rfl⟩ ?_ ?_
 ·simp only[WkL,aD,jH,jI,jJ,wys,go_sem,reduceIte,jA,jB,jC,jD,reduceCtorEq,jE,jF]
 rintro i hp nx1 ⟨hi,hb0,hb1,hsm,hnx,hno⟩
 generalize hQ:dD _ _ _ _ _=Q0
 simp only[aD,go_sem,reduceIte,jA,jB,jC,jD,reduceCtorEq,jE,jF]
 rcases Nat.lt_or_ge i M.length with hlt|hge
 ·have hc:decide ((i:Int)<(ws.length:Int))=true:=decide_eq_true (by omega)
  have hlt':i<ws.length:=by omega
  have hg:=bB Wy.v M i hlt
  have hg':=bB Wy.v ws i hlt'
  have hw:IntKind.i64.wrap ((i:Int)+1)=((i+1:Nat):Int):=by rw[aY]<;>omega
  by_cases he:M[i]=ws[i]
  ·have hd1:decide (M[i]=ws[i])=true:=decide_eq_true he
   (repeat' (first|(with_reducible first|refine stp ?_|refine uP (by decide) ?_|refine uQ (fun _=>?_) (fun _=>?_))|((first|(with_reducible refine uA ?_;first|refine uB rfl ?_ ?_|(first|refine uC rfl ?_|refine uD rfl ?_)|refine uE rfl ?_)|(with_reducible refine uF ?_;first|refine uG rfl ?_ ?_|(first|refine uH rfl ?_|refine uI rfl ?_)|refine uJ rfl ?_|refine uK (uL ?_)|refine uK (uM ?_))|(with_reducible refine uN ?_;refine uO rfl ?_))<;>try simp only[hb0,hb1,hc,hg,hg',hlt,hlt',hw,vV,hd1,Wy.fits_v,jK,jG,go_sem,reduceIte,jA,jB,jC,jD,reduceCtorEq,jE,jF])|(with_reducible refine uR ?_;refine uS rfl ?_)|omega))
   rw[←hQ]
   refine aF (i+1) (by omega) ⟨hlt,hb0,hb1,hsm,by omega,?_⟩ ?_
   ·rw[List.take_succ_eq_append_getElem hlt,List.take_succ_eq_append_getElem hlt',hno,he]
   simp only[WkL,aD,jH,jI,jJ,wys,go_sem,reduceIte,jA,jB,jC,jD,reduceCtorEq,jE,jF]
  have hd1:decide (M[i]=ws[i])=false:=decide_eq_false he
  (repeat' (first|(with_reducible first|refine stp ?_|refine uP (by decide) ?_|refine uQ (fun _=>?_) (fun _=>?_))|((first|(with_reducible refine uA ?_;first|refine uB rfl ?_ ?_|(first|refine uC rfl ?_|refine uD rfl ?_)|refine uE rfl ?_)|(with_reducible refine uF ?_;first|refine uG rfl ?_ ?_|(first|refine uH rfl ?_|refine uI rfl ?_)|refine uJ rfl ?_|refine uK (uL ?_)|refine uK (uM ?_))|(with_reducible refine uN ?_;refine uO rfl ?_))<;>try simp only[hb0,hb1,hc,hg,hg',hlt,hlt',hw,vV,hd1,Wy.fits_v,jK,jG,go_sem,reduceIte,jA,jB,jC,jD,reduceCtorEq,jE,jF])|(with_reducible refine uR ?_;refine uS rfl ?_)|omega))
  rw[←hQ]
  (repeat' (first|(with_reducible first|refine stp ?_|refine uP (by decide) ?_|refine uQ (fun _=>?_) (fun _=>?_))|((first|(with_reducible refine uA ?_;first|refine uB rfl ?_ ?_|(first|refine uC rfl ?_|refine uD rfl ?_)|refine uE rfl ?_)|(with_reducible refine uF ?_;first|refine uG rfl ?_ ?_|(first|refine uH rfl ?_|refine uI rfl ?_)|refine uJ rfl ?_|refine uK (uL ?_)|refine uK (uM ?_))|(with_reducible refine uN ?_;refine uO rfl ?_))<;>try simp only[ go_sem,reduceIte,jA,jB,jC,jD,reduceCtorEq,jE,jF])|(with_reducible refine uR ?_;refine uS rfl ?_)|omega))
  refine aO h' (hsm.le hd (Hp.le_refl _)) ⟨?_,rfl⟩
  have:M≠ws:=by rintro rfl;exact he rfl
  simp only[this,go_sem,reduceIte,jA,jB,jC,jD,reduceCtorEq,jE,jF]
 have hc:decide ((i:Int)<(ws.length:Int))=false:=decide_eq_false (by omega)
 (repeat' (first|(with_reducible first|refine stp ?_|refine uP (by decide) ?_|refine uQ (fun _=>?_) (fun _=>?_))|((first|(with_reducible refine uA ?_;first|refine uB rfl ?_ ?_|(first|refine uC rfl ?_|refine uD rfl ?_)|refine uE rfl ?_)|(with_reducible refine uF ?_;first|refine uG rfl ?_ ?_|(first|refine uH rfl ?_|refine uI rfl ?_)|refine uJ rfl ?_|refine uK (uL ?_)|refine uK (uM ?_))|(with_reducible refine uN ?_;refine uO rfl ?_))<;>try simp only[hb0,hb1,hc,jK,go_sem,reduceIte,jA,jB,jC,jD,reduceCtorEq,jE,jF])|(with_reducible refine uR ?_;refine uS rfl ?_)|omega))
 rw[←hQ]
 (repeat' (first|(with_reducible first|refine stp ?_|refine uP (by decide) ?_|refine uQ (fun _=>?_) (fun _=>?_))|((first|(with_reducible refine uA ?_;first|refine uB rfl ?_ ?_|(first|refine uC rfl ?_|refine uD rfl ?_)|refine uE rfl ?_)|(with_reducible refine uF ?_;first|refine uG rfl ?_ ?_|(first|refine uH rfl ?_|refine uI rfl ?_)|refine uJ rfl ?_|refine uK (uL ?_)|refine uK (uM ?_))|(with_reducible refine uN ?_;refine uO rfl ?_))<;>try simp only[ go_sem,reduceIte,jA,jB,jC,jD,reduceCtorEq,jE,jF])|(with_reducible refine uR ?_;refine uS rfl ?_)|omega))
 refine aO h' (hsm.le hd (Hp.le_refl _)) ⟨?_,rfl⟩
 have:M=ws:=by
  rw[List.take_of_length_le (by omega),List.take_of_length_le (by omega)] at hno
  exact hno
 simp only[hc0,this,go_sem,reduceIte,jA,jB,jC,jD,reduceCtorEq,jE,jF]
end Go.Proofs.YtmpmngakheoacaaGreat
