/-
Texts of this proof,one behind the other. No conditions.
-/
import Derived.Test.YthikfnmcjipobaaGreatKe
import Derived.Test.YthikfnmcjipobaaGreatKg
/-
Contracts of package path,last part:from as a value,Least,All. No conditions.
-/
namespace Go.Proofs.YthikfnmcjipobaaGreat
open Go.Proofs.YthikfnmcjipobaaGreat renaming iW→uA,gV→uB,fA→uC,fB→uD,dO→uE,iZ→uF,fQ→uG,fC→uH,fD→uI,dP→uJ,fZ→uK,fP→uL,gZ→uM,jS→uN,gB→uO,bT→uP,kK→uQ,iY→uR,gE→uS
open Nat renaming reduceAdd→jA,reduceSub→jB,reduceLT→jC,reduceLeDiff→jD,reduceEqDiff→jE
open Int renaming reduceToNat→jF,toNat_natCast→jG,natCast_add→jH,natCast_one→jI,natCast_zero→jJ
open List renaming length_map→jK,length_cons→jL,length_nil→jM,replicate_succ→jN,replicate_zero→jO,cons_append→jP,nil_append→jQ
set_option linter.unusedSimpArgs false
set_option linter.unusedVariables false
set_option linter.unusedSectionVars false
open Go.RowKit Go.Sort
attribute [local irreducible] IntKind.wrap
attribute [local go_sem] Option.some.injEq Prod.mk.injEq false_and and_false Bool.true_eq_false mP jR jX gG iV if_true Bool.true_and mF dS iH gL dQ aA.ok aA.next LOp.ok LOp.next bC.ok bC.out aQ.ev bN iI cH bO cO V.undef Sh.size gH fW cK aA.dok aA.dres LOp.dok LOp.dout lI iD gI eX List.take_succ_cons List.take_zero List.take_nil List.drop_succ_cons List.drop_zero List.drop_nil List.set_cons_succ List.set_cons_zero List.getD_cons_succ List.getD_cons_zero jL jM List.map_cons List.map_nil List.all_cons List.all_nil List.mem_cons List.not_mem_nil jN jO jP jQ List.append_nil List.isEmpty_cons List.isEmpty_nil dW fJ hM Option.getD_some Option.isSome_some Option.isSome_none Nat.add_eq Nat.zero_add Nat.add_zero true_and and_true and_self true_implies implies_true false_implies forall_const forall_eq forall_eq_or_imp ne_eq not_false_eq_true not_true_eq_false Bool.not_true Bool.not_false decide_true decide_false Bool.and_true Bool.true_and Bool.and_false Bool.false_and true_or or_true false_or or_false eq_self Bool.false_eq_true mK iO gC aD fH eT eB dU cL dT aZ aX dN jG Int.toNat_zero List.take_length Hp.set_app Hp.del_app gW fV aA.plain LOp.isCall aA.dplain LOp.isStop eM kT gY lY fN V.gd_true V.gd_false fM eK eL fL bG aY aU fK eS beq_true beq_false dD dE dF cB cC bH bI cP eQ cE dK dH bJ dI dL eN eO bK dJ bF cD eP bP dG bQ bB gQ gO gP gN dM cG dX cR eG eF eE eD eC bX bW cZ cY cX cA bZ bY eJ eI eH dC dB dA cQ cF bS kM Hp.turn fT Option.isNone_some Option.isNone_none oL gF fO aA.plain2 LOp.isApp oM lP lQ iQ fS fR
noncomputable def sU(n:Nat)(l:List We)(a:Nat):V:= .sl .leaf .free ((sV n l a).map fun m=>lst (.agg 2) (m.map Pa.v))
theorem aFH(ow:Own)(n:Nat)(l:List We)(a:Nat)(hfit:aCn n l)(ha:a<n)(hn:n≤200)(hl:l.length≤1000)(h:Hp):
 cM Tryz.prog 121 [.agg [.int .i64 n,wes ow l], .int .i64 a] h (sU n l a):=by
 refine bL (fun L=>?_) fun h' nx hh=>(tY (G:=fun ls=>ls=(sV n l a).map (List.map Pa.v)) (aFG ow n l a hfit ha hn hl h' nx)).mono ?_
 ·unfold sU
  simp only[V.names,true_and,and_true]
  refine⟨fun n e=>(by cases e),?_⟩
  exact eV (f:=fun m:List Pa=>lst (.agg 2) (m.map Pa.v)) (fun m=>iJ (fun L=>eV (Pa.names_v L) m) L) _
 rintro v h'' nx2 hnx ⟨ls,rfl,rfl,rfl⟩
 refine⟨?_,rfl⟩
 simp only[sU,List.map_map]
 rfl
/-
Contract of path.All:the least paths between all places,as a table. No conditions.
-/
noncomputable def mG(n:Nat)(l:List We)(i:Nat):List V:=(List.range i).map (sU n l)
theorem aDE(o:Own){P:Int}{ws:List Wy}{n:Nat}{l:List We}(R:qL P ws n l)(hl:ws.length≤1000)(h':Hp)(nx:Nat):
 bM Tryz.prog 72 [mps o P ws] h' nx fun v h'' _=>∃o2,v= .sl .leaf o2 (mG n l n)∧Acc h'' nx o2 (mG n l n)∧Hp.same nx h' h'':=by
 have hr:nX P ws=true:=(nW P ws).2 ⟨n,l,R⟩
 have hn:=R.le
 have hmf:(mps o P ws).fits (.agg 2)=true:=by simp[mps,V.fits,V.leafy,wys]
 have hlw:l.length≤1000:=by have:=R.eq;rw[this] at hl;simpa using hl
 have hP:=R.pl
 subst hP
 have hm:mps o n ws= .agg [.int .i64 n,wes o l]:=by rw[R.eq];simp only[mps,wys,wes,List.map_map];rfl
 have hf:∀a',a'<n→∀h,cM Tryz.prog 121 [mps o n ws, .int .i64 a'] h (sU n l a'):=fun a' ha h=>by rw[hm];exact aFH o n l a' R.fit ha hn hlw h
 refine aG L.path_All_low fun hd=>?_
 simp only[jL,jM,jA,jB,jN,jO,jP,jQ,V.undef]
 (repeat' (first|(with_reducible first|refine stp ?_|refine uP (by decide) ?_|refine uQ (fun _=>?_) (fun _=>?_))|((first|(with_reducible refine uA ?_;first|refine uB rfl ?_ ?_|refine aJ (oX o n ws hl _) rfl (aS _) ?_|(first|refine uC rfl ?_|refine uD rfl ?_)|refine uE rfl ?_)|(with_reducible refine uF ?_;first|refine uG rfl ?_ ?_|(first|refine uH rfl ?_|refine uI rfl ?_)|refine uJ rfl ?_|refine uK (uL ?_)|refine uK (uM ?_))|(with_reducible refine uN ?_;refine uO rfl ?_))<;>try simp only[hmf,hr,decide_true,decide_false,go_sem,reduceIte,jA,jB,jC,jD,reduceCtorEq,jE,jF])|(with_reducible refine uR ?_;refine uS rfl ?_)|omega))
 refine cI (fun q:Nat×Own=>aD 21 0 [(1, .ptr nx (.agg 2) 0 0),(3, .sl .leaf q.2 (mG n l q.1)),(9, .int .i64 n),(10, .int .i64 q.1)])
  (fun q hp nx1=>q.1≤n∧nx+1≤nx1∧aT hp nx1∧Hp.same (nx+1) (h'.set nx (.arr (.agg 2) [mps o n ws])) hp∧Acc hp (nx+1) q.2 (mG n l q.1))
  (fun q=>n-q.1) (0, .nil) ⟨Nat.zero_le _,Nat.le_refl _,(by(try dsimp only);repeat (first|exact aT.up hd (by omega)|refine aT.set2 ?_ (by omega) _|refine aT.del ?_|refine aT.delO ?_ _)),Hp.same.rfl',Acc.nil⟩ ?_ ?_
 ·simp only[WkL,aD,jH,jI,jJ,mG,List.range_zero,List.map_nil,go_sem,reduceIte,jA,jB,jC,jD,reduceCtorEq,jE,jF]
 rintro⟨i,oo⟩ hp nx1 ⟨hi,hnx,hdm,hsm,hacc⟩
 generalize hQ:fF _ _ _ _ _=Q0
 dsimp only at hi hacc
 have c1:hp nx=some (.arr (.agg 2) [mps o n ws]):=by rw[hsm nx (by omega)];simp only[go_sem,reduceIte,jA,jB,jC,jD,reduceCtorEq,jE,jF]
 have hlt0:nx<nx1:=by omega
 have hlen:(mG n l i).length=i:=by simp[mG]
 simp only[aD,go_sem,reduceIte,jA,jB,jC,jD,reduceCtorEq,jE,jF]
 rcases Nat.lt_or_ge i n with hlt|hge
 ·have hc:decide ((i:Int)<(n:Int))=true:=by simpa using hlt
  have hw:IntKind.i64.wrap ((i:Int)+1)=((i+1:Nat):Int):=by rw[cS]<;>omega
  have hnn:mG n l (i+1)=mG n l i++[sU n l i]:=by simp[mG,List.range_succ]
  have hfl:(sU n l i).leafy=true:=rfl
  (repeat' (first|(with_reducible first|refine stp ?_|refine uP (by decide) ?_|refine uQ (fun _=>?_) (fun _=>?_))|((first|(with_reducible refine uA ?_;first|refine uB rfl ?_ ?_|refine aJ (hf i hlt _) rfl (aS _) ?_|refine pN (n0:=nx+1) rfl (by(try dsimp only);repeat' (first|exact hacc|exact Acc.new _ (by simp) (by omega)|exact mW.new (by omega)|exact aT.ntip hdm (by omega)|exact kP|exact mB (by assumption)|refine kN (by omega) ?_|refine kO ?_|refine Acc.set ?_ ?_ _|refine mW.set ?_ ?_ _)) rfl (by simp) (by simp only[hlen,hfl,c1,hlt0,hc,hlt,hw,hmf,hfl,hlen,go_sem,reduceIte,jA,jB,jC,jD,reduceCtorEq,jE,jF];try omega) ?_|(first|refine uC rfl ?_|refine uD rfl ?_)|refine uE rfl ?_)|(with_reducible refine uF ?_;first|refine uG rfl ?_ ?_|(first|refine uH rfl ?_|refine uI rfl ?_)|refine uJ rfl ?_|refine uK (uL ?_)|refine uK (uM ?_))|(with_reducible refine uN ?_;refine uO rfl ?_))<;>try simp only[c1,hlt0,hc,hlt,hw,hmf,hfl,hlen,go_sem,reduceIte,jA,jB,jC,jD,reduceCtorEq,jE,jF])|(with_reducible refine uR ?_;refine uS rfl ?_)|omega))
  rw[←hQ]
  refine aL (i+1, .tok (nx1+1)) (by dsimp only;omega) ⟨hlt,by omega,(by(try dsimp only);repeat (first|exact aT.up hdm (by omega)|refine aT.set2 ?_ (by omega) _|refine aT.del ?_|refine aT.delO ?_ _)),(by(try dsimp only);repeat (first|exact hsm|refine bV ?_ (by omega) _|refine cN ?_ (by omega)|refine kX ?_ (fun id e=>by have:=(hacc).ge id e;omega))),?_⟩ ?_
  ·dsimp only;rw[hnn];exact Acc.new _ (by simp) (by omega)
  simp only[WkL,aD,jH,jI,jJ,hnn,go_sem,reduceIte,jA,jB,jC,jD,reduceCtorEq,jE,jF]
 have hc:decide ((i:Int)<(n:Int))=false:=by simpa using hge
 (repeat' (first|(with_reducible first|refine stp ?_|refine uP (by decide) ?_|refine uQ (fun _=>?_) (fun _=>?_))|((first|(with_reducible refine uA ?_;first|refine uB rfl ?_ ?_|(first|refine uC rfl ?_|refine uD rfl ?_)|refine uE rfl ?_)|(with_reducible refine uF ?_;first|refine uG rfl ?_ ?_|(first|refine uH rfl ?_|refine uI rfl ?_)|refine uJ rfl ?_|refine uK (uL ?_)|refine uK (uM ?_))|(with_reducible refine uN ?_;refine uO rfl ?_))<;>try simp only[hc,go_sem,reduceIte,jA,jB,jC,jD,reduceCtorEq,jE,jF])|(with_reducible refine uR ?_;refine uS rfl ?_)|omega))
 rw[←hQ]
 (repeat' (first|(with_reducible first|refine stp ?_|refine uP (by decide) ?_|refine uQ (fun _=>?_) (fun _=>?_))|((first|(with_reducible refine uA ?_;first|refine uB rfl ?_ ?_|(first|refine uC rfl ?_|refine uD rfl ?_)|refine uE rfl ?_)|(with_reducible refine uF ?_;first|refine uG rfl ?_ ?_|(first|refine uH rfl ?_|refine uI rfl ?_)|refine uJ rfl ?_|refine uK (uL ?_)|refine uK (uM ?_))|(with_reducible refine uN ?_;refine uO rfl ?_))<;>try simp only[hc,go_sem,reduceIte,jA,jB,jC,jD,reduceCtorEq,jE,jF])|(with_reducible refine uR ?_;refine uS rfl ?_)|omega))
 refine aM hp (Hp.le_refl _) ⟨oo,?_,?_,fun x hx=>by rw[hsm x (by omega)];unfold Hp.set;rw[if_neg (by omega)]⟩
 ·simp only[go_sem,reduceIte,jA,jB,jC,jD,reduceCtorEq,jE,jF]
  rw[show i=n by omega]
 rw[show i=n by omega] at hacc
 rcases hacc with h|⟨h1,id,h2,h3,h4⟩
 ·exact .inl h
 exact .inr ⟨h1,id,by omega,h3,h4⟩
end Go.Proofs.YthikfnmcjipobaaGreat
/-
Least paths:they are there;one behind the other;with more ways none is farther. Plain laws. No conditions.
-/
namespace Go.Proofs.YthikfnmcjipobaaGreat
set_option linter.unusedSimpArgs false
set_option linter.unusedVariables false
set_option linter.unusedSectionVars false
open Go.RowKit Go.Sort
theorem aHS(S:Nat→Prop):∀n,S n→∃m,S m∧∀k,S k→m≤k:=by
 intro n
 induction n using Nat.strongRecOn with
 |ind n ih=>
  intro hn
  by_cases h:∃k,k<n∧S k
  ·obtain⟨k,h1,h2⟩:=h
   exact ih k h1 h2
  exact⟨n,hn,fun k hk=>Nat.le_of_not_lt fun hlt=>h ⟨k,hlt,hk⟩⟩
theorem tN(ws:List We)(a k:Nat)(b:Bool):(∀p,Val ws a k p→p.n≠b)∨∃q,Val ws a k q∧q.n=b∧∀p,Val ws a k p→p.n=b→q.a≤p.a:=by
 by_cases h:∃p,Val ws a k p∧p.n=b
 ·obtain⟨p,h1,h2⟩:=h
  obtain⟨m,⟨q,hq1,hq2,hq3⟩,hm⟩:=aHS (fun m=>∃q,Val ws a k q∧q.n=b∧q.a.toNat=m) _ ⟨p,h1,h2,rfl⟩
  refine .inr ⟨q,hq1,hq2,fun r hr hrb=>?_⟩
  have:=hm _ ⟨r,hr,hrb,rfl⟩
  have o1:=hr.ok
  have o2:=hq1.ok
  simp only[Pa.ok,Bool.and_eq_true,decide_eq_true_eq] at o1 o2
  omega
 exact .inl fun p hp e=>h ⟨p,hp,e⟩
theorem oG{p q:Pa}(h:p.n=q.n)(h2:p.a≤q.a):p.le q=true:=by
 obtain⟨n,a⟩:=p;obtain⟨m,b⟩:=q
 simp only at h h2
 subst h
 cases n<;>simp[Pa.le,h2]
theorem aGu(ws:List We)(a k:Nat):∃m,mC ws a k m:=by
 rcases tN ws a k false with hF|⟨f,f1,f2,f3⟩
 ·rcases tN ws a k true with hT|⟨t,t1,t2,t3⟩
  ·refine⟨[],List.Pairwise.nil,(fun p hp=>by cases hp),fun p hp=>?_⟩
   cases e:p.n with
   |false=>exact absurd e (hF p hp)
   |true=>exact absurd e (hT p hp)
  refine⟨[t],by simp[Can],(fun p hp=>by simp at hp;subst hp;exact t1),fun p hp=>⟨t,by simp,?_⟩⟩
  cases e:p.n with
  |false=>exact absurd e (hF p hp)
  |true=>exact oG (t2.trans e.symm) (t3 p hp e)
 rcases tN ws a k true with hT|⟨t,t1,t2,t3⟩
 ·refine⟨[f],by simp[Can],(fun p hp=>by simp at hp;subst hp;exact f1),fun p hp=>⟨f,by simp,?_⟩⟩
  cases e:p.n with
  |true=>exact absurd e (hT p hp)
  |false=>exact oG (f2.trans e.symm) (f3 p hp e)
 by_cases h:t.a≤f.a
 ·refine⟨[t],by simp[Can],(fun p hp=>by simp at hp;subst hp;exact t1),fun p hp=>⟨t,by simp,?_⟩⟩
  cases e:p.n with
  |true=>exact oG (t2.trans e.symm) (t3 p hp e)
  |false=>
   have:=f3 p hp e
   simp[Pa.le,t2,e]
   omega
 refine⟨[f,t],by simp[Can,f2,t2];omega,(fun p hp=>by simp at hp;rcases hp with rfl|rfl<;>assumption),fun p hp=>?_⟩
 cases e:p.n with
 |true=>exact⟨t,by simp,oG (t2.trans e.symm) (t3 p hp e)⟩
 |false=>exact⟨f,by simp,oG (f2.trans e.symm) (f3 p hp e)⟩
theorem xP(ws:List We)(a k:Nat):mC ws a k (eW ws a k):=by
 obtain⟨m,hm⟩:=aGu ws a k
 rw[wS hm]
 exact hm
def adds(l:List We):Int:=(l.map fun w=>w.p.a).sum
theorem aCq{ws:List We}:∀{l:List We} {a k:Nat},tZ ws a l k→∀w∈l,w∈ws
 | [],_,_,_,w,hw=>by cases hw
 |v::l,_,_,⟨h1,_,h3⟩,w,hw=>by
  rcases List.mem_cons.1 hw with rfl|hw
  ·exact h1
  exact aCq h3 w hw
theorem aDz(ws:List Wy):eY (eY ws)=eY ws:=
 Inc.unique Wy.ord (aAs _) (aAs _) fun x=>by rw[qK]
theorem aCO(P:Int)(ws:List Wy):iP P (eY ws)=iP P ws:=by
 have e:(∃w∈eY ws,w.fit P=false)↔∃w∈ws,w.fit P=false:=by simp only[qK]
 unfold iP
 rw[aDz]
 simp only[e]
theorem aDZ{P:Int}{ws:List Wy}(h:(iP P ws).2=0):(iP P ws).1=(P,eY ws):=by
 unfold iP at h⊢
 split at h
 ·cases h
 rename_i h1
 split at h
 ·cases h
 rename_i h2
 split at h
 ·cases h
 rename_i h3
 rw[if_neg h1,if_neg h2,if_neg h3]
theorem aCN{P:Int}{ws:List Wy}(h:(iP P ws).2=0):∃n l,qL P (eY ws) n l:=by
 refine(nW P (eY ws)).1 ?_
 unfold nX
 rw[decide_eq_true_eq,aCO]
 exact⟨h,by rw[aDZ h]⟩
theorem aFS(l:List We):jV (l.map We.wy)=adds l:=by
 unfold jV adds
 rw[List.map_map]
 rfl
theorem qL.adds{P:Int}{ws:List Wy}{n:Nat}{l:List We}(R:qL P ws n l):Proofs.YthikfnmcjipobaaGreat.adds l≤1048576:=by
 have:=R.sum
 rw[R.eq,aFS] at this
 exact this
end Go.Proofs.YthikfnmcjipobaaGreat
/-
corollarylaw22's alive and Large,corollarynum.Num;Least,whatever the map. No conditions.
-/
namespace Go.Proofs.YthikfnmcjipobaaGreat
open Go.Proofs.YthikfnmcjipobaaGreat renaming iW→uA,gV→uB,fA→uC,fB→uD,dO→uE,iZ→uF,fQ→uG,fC→uH,fD→uI,dP→uJ,fZ→uK,fP→uL,gZ→uM,jS→uN,gB→uO,bT→uP,kK→uQ,iY→uR,gE→uS
open Nat renaming reduceAdd→jA,reduceSub→jB,reduceLT→jC,reduceLeDiff→jD,reduceEqDiff→jE
open Int renaming reduceToNat→jF,toNat_natCast→jG,natCast_add→jH,natCast_one→jI,natCast_zero→jJ
open List renaming length_map→jK,length_cons→jL,length_nil→jM,replicate_succ→jN,replicate_zero→jO,cons_append→jP,nil_append→jQ
set_option linter.unusedSimpArgs false
set_option linter.unusedVariables false
set_option linter.unusedSectionVars false
open Go.RowKit Go.Sort
attribute [local irreducible] IntKind.wrap
attribute [local go_sem] Option.some.injEq Prod.mk.injEq false_and and_false Bool.true_eq_false mP jR jX gG iV if_true Bool.true_and mF dS iH gL dQ aA.ok aA.next LOp.ok LOp.next bC.ok bC.out aQ.ev bN iI cH bO cO V.undef Sh.size gH fW cK aA.dok aA.dres LOp.dok LOp.dout lI iD gI eX List.take_succ_cons List.take_zero List.take_nil List.drop_succ_cons List.drop_zero List.drop_nil List.set_cons_succ List.set_cons_zero List.getD_cons_succ List.getD_cons_zero jL jM List.map_cons List.map_nil List.all_cons List.all_nil List.mem_cons List.not_mem_nil jN jO jP jQ List.append_nil List.isEmpty_cons List.isEmpty_nil dW fJ hM Option.getD_some Option.isSome_some Option.isSome_none Nat.add_eq Nat.zero_add Nat.add_zero true_and and_true and_self true_implies implies_true false_implies forall_const forall_eq forall_eq_or_imp ne_eq not_false_eq_true not_true_eq_false Bool.not_true Bool.not_false decide_true decide_false Bool.and_true Bool.true_and Bool.and_false Bool.false_and true_or or_true false_or or_false eq_self Bool.false_eq_true mK iO gC aD fH eT eB dU cL dT aZ aX dN jG Int.toNat_zero List.take_length Hp.set_app Hp.del_app gW fV aA.plain LOp.isCall aA.dplain LOp.isStop eM kT gY lY fN V.gd_true V.gd_false fM eK eL fL bG aY aU fK eS beq_true beq_false dD dE dF cB cC bH bI cP eQ cE dK dH bJ dI dL eN eO bK dJ bF cD eP bP dG bQ bB gQ gO gP gN dM cG dX cR eG eF eE eD eC bX bW cZ cY cX cA bZ bY eJ eI eH dC dB dA cQ cF bS kM Hp.turn fT Option.isNone_some Option.isNone_none oL gF fO aA.plain2 LOp.isApp oM lP lQ iQ fS fR
def wT(P:Int)(ws:List Wy):Bool:=(decide (14<P)&&decide (P≤200))||decide (40<(ws.length:Int))
theorem zT(o:Own)(P:Int)(ws:List Wy)(h:Hp):cM Tryz.prog 20 [mps o P ws] h (.bool (wT P ws)):=by
 have hmf:(mps o P ws).fits (.agg 2)=true:=by simp[mps,V.fits,V.leafy,wys]
 refine bL (fun L=>trivial) fun h' nx hh=>aG L.corollarylaw22_Large_low fun hd=>?_
 simp only[jL,jM,jA,jB,jN,jO,jP,jQ,V.undef]
 unfold wT
 cases h1:decide (14<P)<;>cases h2:decide (P≤200)
 all_goals ((repeat' (first|(with_reducible first|refine stp ?_|refine uP (by decide) ?_|refine uQ (fun _=>?_) (fun _=>?_))|((first|(with_reducible refine uA ?_;first|refine uB rfl ?_ ?_|(first|refine uC rfl ?_|refine uD rfl ?_)|refine uE rfl ?_)|(with_reducible refine uF ?_;first|refine uG rfl ?_ ?_|(first|refine uH rfl ?_|refine uI rfl ?_)|refine uJ rfl ?_|refine uK (uL ?_)|refine uK (uM ?_))|(with_reducible refine uN ?_;refine uO rfl ?_))<;>try simp only[hmf,h1,h2,jK,go_sem,reduceIte,jA,jB,jC,jD,reduceCtorEq,jE,jF])|(with_reducible refine uR ?_;refine uS rfl ?_)|omega)))
 all_goals refine aM h' (by repeat (first|exact Hp.le_refl _|refine aW hd ?_ (by omega) _|refine bD hd ?_ (by omega))) ⟨?_,rfl⟩
 all_goals simp only[jK,Bool.false_or,Bool.true_or,go_sem,reduceIte,jA,jB,jC,jD,reduceCtorEq,jE,jF]
theorem aBr{P:Int}{ws:List Wy}(h:wT P ws=false):ws.length≤40:=by
 unfold wT at h
 rw[Bool.or_eq_false_iff] at h
 have:=of_decide_eq_false h.2
 omega
end Go.Proofs.YthikfnmcjipobaaGreat
