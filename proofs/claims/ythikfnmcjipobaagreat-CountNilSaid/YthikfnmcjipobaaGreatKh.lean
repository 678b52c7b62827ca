/-
Texts of this proof,one behind the other. No conditions.
-/
import Derived.Test.YthikfnmcjipobaaGreatKe
import Derived.Test.YthikfnmcjipobaaGreatKg
/-
Contracts of package path,last part:from as a value,Least,All. No conditions.
-/
namespace Go.Proofs.YthikfnmcjipobaaGreat
open Go.Proofs.YthikfnmcjipobaaGreat renaming iB→uA,gG→uB,dY→uC,dZ→uD,cP→uE,iC→uF,fH→uG,eA→uH,eB→uI,cQ→uJ,fG→uK,fE→uL,gH→uM,iD→uN,fP→uO,bR→uP,jW→uQ,iJ→uR,fZ→uS
open Nat renaming reduceAdd→jA,reduceSub→jB,reduceLT→jC,reduceLeDiff→jD,reduceEqDiff→jE
open Int renaming reduceToNat→jF,toNat_natCast→jG,natCast_add→jH,natCast_one→jI,natCast_zero→jJ
open List renaming length_map→jK,length_cons→jL,length_nil→jM,replicate_succ→jN,replicate_zero→jO,cons_append→jP,nil_append→jQ
set_option linter.unusedSimpArgs false
set_option linter.unusedVariables false
set_option linter.unusedSectionVars false
open Go.RowKit Go.Sort
attribute [local irreducible] IntKind.wrap
attribute [local go_sem] Option.some.injEq Prod.mk.injEq false_and and_false Bool.true_eq_false mF iS iW gE iR if_true Bool.true_and lV dO gW gF dN aA.ok aA.next LOp.ok LOp.next aZ.ok aZ.out aM.ev bK iA cB bO cK V.undef Sh.size gA fS cH aA.dok aA.dres LOp.dok LOp.dout kZ gX gB eX List.take_succ_cons List.take_zero List.take_nil List.drop_succ_cons List.drop_zero List.drop_nil List.set_cons_succ List.set_cons_zero List.getD_cons_succ List.getD_cons_zero jL jM List.map_cons List.map_nil List.all_cons List.all_nil List.mem_cons List.not_mem_nil jN jO jP jQ List.append_nil List.isEmpty_cons List.isEmpty_nil dS fF gQ Option.getD_some Option.isSome_some Option.isSome_none Nat.add_eq Nat.zero_add Nat.add_zero true_and and_true and_self true_implies implies_true false_implies forall_const forall_eq forall_eq_or_imp ne_eq not_false_eq_true not_true_eq_false Bool.not_true Bool.not_false decide_true decide_false Bool.and_true Bool.true_and Bool.and_false Bool.false_and true_or or_true false_or or_false eq_self Bool.false_eq_true lY iH fY aG fC eV dX dQ cI dP bC aY dD jG Int.toNat_zero List.take_length Hp.set_app Hp.del_app gS fR aA.plain LOp.isCall aA.dplain LOp.isStop eO kK gT lP fL V.gd_true V.gd_false fK eL eM fJ bH bB aR fI eW beq_true beq_false dE dF dG cC cD bI bJ cU eT cF cN dI bL dJ dK eQ eR bM cT bG cE eS bP dH bQ bD gL gJ gK gI dL bU dW cV eH eG eF eE eD bX bW cZ cY cX cA bZ bY eK eJ eI dC dB dA cO cG bT kI Hp.turn fO Option.isNone_some Option.isNone_none oE gD fN aA.plain2 LOp.isApp oH lI lJ iL fU fT
noncomputable def rL(n:Nat)(l:List We)(a:Nat):V:= .sl .leaf .free ((rM n l a).map fun m=>lst (.agg 2) (m.map Pa.v))
theorem aEc(ow:Own)(n:Nat)(l:List We)(a:Nat)(hfit:aBb n l)(ha:a<n)(hn:n≤200)(hl:l.length≤1000)(h:Hp):
 cJ Tryz.prog 121 [.agg [.int .i64 n,wes ow l], .int .i64 a] h (rL n l a):=by
 refine bF (fun L=>?_) fun h' nx hh=>(sL (G:=fun ls=>ls=(rM n l a).map (List.map Pa.v)) (aEb ow n l a hfit ha hn hl h' nx)).mono ?_
 ·unfold rL
  simp only[V.names,true_and,and_true]
  refine⟨fun n e=>(by cases e),?_⟩
  exact fX (f:=fun m:List Pa=>lst (.agg 2) (m.map Pa.v)) (fun m=>lT (fun L=>fX (Pa.names_v L) m) L) _
 rintro v h'' nx2 hnx ⟨ls,rfl,rfl,rfl⟩
 refine⟨?_,rfl⟩
 simp only[rL,List.map_map]
 rfl
/-
Contract of path.All:the least paths between all places,as a table. No conditions.
-/
noncomputable def nS(n:Nat)(l:List We)(i:Nat):List V:=(List.range i).map (rL n l)
theorem aCh(o:Own){P:Int}{ws:List Wy}{n:Nat}{l:List We}(R:pK P ws n l)(hl:ws.length≤1000)(h':Hp)(nx:Nat):
 bN Tryz.prog 72 [mps o P ws] h' nx fun v h'' _=>∃o2,v= .sl .leaf o2 (nS n l n)∧Acc h'' nx o2 (nS n l n)∧Hp.same nx h' h'':=by
 have hr:oD P ws=true:=(oY P ws).2 ⟨n,l,R⟩
 have hn:=R.le
 have hmf:(mps o P ws).fits (.agg 2)=true:=by simp[mps,V.fits,V.leafy,wys]
 have hlw:l.length≤1000:=by have:=R.eq;rw[this] at hl;simpa using hl
 have hP:=R.pl
 subst hP
 have hm:mps o n ws= .agg [.int .i64 n,wes o l]:=by rw[R.eq];simp only[mps,wys,wes,List.map_map];rfl
 have hf:∀a',a'<n→∀h,cJ Tryz.prog 121 [mps o n ws, .int .i64 a'] h (rL n l a'):=fun a' ha h=>by rw[hm];exact aEc o n l a' R.fit ha hn hlw h
 refine aF L.path_All_low fun hd=>?_
 simp only[jL,jM,jA,jB,jN,jO,jP,jQ,V.undef]
 (repeat' (first|(with_reducible first|refine stp ?_|refine uP (by decide) ?_|refine uQ (fun _=>?_) (fun _=>?_))|((first|(with_reducible refine uA ?_;first|refine uB rfl ?_ ?_|refine aI (oC o n ws hl _) rfl (aN _) ?_|(first|refine uC rfl ?_|refine uD rfl ?_)|refine uE rfl ?_)|(with_reducible refine uF ?_;first|refine uG rfl ?_ ?_|(first|refine uH rfl ?_|refine uI rfl ?_)|refine uJ rfl ?_|refine uK (uL ?_)|refine uK (uM ?_))|(with_reducible refine uN ?_;refine uO rfl ?_))<;>try simp only[hmf,hr,decide_true,decide_false,go_sem,reduceIte,jA,jB,jC,jD,reduceCtorEq,jE,jF])|(with_reducible refine uR ?_;refine uS rfl ?_)|omega))
 refine eY (fun q:Nat×Own=>aG 21 0 [(1, .ptr nx (.agg 2) 0 0),(3, .sl .leaf q.2 (nS n l q.1)),(9, .int .i64 n),(10, .int .i64 q.1)])
  (fun q hp nx1=>q.1≤n∧nx+1≤nx1∧aV hp nx1∧Hp.same (nx+1) (h'.set nx (.arr (.agg 2) [mps o n ws])) hp∧Acc hp (nx+1) q.2 (nS n l q.1))
  (fun q=>n-q.1) (0, .nil) ⟨Nat.zero_le _,Nat.le_refl _,(by(try dsimp only);repeat (first|exact aV.up hd (by omega)|refine aV.set2 ?_ (by omega) _|refine aV.del ?_|refine aV.delO ?_ _)),Hp.same.rfl',Acc.nil⟩ ?_ ?_
 ·simp only[WkL,aG,jH,jI,jJ,nS,List.range_zero,List.map_nil,go_sem,reduceIte,jA,jB,jC,jD,reduceCtorEq,jE,jF]
 rintro⟨i,oo⟩ hp nx1 ⟨hi,hnx,hdm,hsm,hacc⟩
 generalize hQ:gM _ _ _ _ _=Q0
 dsimp only at hi hacc
 have c1:hp nx=some (.arr (.agg 2) [mps o n ws]):=by rw[hsm nx (by omega)];simp only[go_sem,reduceIte,jA,jB,jC,jD,reduceCtorEq,jE,jF]
 have hlt0:nx<nx1:=by omega
 have hlen:(nS n l i).length=i:=by simp[nS]
 simp only[aG,go_sem,reduceIte,jA,jB,jC,jD,reduceCtorEq,jE,jF]
 rcases Nat.lt_or_ge i n with hlt|hge
 ·have hc:decide ((i:Int)<(n:Int))=true:=by simpa using hlt
  have hw:IntKind.i64.wrap ((i:Int)+1)=((i+1:Nat):Int):=by rw[cW]<;>omega
  have hnn:nS n l (i+1)=nS n l i++[rL n l i]:=by simp[nS,List.range_succ]
  have hfl:(rL n l i).leafy=true:=rfl
  (repeat' (first|(with_reducible first|refine stp ?_|refine uP (by decide) ?_|refine uQ (fun _=>?_) (fun _=>?_))|((first|(with_reducible refine uA ?_;first|refine uB rfl ?_ ?_|refine aI (hf i hlt _) rfl (aN _) ?_|refine oT (n0:=nx+1) rfl (by(try dsimp only);repeat' (first|exact hacc|exact Acc.new _ (by simp) (by omega)|exact lQ.new (by omega)|exact aV.ntip hdm (by omega)|exact kA|exact lM (by assumption)|refine jY (by omega) ?_|refine jZ ?_|refine Acc.set ?_ ?_ _|refine lQ.set ?_ ?_ _)) rfl (by simp) (by simp only[hlen,hfl,c1,hlt0,hc,hlt,hw,hmf,hfl,hlen,go_sem,reduceIte,jA,jB,jC,jD,reduceCtorEq,jE,jF];try omega) ?_|(first|refine uC rfl ?_|refine uD rfl ?_)|refine uE rfl ?_)|(with_reducible refine uF ?_;first|refine uG rfl ?_ ?_|(first|refine uH rfl ?_|refine uI rfl ?_)|refine uJ rfl ?_|refine uK (uL ?_)|refine uK (uM ?_))|(with_reducible refine uN ?_;refine uO rfl ?_))<;>try simp only[c1,hlt0,hc,hlt,hw,hmf,hfl,hlen,go_sem,reduceIte,jA,jB,jC,jD,reduceCtorEq,jE,jF])|(with_reducible refine uR ?_;refine uS rfl ?_)|omega))
  rw[←hQ]
  refine aT (i+1, .tok (nx1+1)) (by dsimp only;omega) ⟨hlt,by omega,(by(try dsimp only);repeat (first|exact aV.up hdm (by omega)|refine aV.set2 ?_ (by omega) _|refine aV.del ?_|refine aV.delO ?_ _)),(by(try dsimp only);repeat (first|exact hsm|refine cR ?_ (by omega) _|refine dM ?_ (by omega)|refine kX ?_ (fun id e=>by have:=(hacc).ge id e;omega))),?_⟩ ?_
  ·dsimp only;rw[hnn];exact Acc.new _ (by simp) (by omega)
  simp only[WkL,aG,jH,jI,jJ,hnn,go_sem,reduceIte,jA,jB,jC,jD,reduceCtorEq,jE,jF]
 have hc:decide ((i:Int)<(n:Int))=false:=by simpa using hge
 (repeat' (first|(with_reducible first|refine stp ?_|refine uP (by decide) ?_|refine uQ (fun _=>?_) (fun _=>?_))|((first|(with_reducible refine uA ?_;first|refine uB rfl ?_ ?_|(first|refine uC rfl ?_|refine uD rfl ?_)|refine uE rfl ?_)|(with_reducible refine uF ?_;first|refine uG rfl ?_ ?_|(first|refine uH rfl ?_|refine uI rfl ?_)|refine uJ rfl ?_|refine uK (uL ?_)|refine uK (uM ?_))|(with_reducible refine uN ?_;refine uO rfl ?_))<;>try simp only[hc,go_sem,reduceIte,jA,jB,jC,jD,reduceCtorEq,jE,jF])|(with_reducible refine uR ?_;refine uS rfl ?_)|omega))
 rw[←hQ]
 (repeat' (first|(with_reducible first|refine stp ?_|refine uP (by decide) ?_|refine uQ (fun _=>?_) (fun _=>?_))|((first|(with_reducible refine uA ?_;first|refine uB rfl ?_ ?_|(first|refine uC rfl ?_|refine uD rfl ?_)|refine uE rfl ?_)|(with_reducible refine uF ?_;first|refine uG rfl ?_ ?_|(first|refine uH rfl ?_|refine uI rfl ?_)|refine uJ rfl ?_|refine uK (uL ?_)|refine uK (uM ?_))|(with_reducible refine uN ?_;refine uO rfl ?_))<;>try simp only[hc,go_sem,reduceIte,jA,jB,jC,jD,reduceCtorEq,jE,jF])|(with_reducible refine uR ?_;refine uS rfl ?_)|omega))
 refine aJ hp (Hp.le_refl _) ⟨oo,?_,?_,fun x hx=>by rw[hsm x (by omega)];unfold Hp.set;rw[if_neg (by omega)]⟩
 ·simp only[go_sem,reduceIte,jA,jB,jC,jD,reduceCtorEq,jE,jF]
  rw[show i=n by omega]
 rw[show i=n by omega] at hacc
 rcases hacc with h|⟨h1,id,h2,h3,h4⟩
 ·exact .inl h
 exact .inr ⟨h1,id,by omega,h3,h4⟩
end Go.Proofs.YthikfnmcjipobaaGreat
/-
Least paths:they are there;one behind the other;with more ways none is farther. Plain laws. No conditions.
-/
namespace Go.Proofs.YthikfnmcjipobaaGreat
set_option linter.unusedSimpArgs false
set_option linter.unusedVariables false
set_option linter.unusedSectionVars false
open Go.RowKit Go.Sort
def adds(l:List We):Int:=(l.map fun w=>w.p.a).sum
theorem aBe{ws:List We}:∀{l:List We} {a k:Nat},sM ws a l k→∀w∈l,w∈ws
 | [],_,_,_,w,hw=>by cases hw
 |v::l,_,_,⟨h1,_,h3⟩,w,hw=>by
  rcases List.mem_cons.1 hw with rfl|hw
  ·exact h1
  exact aBe h3 w hw
theorem aCc(ws:List Wy):eU (eU ws)=eU ws:=
 Inc.unique Wy.ord (yF _) (yF _) fun x=>by rw[pJ]
theorem aBx(P:Int)(ws:List Wy):iE P (eU ws)=iE P ws:=by
 have e:(∃w∈eU ws,w.fit P=false)↔∃w∈ws,w.fit P=false:=by simp only[pJ]
 unfold iE
 rw[aCc]
 simp only[e]
theorem aCE{P:Int}{ws:List Wy}(h:(iE P ws).2=0):(iE P ws).1=(P,eU ws):=by
 unfold iE at h⊢
 split at h
 ·cases h
 rename_i h1
 split at h
 ·cases h
 rename_i h2
 split at h
 ·cases h
 rename_i h3
 rw[if_neg h1,if_neg h2,if_neg h3]
theorem aBw{P:Int}{ws:List Wy}(h:(iE P ws).2=0):∃n l,pK P (eU ws) n l:=by
 refine(oY P (eU ws)).1 ?_
 unfold oD
 rw[decide_eq_true_eq,aBx]
 exact⟨h,by rw[aCE h]⟩
theorem aEq(l:List We):iO (l.map We.wy)=adds l:=by
 unfold iO adds
 rw[List.map_map]
 rfl
theorem pK.adds{P:Int}{ws:List Wy}{n:Nat}{l:List We}(R:pK P ws n l):Proofs.YthikfnmcjipobaaGreat.adds l≤1048576:=by
 have:=R.sum
 rw[R.eq,aEq] at this
 exact this
end Go.Proofs.YthikfnmcjipobaaGreat
/-
corollarylaw22's alive and Large,corollarynum.Num;Least,whatever the map. No conditions.
-/
namespace Go.Proofs.YthikfnmcjipobaaGreat
open Go.Proofs.YthikfnmcjipobaaGreat renaming iB→uA,gG→uB,dY→uC,dZ→uD,cP→uE,iC→uF,fH→uG,eA→uH,eB→uI,cQ→uJ,fG→uK,fE→uL,gH→uM,iD→uN,fP→uO,bR→uP,jW→uQ,iJ→uR,fZ→uS
open Nat renaming reduceAdd→jA,reduceSub→jB,reduceLT→jC,reduceLeDiff→jD,reduceEqDiff→jE
open Int renaming reduceToNat→jF,toNat_natCast→jG,natCast_add→jH,natCast_one→jI,natCast_zero→jJ
open List renaming length_map→jK,length_cons→jL,length_nil→jM,replicate_succ→jN,replicate_zero→jO,cons_append→jP,nil_append→jQ
set_option linter.unusedSimpArgs false
set_option linter.unusedVariables false
set_option linter.unusedSectionVars false
open Go.RowKit Go.Sort
attribute [local irreducible] IntKind.wrap
attribute [local go_sem] Option.some.injEq Prod.mk.injEq false_and and_false Bool.true_eq_false mF iS iW gE iR if_true Bool.true_and lV dO gW gF dN aA.ok aA.next LOp.ok LOp.next aZ.ok aZ.out aM.ev bK iA cB bO cK V.undef Sh.size gA fS cH aA.dok aA.dres LOp.dok LOp.dout kZ gX gB eX List.take_succ_cons List.take_zero List.take_nil List.drop_succ_cons List.drop_zero List.drop_nil List.set_cons_succ List.set_cons_zero List.getD_cons_succ List.getD_cons_zero jL jM List.map_cons List.map_nil List.all_cons List.all_nil List.mem_cons List.not_mem_nil jN jO jP jQ List.append_nil List.isEmpty_cons List.isEmpty_nil dS fF gQ Option.getD_some Option.isSome_some Option.isSome_none Nat.add_eq Nat.zero_add Nat.add_zero true_and and_true and_self true_implies implies_true false_implies forall_const forall_eq forall_eq_or_imp ne_eq not_false_eq_true not_true_eq_false Bool.not_true Bool.not_false decide_true decide_false Bool.and_true Bool.true_and Bool.and_false Bool.false_and true_or or_true false_or or_false eq_self Bool.false_eq_true lY iH fY aG fC eV dX dQ cI dP bC aY dD jG Int.toNat_zero List.take_length Hp.set_app Hp.del_app gS fR aA.plain LOp.isCall aA.dplain LOp.isStop eO kK gT lP fL V.gd_true V.gd_false fK eL eM fJ bH bB aR fI eW beq_true beq_false dE dF dG cC cD bI bJ cU eT cF cN dI bL dJ dK eQ eR bM cT bG cE eS bP dH bQ bD gL gJ gK gI dL bU dW cV eH eG eF eE eD bX bW cZ cY cX cA bZ bY eK eJ eI dC dB dA cO cG bT kI Hp.turn fO Option.isNone_some Option.isNone_none oE gD fN aA.plain2 LOp.isApp oH lI lJ iL fU fT
theorem aEN(n:Int)(h:Hp):cJ Tryz.prog 36 [lU n] h (.int .i64 n):=by
 refine bF (fun L=>trivial) fun h' nx hh=>aF L.corollarynum_Num_low fun hd=>?_
 simp only[jL,jM,jA,jB,jN,jO,jP,jQ,V.undef]
 by_cases hn:n=0
 ·subst hn
  (repeat' (first|(with_reducible first|refine stp ?_|refine uP (by decide) ?_|refine uQ (fun _=>?_) (fun _=>?_))|((first|(with_reducible refine uA ?_;first|refine uB rfl ?_ ?_|(first|refine uC rfl ?_|refine uD rfl ?_)|refine uE rfl ?_)|(with_reducible refine uF ?_;first|refine uG rfl ?_ ?_|(first|refine uH rfl ?_|refine uI rfl ?_)|refine uJ rfl ?_|refine uK (uL ?_)|refine uK (uM ?_))|(with_reducible refine uN ?_;refine uO rfl ?_))<;>try simp only[aGn,go_sem,reduceIte,jA,jB,jC,jD,reduceCtorEq,jE,jF])|(with_reducible refine uR ?_;refine uS rfl ?_)|omega))
  refine aJ h' (by repeat (first|exact Hp.le_refl _|refine aU hd ?_ (by omega) _|refine aX hd ?_ (by omega))) ⟨?_,rfl⟩
  simp only[go_sem,reduceIte,jA,jB,jC,jD,reduceCtorEq,jE,jF]
 have e:lU n= .iface 71 (.int .i64 n):=by unfold lU;rw[if_neg hn]
 have e2:(n != 0)=true:=by simpa using hn
 (repeat' (first|(with_reducible first|refine stp ?_|refine uP (by decide) ?_|refine uQ (fun _=>?_) (fun _=>?_))|((first|(with_reducible refine uA ?_;first|refine uB rfl ?_ ?_|(first|refine uC rfl ?_|refine uD rfl ?_)|refine uE rfl ?_)|(with_reducible refine uF ?_;first|refine uG rfl ?_ ?_|(first|refine uH rfl ?_|refine uI rfl ?_)|refine uJ rfl ?_|refine uK (uL ?_)|refine uK (uM ?_))|(with_reducible refine uN ?_;refine uO rfl ?_))<;>try simp only[e,e2,go_sem,reduceIte,jA,jB,jC,jD,reduceCtorEq,jE,jF])|(with_reducible refine uR ?_;refine uS rfl ?_)|omega))
 refine aJ h' (by repeat (first|exact Hp.le_refl _|refine aU hd ?_ (by omega) _|refine aX hd ?_ (by omega))) ⟨?_,rfl⟩
 simp only[go_sem,reduceIte,jA,jB,jC,jD,reduceCtorEq,jE,jF]
def xI(P:Int)(ws:List Wy):Bool:=(decide (14<P)&&decide (P≤200))||decide (40<(ws.length:Int))
theorem aCM(o:Own)(P:Int)(ws:List Wy)(h:Hp):cJ Tryz.prog 20 [mps o P ws] h (.bool (xI P ws)):=by
 have hmf:(mps o P ws).fits (.agg 2)=true:=by simp[mps,V.fits,V.leafy,wys]
 refine bF (fun L=>trivial) fun h' nx hh=>aF L.corollarylaw22_Large_low fun hd=>?_
 simp only[jL,jM,jA,jB,jN,jO,jP,jQ,V.undef]
 unfold xI
 cases h1:decide (14<P)<;>cases h2:decide (P≤200)
 all_goals ((repeat' (first|(with_reducible first|refine stp ?_|refine uP (by decide) ?_|refine uQ (fun _=>?_) (fun _=>?_))|((first|(with_reducible refine uA ?_;first|refine uB rfl ?_ ?_|(first|refine uC rfl ?_|refine uD rfl ?_)|refine uE rfl ?_)|(with_reducible refine uF ?_;first|refine uG rfl ?_ ?_|(first|refine uH rfl ?_|refine uI rfl ?_)|refine uJ rfl ?_|refine uK (uL ?_)|refine uK (uM ?_))|(with_reducible refine uN ?_;refine uO rfl ?_))<;>try simp only[hmf,h1,h2,jK,go_sem,reduceIte,jA,jB,jC,jD,reduceCtorEq,jE,jF])|(with_reducible refine uR ?_;refine uS rfl ?_)|omega)))
 all_goals refine aJ h' (by repeat (first|exact Hp.le_refl _|refine aU hd ?_ (by omega) _|refine aX hd ?_ (by omega))) ⟨?_,rfl⟩
 all_goals simp only[jK,Bool.false_or,Bool.true_or,go_sem,reduceIte,jA,jB,jC,jD,reduceCtorEq,jE,jF]
theorem aDT{P:Int}{ws:List Wy}(h:xI P ws=false):ws.length≤40:=by
 unfold xI at h
 rw[Bool.or_eq_false_iff] at h
 have:=of_decide_eq_false h.2
 omega
end Go.Proofs.YthikfnmcjipobaaGreat
