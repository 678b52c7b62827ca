/-
Texts of this proof,one behind the other. No conditions.
-/
import Derived.Test.YthikfnmcjipobaaGreatKe
import Derived.Test.YthikfnmcjipobaaGreatKg
/-
Contracts of package path,last part:from as a value,Least,All. No conditions.
-/
namespace Go.Proofs.YthikfnmcjipobaaGreat
open Go.Proofs.YthikfnmcjipobaaGreat renaming jV→uA,gZ→uB,eW→uC,eX→uD,cZ→uE,jZ→uF,fO→uG,fC→uH,fD→uI,dA→uJ,gG→uK,fN→uL,hM→uM,kA→uN,fY→uO,bV→uP,kB→uQ,jY→uR,gF→uS
open Nat renaming reduceAdd→jA,reduceSub→jB,reduceLT→jC,reduceLeDiff→jD,reduceEqDiff→jE
open Int renaming reduceToNat→jF,toNat_natCast→jG,natCast_add→jH,natCast_one→jI,natCast_zero→jJ
open List renaming length_map→jK,length_cons→jL,length_nil→jM,replicate_succ→jN,replicate_zero→jO,cons_append→jP,nil_append→jQ
set_option linter.unusedSimpArgs false
set_option linter.unusedVariables false
set_option linter.unusedSectionVars false
open Go.RowKit Go.Sort
attribute [local irreducible] IntKind.wrap
attribute [local go_sem] Option.some.injEq Prod.mk.injEq false_and and_false Bool.true_eq_false mZ kN kY gP kM if_true Bool.true_and mN dZ iS gM dD aA.ok aA.next LOp.ok LOp.next aY.ok aY.out aS.ev bJ iV cG bU cT V.undef Sh.size gK fV cE aA.dok aA.dres LOp.dok LOp.dout lV iN gA eJ List.take_succ_cons List.take_zero List.take_nil List.drop_succ_cons List.drop_zero List.drop_nil List.set_cons_succ List.set_cons_zero List.getD_cons_succ List.getD_cons_zero jL jM List.map_cons List.map_nil List.all_cons List.all_nil List.mem_cons List.not_mem_nil jN jO jP jQ List.append_nil List.isEmpty_cons List.isEmpty_nil dX fI iC Option.getD_some Option.isSome_some Option.isSome_none Nat.add_eq Nat.zero_add Nat.add_zero true_and and_true and_self true_implies implies_true false_implies forall_const forall_eq forall_eq_or_imp ne_eq not_false_eq_true not_true_eq_false Bool.not_true Bool.not_false decide_true decide_false Bool.and_true Bool.true_and Bool.and_false Bool.false_and true_or or_true false_or or_false eq_self Bool.false_eq_true mO kC gB aD fF eH eG eB cS eA bD bB cX jG Int.toNat_zero List.take_length Hp.set_app Hp.del_app iA fU aA.plain LOp.isCall aA.dplain LOp.isStop eV lH iB mE fP V.gd_true V.gd_false fS eT eU fR bK bC aX fM eK beq_true beq_false dK dL dM cM cN bL bM cV fB cP dT dQ bN dR dU eY eZ bO dS bI cO fA bW dP bX bE gX gV gW gU dV cR fE cW eP eO eN eM eL cI cH dG dF dE cL cK cJ eS eR eQ dJ dI dH dC cQ bY lF Hp.turn fQ Option.isNone_some Option.isNone_none qB gO fW aA.plain2 LOp.isApp qC mJ mK kX gI gH
noncomputable def rQ(n:Nat)(l:List We)(a:Nat):V:= .sl .leaf .free ((rR n l a).map fun m=>lst (.agg 2) (m.map Pa.v))
theorem aEw(ow:Own)(n:Nat)(l:List We)(a:Nat)(hfit:aBq n l)(ha:a<n)(hn:n≤200)(hl:l.length≤1000)(h:Hp):
 bQ Tryz.prog 121 [.agg [.int .i64 n,wes ow l], .int .i64 a] h (rQ n l a):=by
 refine bF (fun L=>?_) fun h' nx hh=>(sU (G:=fun ls=>ls=(rR n l a).map (List.map Pa.v)) (aEv ow n l a hfit ha hn hl h' nx)).mono ?_
 ·unfold rQ
  simp only[V.names,true_and,and_true]
  refine⟨fun n e=>(by cases e),?_⟩
  exact eE (f:=fun m:List Pa=>lst (.agg 2) (m.map Pa.v)) (fun m=>iE (fun L=>eE (Pa.names_v L) m) L) _
 rintro v h'' nx2 hnx ⟨ls,rfl,rfl,rfl⟩
 refine⟨?_,rfl⟩
 simp only[rQ,List.map_map]
 rfl
/-
Contract of path.All:the least paths between all places,as a table. No conditions.
-/
noncomputable def oI(n:Nat)(l:List We)(i:Nat):List V:=(List.range i).map (rQ n l)
theorem aCA(o:Own){P:Int}{ws:List Wy}{n:Nat}{l:List We}(R:qO P ws n l)(hl:ws.length≤1000)(h':Hp)(nx:Nat):
 bH Tryz.prog 72 [mps o P ws] h' nx fun v h'' _=>∃o2,v= .sl .leaf o2 (oI n l n)∧Acc h'' nx o2 (oI n l n)∧Hp.same nx h' h'':=by
 have hr:pY P ws=true:=(sA P ws).2 ⟨n,l,R⟩
 have hn:=R.le
 have hmf:(mps o P ws).fits (.agg 2)=true:=by simp[mps,V.fits,V.leafy,wys]
 have hlw:l.length≤1000:=by have:=R.eq;rw[this] at hl;simpa using hl
 have hP:=R.pl
 subst hP
 have hm:mps o n ws= .agg [.int .i64 n,wes o l]:=by rw[R.eq];simp only[mps,wys,wes,List.map_map];rfl
 have hf:∀a',a'<n→∀h,bQ Tryz.prog 121 [mps o n ws, .int .i64 a'] h (rQ n l a'):=fun a' ha h=>by rw[hm];exact aEw o n l a' R.fit ha hn hlw h
 refine aG L.path_All_low fun hd=>?_
 simp only[jL,jM,jA,jB,jN,jO,jP,jQ,V.undef]
 (repeat' (first|(with_reducible first|refine stp ?_|refine uP (by decide) ?_|refine uQ (fun _=>?_) (fun _=>?_))|((first|(with_reducible refine uA ?_;first|refine uB rfl ?_ ?_|refine aO (rJ o n ws hl _) rfl (aU _) ?_|(first|refine uC rfl ?_|refine uD rfl ?_)|refine uE rfl ?_)|(with_reducible refine uF ?_;first|refine uG rfl ?_ ?_|(first|refine uH rfl ?_|refine uI rfl ?_)|refine uJ rfl ?_|refine uK (uL ?_)|refine uK (uM ?_))|(with_reducible refine uN ?_;refine uO rfl ?_))<;>try simp only[hmf,hr,decide_true,decide_false,go_sem,reduceIte,jA,jB,jC,jD,reduceCtorEq,jE,jF])|(with_reducible refine uR ?_;refine uS rfl ?_)|omega))
 refine cA (fun q:Nat×Own=>aD 21 0 [(1, .ptr nx (.agg 2) 0 0),(3, .sl .leaf q.2 (oI n l q.1)),(9, .int .i64 n),(10, .int .i64 q.1)])
  (fun q hp nx1=>q.1≤n∧nx+1≤nx1∧aT hp nx1∧Hp.same (nx+1) (h'.set nx (.arr (.agg 2) [mps o n ws])) hp∧Acc hp (nx+1) q.2 (oI n l q.1))
  (fun q=>n-q.1) (0, .nil) ⟨Nat.zero_le _,Nat.le_refl _,(by(try dsimp only);repeat (first|exact aT.up hd (by omega)|refine aT.set2 ?_ (by omega) _|refine aT.del ?_|refine aT.delO ?_ _)),Hp.same.rfl',Acc.nil⟩ ?_ ?_
 ·simp only[WkL,aD,jH,jI,jJ,oI,List.range_zero,List.map_nil,go_sem,reduceIte,jA,jB,jC,jD,reduceCtorEq,jE,jF]
 rintro⟨i,oo⟩ hp nx1 ⟨hi,hnx,hdm,hsm,hacc⟩
 generalize hQ:fG _ _ _ _ _=Q0
 dsimp only at hi hacc
 have c1:hp nx=some (.arr (.agg 2) [mps o n ws]):=by rw[hsm nx (by omega)];simp only[go_sem,reduceIte,jA,jB,jC,jD,reduceCtorEq,jE,jF]
 have hlt0:nx<nx1:=by omega
 have hlen:(oI n l i).length=i:=by simp[oI]
 simp only[aD,go_sem,reduceIte,jA,jB,jC,jD,reduceCtorEq,jE,jF]
 rcases Nat.lt_or_ge i n with hlt|hge
 ·have hc:decide ((i:Int)<(n:Int))=true:=by simpa using hlt
  have hw:IntKind.i64.wrap ((i:Int)+1)=((i+1:Nat):Int):=by rw[bT]<;>omega
  have hnn:oI n l (i+1)=oI n l i++[rQ n l i]:=by simp[oI,List.range_succ]
  have hfl:(rQ n l i).leafy=true:=rfl
  (repeat' (first|(with_reducible first|refine stp ?_|refine uP (by decide) ?_|refine uQ (fun _=>?_) (fun _=>?_))|((first|(with_reducible refine uA ?_;first|refine uB rfl ?_ ?_|refine aO (hf i hlt _) rfl (aU _) ?_|refine qG (n0:=nx+1) rfl (by(try dsimp only);repeat' (first|exact hacc|exact Acc.new _ (by simp) (by omega)|exact mF.new (by omega)|exact aT.ntip hdm (by omega)|exact kU|exact lY (by assumption)|refine kR (by omega) ?_|refine kT ?_|refine Acc.set ?_ ?_ _|refine mF.set ?_ ?_ _)) rfl (by simp) (by simp only[hlen,hfl,c1,hlt0,hc,hlt,hw,hmf,hfl,hlen,go_sem,reduceIte,jA,jB,jC,jD,reduceCtorEq,jE,jF];try omega) ?_|(first|refine uC rfl ?_|refine uD rfl ?_)|refine uE rfl ?_)|(with_reducible refine uF ?_;first|refine uG rfl ?_ ?_|(first|refine uH rfl ?_|refine uI rfl ?_)|refine uJ rfl ?_|refine uK (uL ?_)|refine uK (uM ?_))|(with_reducible refine uN ?_;refine uO rfl ?_))<;>try simp only[c1,hlt0,hc,hlt,hw,hmf,hfl,hlen,go_sem,reduceIte,jA,jB,jC,jD,reduceCtorEq,jE,jF])|(with_reducible refine uR ?_;refine uS rfl ?_)|omega))
  rw[←hQ]
  refine aK (i+1, .tok (nx1+1)) (by dsimp only;omega) ⟨hlt,by omega,(by(try dsimp only);repeat (first|exact aT.up hdm (by omega)|refine aT.set2 ?_ (by omega) _|refine aT.del ?_|refine aT.delO ?_ _)),(by(try dsimp only);repeat (first|exact hsm|refine bR ?_ (by omega) _|refine bS ?_ (by omega)|refine lC ?_ (fun id e=>by have:=(hacc).ge id e;omega))),?_⟩ ?_
  ·dsimp only;rw[hnn];exact Acc.new _ (by simp) (by omega)
  simp only[WkL,aD,jH,jI,jJ,hnn,go_sem,reduceIte,jA,jB,jC,jD,reduceCtorEq,jE,jF]
 have hc:decide ((i:Int)<(n:Int))=false:=by simpa using hge
 (repeat' (first|(with_reducible first|refine stp ?_|refine uP (by decide) ?_|refine uQ (fun _=>?_) (fun _=>?_))|((first|(with_reducible refine uA ?_;first|refine uB rfl ?_ ?_|(first|refine uC rfl ?_|refine uD rfl ?_)|refine uE rfl ?_)|(with_reducible refine uF ?_;first|refine uG rfl ?_ ?_|(first|refine uH rfl ?_|refine uI rfl ?_)|refine uJ rfl ?_|refine uK (uL ?_)|refine uK (uM ?_))|(with_reducible refine uN ?_;refine uO rfl ?_))<;>try simp only[hc,go_sem,reduceIte,jA,jB,jC,jD,reduceCtorEq,jE,jF])|(with_reducible refine uR ?_;refine uS rfl ?_)|omega))
 rw[←hQ]
 (repeat' (first|(with_reducible first|refine stp ?_|refine uP (by decide) ?_|refine uQ (fun _=>?_) (fun _=>?_))|((first|(with_reducible refine uA ?_;first|refine uB rfl ?_ ?_|(first|refine uC rfl ?_|refine uD rfl ?_)|refine uE rfl ?_)|(with_reducible refine uF ?_;first|refine uG rfl ?_ ?_|(first|refine uH rfl ?_|refine uI rfl ?_)|refine uJ rfl ?_|refine uK (uL ?_)|refine uK (uM ?_))|(with_reducible refine uN ?_;refine uO rfl ?_))<;>try simp only[hc,go_sem,reduceIte,jA,jB,jC,jD,reduceCtorEq,jE,jF])|(with_reducible refine uR ?_;refine uS rfl ?_)|omega))
 refine aN hp (Hp.le_refl _) ⟨oo,?_,?_,fun x hx=>by rw[hsm x (by omega)];unfold Hp.set;rw[if_neg (by omega)]⟩
 ·simp only[go_sem,reduceIte,jA,jB,jC,jD,reduceCtorEq,jE,jF]
  rw[show i=n by omega]
 rw[show i=n by omega] at hacc
 rcases hacc with h|⟨h1,id,h2,h3,h4⟩
 ·exact .inl h
 exact .inr ⟨h1,id,by omega,h3,h4⟩
end Go.Proofs.YthikfnmcjipobaaGreat
/-
Least paths:they are there;one behind the other;with more ways none is farther. Plain laws. No conditions.
-/
namespace Go.Proofs.YthikfnmcjipobaaGreat
set_option linter.unusedSimpArgs false
set_option linter.unusedVariables false
set_option linter.unusedSectionVars false
open Go.RowKit Go.Sort
def adds(l:List We):Int:=(l.map fun w=>w.p.a).sum
theorem aBu{ws:List We}:∀{l:List We} {a k:Nat},sV ws a l k→∀w∈l,w∈ws
 | [],_,_,_,w,hw=>by cases hw
 |v::l,_,_,⟨h1,_,h3⟩,w,hw=>by
  rcases List.mem_cons.1 hw with rfl|hw
  ·exact h1
  exact aBu h3 w hw
theorem aCv(ws:List Wy):dW (dW ws)=dW ws:=
 Inc.unique Wy.ord (zB _) (zB _) fun x=>by rw[pJ]
theorem aBM(P:Int)(ws:List Wy):hZ P (dW ws)=hZ P ws:=by
 have e:(∃w∈dW ws,w.fit P=false)↔∃w∈ws,w.fit P=false:=by simp only[pJ]
 unfold hZ
 rw[aCv]
 simp only[e]
theorem aCY{P:Int}{ws:List Wy}(h:(hZ P ws).2=0):(hZ P ws).1=(P,dW ws):=by
 unfold hZ at h⊢
 split at h
 ·cases h
 rename_i h1
 split at h
 ·cases h
 rename_i h2
 split at h
 ·cases h
 rename_i h3
 rw[if_neg h1,if_neg h2,if_neg h3]
theorem aBL{P:Int}{ws:List Wy}(h:(hZ P ws).2=0):∃n l,qO P (dW ws) n l:=by
 refine(sA P (dW ws)).1 ?_
 unfold pY
 rw[decide_eq_true_eq,aBM]
 exact⟨h,by rw[aCY h]⟩
theorem aEK(l:List We):iL (l.map We.wy)=adds l:=by
 unfold iL adds
 rw[List.map_map]
 rfl
theorem qO.adds{P:Int}{ws:List Wy}{n:Nat}{l:List We}(R:qO P ws n l):Proofs.YthikfnmcjipobaaGreat.adds l≤1048576:=by
 have:=R.sum
 rw[R.eq,aEK] at this
 exact this
end Go.Proofs.YthikfnmcjipobaaGreat
/-
corollarylaw22's alive and Large,corollarynum.Num;Least,whatever the map. No conditions.
-/
namespace Go.Proofs.YthikfnmcjipobaaGreat
open Go.Proofs.YthikfnmcjipobaaGreat renaming jV→uA,gZ→uB,eW→uC,eX→uD,cZ→uE,jZ→uF,fO→uG,fC→uH,fD→uI,dA→uJ,gG→uK,fN→uL,hM→uM,kA→uN,fY→uO,bV→uP,kB→uQ,jY→uR,gF→uS
open Nat renaming reduceAdd→jA,reduceSub→jB,reduceLT→jC,reduceLeDiff→jD,reduceEqDiff→jE
open Int renaming reduceToNat→jF,toNat_natCast→jG,natCast_add→jH,natCast_one→jI,natCast_zero→jJ
open List renaming length_map→jK,length_cons→jL,length_nil→jM,replicate_succ→jN,replicate_zero→jO,cons_append→jP,nil_append→jQ
set_option linter.unusedSimpArgs false
set_option linter.unusedVariables false
set_option linter.unusedSectionVars false
open Go.RowKit Go.Sort
attribute [local irreducible] IntKind.wrap
attribute [local go_sem] Option.some.injEq Prod.mk.injEq false_and and_false Bool.true_eq_false mZ kN kY gP kM if_true Bool.true_and mN dZ iS gM dD aA.ok aA.next LOp.ok LOp.next aY.ok aY.out aS.ev bJ iV cG bU cT V.undef Sh.size gK fV cE aA.dok aA.dres LOp.dok LOp.dout lV iN gA eJ List.take_succ_cons List.take_zero List.take_nil List.drop_succ_cons List.drop_zero List.drop_nil List.set_cons_succ List.set_cons_zero List.getD_cons_succ List.getD_cons_zero jL jM List.map_cons List.map_nil List.all_cons List.all_nil List.mem_cons List.not_mem_nil jN jO jP jQ List.append_nil List.isEmpty_cons List.isEmpty_nil dX fI iC Option.getD_some Option.isSome_some Option.isSome_none Nat.add_eq Nat.zero_add Nat.add_zero true_and and_true and_self true_implies implies_true false_implies forall_const forall_eq forall_eq_or_imp ne_eq not_false_eq_true not_true_eq_false Bool.not_true Bool.not_false decide_true decide_false Bool.and_true Bool.true_and Bool.and_false Bool.false_and true_or or_true false_or or_false eq_self Bool.false_eq_true mO kC gB aD fF eH eG eB cS eA bD bB cX jG Int.toNat_zero List.take_length Hp.set_app Hp.del_app iA fU aA.plain LOp.isCall aA.dplain LOp.isStop eV lH iB mE fP V.gd_true V.gd_false fS eT eU fR bK bC aX fM eK beq_true beq_false dK dL dM cM cN bL bM cV fB cP dT dQ bN dR dU eY eZ bO dS bI cO fA bW dP bX bE gX gV gW gU dV cR fE cW eP eO eN eM eL cI cH dG dF dE cL cK cJ eS eR eQ dJ dI dH dC cQ bY lF Hp.turn fQ Option.isNone_some Option.isNone_none qB gO fW aA.plain2 LOp.isApp qC mJ mK kX gI gH
end Go.Proofs.YthikfnmcjipobaaGreat
