/-
Texts of this proof,one behind the other. No conditions.
-/
import Derived.Test.YthikfnmcjipobaaGreatKe
import Derived.Test.YthikfnmcjipobaaGreatKm
import Derived.Test.YthikfnmcjipobaaGreatKg
import Derived.Test.YthikfnmcjipobaaGreatKf
import Derived.Test.YthikfnmcjipobaaGreatKl
import Derived.Test.YthikfnmcjipobaaGreatKh
/-
Counts in memory:Get,Still,the tests of Apply. No conditions.
-/
namespace Go.Proofs.YthikfnmcjipobaaGreat
open Go.Proofs.YthikfnmcjipobaaGreat renaming iW→uA,gV→uB,fA→uC,fB→uD,dO→uE,iZ→uF,fQ→uG,fC→uH,fD→uI,dP→uJ,fZ→uK,fP→uL,gZ→uM,jS→uN,gB→uO,bT→uP,kK→uQ,iY→uR,gE→uS
open Nat renaming reduceAdd→jA,reduceSub→jB,reduceLT→jC,reduceLeDiff→jD,reduceEqDiff→jE
open Int renaming reduceToNat→jF,toNat_natCast→jG,natCast_add→jH,natCast_one→jI,natCast_zero→jJ
open List renaming length_map→jK,length_cons→jL,length_nil→jM,replicate_succ→jN,replicate_zero→jO,cons_append→jP,nil_append→jQ
set_option linter.unusedSimpArgs false
set_option linter.unusedVariables false
set_option linter.unusedSectionVars false
open Go.RowKit
attribute [local irreducible] IntKind.wrap
attribute [local go_sem] Option.some.injEq Prod.mk.injEq false_and and_false Bool.true_eq_false mP jR jX gG iV if_true Bool.true_and mF dS iH gL dQ aA.ok aA.next LOp.ok LOp.next bC.ok bC.out aQ.ev bN iI cH bO cO V.undef Sh.size gH fW cK aA.dok aA.dres LOp.dok LOp.dout lI iD gI eX List.take_succ_cons List.take_zero List.take_nil List.drop_succ_cons List.drop_zero List.drop_nil List.set_cons_succ List.set_cons_zero List.getD_cons_succ List.getD_cons_zero jL jM List.map_cons List.map_nil List.all_cons List.all_nil List.mem_cons List.not_mem_nil jN jO jP jQ List.append_nil List.isEmpty_cons List.isEmpty_nil dW fJ hM Option.getD_some Option.isSome_some Option.isSome_none Nat.add_eq Nat.zero_add Nat.add_zero true_and and_true and_self true_implies implies_true false_implies forall_const forall_eq forall_eq_or_imp ne_eq not_false_eq_true not_true_eq_false Bool.not_true Bool.not_false decide_true decide_false Bool.and_true Bool.true_and Bool.and_false Bool.false_and true_or or_true false_or or_false eq_self Bool.false_eq_true mK iO gC aD fH eT eB dU cL dT aZ aX dN jG Int.toNat_zero List.take_length Hp.set_app Hp.del_app gW fV aA.plain LOp.isCall aA.dplain LOp.isStop eM kT gY lY fN V.gd_true V.gd_false fM eK eL fL bG aY aU fK eS beq_true beq_false dD dE dF cB cC bH bI cP eQ cE dK dH bJ dI dL eN eO bK dJ bF cD eP bP dG bQ bB gQ gO gP gN dM cG dX cR eG eF eE eD eC bX bW cZ cY cX cA bZ bY eJ eI eH dC dB dA cQ cF bS kM Hp.turn fT Option.isNone_some Option.isNone_none oL gF fO aA.plain2 LOp.isApp oM lP lQ iQ fS fR
def qU(P:Int)(wv lv:V)(m:Nat):V:= .agg [.int .i64 P,wv,lv, .map m]
structure hZ(h:Hp)(cb m:Nat)(P:Int)(wv lv:V)(l:List CE)(c:Nat):Prop where
 cell:h cb=some (.arr (.agg 4) [qU P wv lv m])
 mp:h m=some (.mp (l.map CE.me) c)
 wf:wv.leafy=true
 lf:lv.leafy=true
theorem aEZ(x:Cg)(h:Hp):cM Tryz.prog 75 [x.v] h (.bool (!(decide (-1000000≤x.d)&&decide (x.d≤1000000)))):=by
 refine bL (fun L=>trivial) fun h' nx hh=>aG L.count_Counts_Apply_2_low fun hd=>?_
 simp only[jL,jM,jA,jB,jN,jO,jP,jQ,V.undef]
 (repeat' (first|(with_reducible first|refine stp ?_|refine uP (by decide) ?_|refine uQ (fun _=>?_) (fun _=>?_))|((first|(with_reducible refine uA ?_;first|refine uB rfl ?_ ?_|refine aJ (vW x.d _) rfl (aS _) ?_|(first|refine uC rfl ?_|refine uD rfl ?_)|refine uE rfl ?_)|(with_reducible refine uF ?_;first|refine uG rfl ?_ ?_|(first|refine uH rfl ?_|refine uI rfl ?_)|refine uJ rfl ?_|refine uK (uL ?_)|refine uK (uM ?_))|(with_reducible refine uN ?_;refine uO rfl ?_))<;>try simp only[Cg.v,go_sem,reduceIte,jA,jB,jC,jD,reduceCtorEq,jE,jF])|(with_reducible refine uR ?_;refine uS rfl ?_)|omega))
 exact aM h' (by repeat (first|exact Hp.le_refl _|refine aW hd ?_ (by omega) _|refine bD hd ?_ (by omega))) ⟨rfl,rfl⟩
def mX(P:Int)(x:Cg):Bool:=decide (x.s.p<0)||decide (x.s.p≥P)|| !x.s.t.ok
theorem aBK(x:Cg){h:Hp}{cb cp m c:Nat}{P:Int}{wv lv:V}{l:List CE}(hc:hZ h cb m P wv lv l c)(hp:h cp=some (.arr .leaf [.ptr cb (.agg 4) 0 0])):
 cM Tryz.prog 73 [x.v, .ptr cp .leaf 0 0] h (.bool (mX P x)):=by
 refine bL (fun L=>trivial) fun h' nx hh=>aG L.count_Counts_Apply_1_low fun hd=>?_
 simp only[jL,jM,jA,jB,jN,jO,jP,jQ,V.undef]
 have c1:=hh _ _ hc.cell rfl
 have c2:=hh _ _ hp rfl
 have n1:cb<nx:=hd _ _ c1
 have n2:cp<nx:=hd _ _ c2
 have e1:(cb=nx)=False:=eq_false (by omega)
 have e2:(cp=nx)=False:=eq_false (by omega)
 have hrt:∀h,cM Tryz.prog 74 [.agg [.int .i64 x.s.t.e, .int .i64 x.s.t.r]] h (.bool x.s.t.ok):=fun h=>tE x.s.t h
 unfold mX
 cases h1:decide (x.s.p<0) with
 |true=>
  (repeat' (first|(with_reducible first|refine stp ?_|refine uP (by decide) ?_|refine uQ (fun _=>?_) (fun _=>?_))|((first|(with_reducible refine uA ?_;first|refine uB rfl ?_ ?_|(first|refine uC rfl ?_|refine uD rfl ?_)|refine uE rfl ?_)|(with_reducible refine uF ?_;first|refine uG rfl ?_ ?_|refine cT (hrt _) rfl (dR _) ?_|(first|refine uH rfl ?_|refine uI rfl ?_)|refine uJ rfl ?_|refine uK (uL ?_)|refine uK (uM ?_))|(with_reducible refine uN ?_;refine uO rfl ?_))<;>try simp only[Cg.v,qU,c1,c2,n1,n2,e1,e2,h1,Bool.true_or,Bool.or_true,go_sem,reduceIte,jA,jB,jC,jD,reduceCtorEq,jE,jF])|(with_reducible refine uR ?_;refine uS rfl ?_)|omega))
  exact aM h' (by repeat (first|exact Hp.le_refl _|refine aW hd ?_ (by omega) _|refine bD hd ?_ (by omega))) ⟨rfl,rfl⟩
 |false=>
  cases h2:decide (x.s.p≥P) with
  |true=>
   (repeat' (first|(with_reducible first|refine stp ?_|refine uP (by decide) ?_|refine uQ (fun _=>?_) (fun _=>?_))|((first|(with_reducible refine uA ?_;first|refine uB rfl ?_ ?_|(first|refine uC rfl ?_|refine uD rfl ?_)|refine uE rfl ?_)|(with_reducible refine uF ?_;first|refine uG rfl ?_ ?_|refine cT (hrt _) rfl (dR _) ?_|(first|refine uH rfl ?_|refine uI rfl ?_)|refine uJ rfl ?_|refine uK (uL ?_)|refine uK (uM ?_))|(with_reducible refine uN ?_;refine uO rfl ?_))<;>try simp only[Cg.v,qU,c1,c2,n1,n2,e1,e2,h1,h2,Bool.true_or,Bool.or_true,Bool.false_or,go_sem,reduceIte,jA,jB,jC,jD,reduceCtorEq,jE,jF])|(with_reducible refine uR ?_;refine uS rfl ?_)|omega))
   exact aM h' (by repeat (first|exact Hp.le_refl _|refine aW hd ?_ (by omega) _|refine bD hd ?_ (by omega))) ⟨rfl,rfl⟩
  |false=>
   (repeat' (first|(with_reducible first|refine stp ?_|refine uP (by decide) ?_|refine uQ (fun _=>?_) (fun _=>?_))|((first|(with_reducible refine uA ?_;first|refine uB rfl ?_ ?_|(first|refine uC rfl ?_|refine uD rfl ?_)|refine uE rfl ?_)|(with_reducible refine uF ?_;first|refine uG rfl ?_ ?_|refine cT (hrt _) rfl (dR _) ?_|(first|refine uH rfl ?_|refine uI rfl ?_)|refine uJ rfl ?_|refine uK (uL ?_)|refine uK (uM ?_))|(with_reducible refine uN ?_;refine uO rfl ?_))<;>try simp only[Cg.v,qU,c1,c2,n1,n2,e1,e2,h1,h2,Bool.true_or,Bool.or_true,Bool.false_or,go_sem,reduceIte,jA,jB,jC,jD,reduceCtorEq,jE,jF])|(with_reducible refine uR ?_;refine uS rfl ?_)|omega))
   exact aM h' (by repeat (first|exact Hp.le_refl _|refine aW hd ?_ (by omega) _|refine bD hd ?_ (by omega))) ⟨rfl,rfl⟩
theorem tC{h:Hp}{cb m c:Nat}{P:Int}{wv lv:V}{l:List CE}(hc:hZ h cb m P wv lv l c):
 cM Tryz.prog 23 [.ptr cb (.agg 4) 0 0] h (.bool (decide (l=[]))):=by
 refine bL (fun L=>trivial) fun h' nx hh=>aG L.count_Counts_Still_low fun hd=>?_
 simp only[jL,jM,jA,jB,jN,jO,jP,jQ,V.undef]
 have c1:=hh _ _ hc.cell rfl
 have c2:=hh _ _ hc.mp rfl
 have hz:(((l.length:Nat):Int)==0)=decide (l=[]):=by
  rw[Bool.eq_iff_iff];cases l<;>simp;omega
 (repeat' (first|(with_reducible first|refine stp ?_|refine uP (by decide) ?_|refine uQ (fun _=>?_) (fun _=>?_))|((first|(with_reducible refine uA ?_;first|refine uB rfl ?_ ?_|(first|refine uC rfl ?_|refine uD rfl ?_)|refine uE rfl ?_)|(with_reducible refine uF ?_;first|refine uG rfl ?_ ?_|(first|refine uH rfl ?_|refine uI rfl ?_)|refine uJ rfl ?_|refine uK (uL ?_)|refine uK (uM ?_))|(with_reducible refine uN ?_;refine uO rfl ?_))<;>try simp only[qU,c1,c2,hz,jK,go_sem,reduceIte,jA,jB,jC,jD,reduceCtorEq,jE,jF])|(with_reducible refine uR ?_;refine uS rfl ?_)|omega))
 exact aM h' (by repeat (first|exact Hp.le_refl _|refine aW hd ?_ (by omega) _|refine bD hd ?_ (by omega))) ⟨rfl,rfl⟩
end Go.Proofs.YthikfnmcjipobaaGreat
/-
Counts:Apply. No conditions.
-/
namespace Go.Proofs.YthikfnmcjipobaaGreat
open Go.Proofs.YthikfnmcjipobaaGreat renaming iW→uA,gV→uB,fA→uC,fB→uD,dO→uE,iZ→uF,fQ→uG,fC→uH,fD→uI,dP→uJ,fZ→uK,fP→uL,gZ→uM,jS→uN,gB→uO,bT→uP,kK→uQ,iY→uR,gE→uS
open Nat renaming reduceAdd→jA,reduceSub→jB,reduceLT→jC,reduceLeDiff→jD,reduceEqDiff→jE
open Int renaming reduceToNat→jF,toNat_natCast→jG,natCast_add→jH,natCast_one→jI,natCast_zero→jJ
open List renaming length_map→jK,length_cons→jL,length_nil→jM,replicate_succ→jN,replicate_zero→jO,cons_append→jP,nil_append→jQ
set_option linter.unusedSimpArgs false
set_option linter.unusedVariables false
set_option linter.unusedSectionVars false
open Go.RowKit Go.Shelf
attribute [local irreducible] IntKind.wrap
attribute [local go_sem] Option.some.injEq Prod.mk.injEq false_and and_false Bool.true_eq_false mP jR jX gG iV if_true Bool.true_and mF dS iH gL dQ aA.ok aA.next LOp.ok LOp.next bC.ok bC.out aQ.ev bN iI cH bO cO V.undef Sh.size gH fW cK aA.dok aA.dres LOp.dok LOp.dout lI iD gI eX List.take_succ_cons List.take_zero List.take_nil List.drop_succ_cons List.drop_zero List.drop_nil List.set_cons_succ List.set_cons_zero List.getD_cons_succ List.getD_cons_zero jL jM List.map_cons List.map_nil List.all_cons List.all_nil List.mem_cons List.not_mem_nil jN jO jP jQ List.append_nil List.isEmpty_cons List.isEmpty_nil dW fJ hM Option.getD_some Option.isSome_some Option.isSome_none Nat.add_eq Nat.zero_add Nat.add_zero true_and and_true and_self true_implies implies_true false_implies forall_const forall_eq forall_eq_or_imp ne_eq not_false_eq_true not_true_eq_false Bool.not_true Bool.not_false decide_true decide_false Bool.and_true Bool.true_and Bool.and_false Bool.false_and true_or or_true false_or or_false eq_self Bool.false_eq_true mK iO gC aD fH eT eB dU cL dT aZ aX dN jG Int.toNat_zero List.take_length Hp.set_app Hp.del_app gW fV aA.plain LOp.isCall aA.dplain LOp.isStop eM kT gY lY fN V.gd_true V.gd_false fM eK eL fL bG aY aU fK eS beq_true beq_false dD dE dF cB cC bH bI cP eQ cE dK dH bJ dI dL eN eO bK dJ bF cD eP bP dG bQ bB gQ gO gP gN dM cG dX cR eG eF eE eD eC bX bW cZ cY cX cA bZ bY eJ eI eH dC dB dA cQ cF bS kM Hp.turn fT Option.isNone_some Option.isNone_none oL gF fO aA.plain2 LOp.isApp oM lP lQ iQ fS fR
theorem nF:aH Tryz.prog 77=some (LB.ContainsFunc (.agg 4) 123):=by kernel_rfl
theorem pM:aH Tryz.prog 123=some (LB.IndexFunc (.agg 4)):=by kernel_rfl
def kA(n:Int):Bool:= !(decide (-1000000≤n)&&decide (n≤1000000))
def dV(P:Int)(l:List CE)(c:Nat)(r:List Cg):Int×List CE×Nat:=
 if r.any (mX P)=true then (2,l,c) else if r.any (fun x=>kA x.d)=true then (1,l,c) else
 if (gR l c r).1.any (fun y=>kA y.n)=true then (1,l,c) else (0,(gR l c r).1,(gR l c r).2)
set_option maxRecDepth 100000 in
set_option maxHeartbeats 4000000 in
theorem aAu(o:Own)(r:List Cg)(hr:r.length≤100000)(l:List CE)(c:Nat)(hok:iE l c)(P:Int)(wv lv:V)(cb m:Nat)(h':Hp)(nx:Nat)(hc:hZ h' cb m P wv lv l c):
 bM Tryz.prog 22 [.ptr cb (.agg 4) 0 0,cgs o r] h' nx fun v h'' _=>v=nL (dV P l c r).1∧
  (((dV P l c r).1≠0∧h''=h')∨((dV P l c r).1=0∧∃m2,nx≤m2∧h''=(h'.set m2 (.mp ((dV P l c r).2.1.map CE.me) (dV P l c r).2.2)).set cb (.arr (.agg 4) [qU P wv lv m2]))):=by
 refine aG L.count_Counts_Apply_low fun hd=>?_
 simp only[jL,jM,jA,jB,jN,jO,jP,jQ,V.undef]
 have hcb:=hc.cell
 have hcm:=hc.mp
 have n1:cb<nx:=hd _ _ hcb
 have n2:m<nx:=hd _ _ hcm
 have e1:(cb=nx)=False:=eq_false (by omega)
 have hbase:hZ (h'.set nx (.arr .leaf [.ptr cb (.agg 4) 0 0])) cb m P wv lv l c:=⟨by simp only[Hp.set];rw[if_neg (by omega)];exact hcb,by simp only[Hp.set];rw[if_neg (by omega)];exact hcm,hc.wf,hc.lf⟩
 have hst:cM Tryz.prog 77 [.sl (.agg 4) o (r.map Cg.v), .fn (.func 73) [] [.ptr nx .leaf 0 0]] (h'.set nx (.arr .leaf [.ptr cb (.agg 4) 0 0])) (.bool (r.any (mX P))):=
  kD Cg.v Cg.fits_v nF pM (mX P) o r _ [.ptr nx .leaf 0 0] _ (fun x _=>aBK x hbase (by simp[Hp.set])) (by omega)
 have hwd:cM Tryz.prog 77 [.sl (.agg 4) o (r.map Cg.v), .fn (.func 75) [] []] (h'.set nx (.arr .leaf [.ptr cb (.agg 4) 0 0])) (.bool (r.any fun x=>kA x.d)):=
  kD Cg.v Cg.fits_v nF pM (fun x=>kA x.d) o r _ [] _ (fun x _=>aEZ x _) (by omega)
 unfold dV
 cases hs:r.any (mX P) with
 |true=>
  rw[hs] at hst
  (repeat' (first|(with_reducible first|refine stp ?_|refine uP (by decide) ?_|refine uQ (fun _=>?_) (fun _=>?_))|((first|(with_reducible refine uA ?_;first|refine uB rfl ?_ ?_|refine aJ (hst) rfl (aS _) ?_|(first|refine uC rfl ?_|refine uD rfl ?_)|refine uE rfl ?_)|(with_reducible refine uF ?_;first|refine uG rfl ?_ ?_|(first|refine uH rfl ?_|refine uI rfl ?_)|refine uJ rfl ?_|refine uK (uL ?_)|refine uK (uM ?_))|(with_reducible refine uN ?_;refine uO rfl ?_))<;>try simp only[cgs,go_sem,reduceIte,jA,jB,jC,jD,reduceCtorEq,jE,jF])|(with_reducible refine uR ?_;refine uS rfl ?_)|omega))
  exact aM h' (by repeat (first|exact Hp.le_refl _|refine aW hd ?_ (by omega) _|refine bD hd ?_ (by omega))) ⟨rfl, .inl ⟨by simp,rfl⟩⟩
 |false=>
  rw[hs] at hst
  cases hw:r.any (fun x=>kA x.d) with
  |true=>
   rw[hw] at hwd
   (repeat' (first|(with_reducible first|refine stp ?_|refine uP (by decide) ?_|refine uQ (fun _=>?_) (fun _=>?_))|((first|(with_reducible refine uA ?_;first|refine uB rfl ?_ ?_|refine aJ (hst) rfl (aS _) ?_|refine aJ (hwd) rfl (aS _) ?_|(first|refine uC rfl ?_|refine uD rfl ?_)|refine uE rfl ?_)|(with_reducible refine uF ?_;first|refine uG rfl ?_ ?_|(first|refine uH rfl ?_|refine uI rfl ?_)|refine uJ rfl ?_|refine uK (uL ?_)|refine uK (uM ?_))|(with_reducible refine uN ?_;refine uO rfl ?_))<;>try simp only[cgs,go_sem,reduceIte,jA,jB,jC,jD,reduceCtorEq,jE,jF])|(with_reducible refine uR ?_;refine uS rfl ?_)|omega))
   exact aM h' (by repeat (first|exact Hp.le_refl _|refine aW hd ?_ (by omega) _|refine bD hd ?_ (by omega))) ⟨rfl, .inl ⟨by simp,rfl⟩⟩
  |false=>
   rw[hw] at hwd
   simp only[Bool.false_eq_true,if_false]
   (repeat' (first|(with_reducible first|refine stp ?_|refine uP (by decide) ?_|refine uQ (fun _=>?_) (fun _=>?_))|((first|(with_reducible refine uA ?_;first|refine uB rfl ?_ ?_|refine aJ (hst) rfl (aS _) ?_|refine aJ (hwd) rfl (aS _) ?_|(first|refine uC rfl ?_|refine uD rfl ?_)|refine uE rfl ?_)|(with_reducible refine uF ?_;first|refine uG rfl ?_ ?_|(first|refine uH rfl ?_|refine uI rfl ?_)|refine uJ rfl ?_|refine uK (uL ?_)|refine uK (uM ?_))|(with_reducible refine uN ?_;refine uO rfl ?_))<;>try simp only[cgs,hbase.cell,e1,hcb,qU,go_sem,reduceIte,jA,jB,jC,jD,reduceCtorEq,jE,jF])|(with_reducible refine uR ?_;refine uS rfl ?_)|omega))
   refine bU ((zJ aIs (by kernel_rfl) m (l.map CE.me) c _ _ ?_).mono ?_)
   ·simp only[Hp.set_app];rw[if_neg (by omega)];exact hcm
   rintro v h3 nx3 hnx3 ⟨rfl,rfl,rfl⟩
   unfold gM
   simp only[go_sem,reduceIte,jA,jB,jC,jD,reduceCtorEq,jE,jF]
   (repeat' (first|(with_reducible first|refine stp ?_|refine uP (by decide) ?_|refine uQ (fun _=>?_) (fun _=>?_))|((first|(with_reducible refine uA ?_;first|refine uB rfl ?_ ?_|(first|refine uC rfl ?_|refine uD rfl ?_)|refine uE rfl ?_)|(with_reducible refine uF ?_;first|refine uG rfl ?_ ?_|(first|refine uH rfl ?_|refine uI rfl ?_)|refine uJ rfl ?_|refine uK (uL ?_)|refine uK (uM ?_))|(with_reducible refine uN ?_;refine uO rfl ?_))<;>try simp only[jK,go_sem,reduceIte,jA,jB,jC,jD,reduceCtorEq,jE,jF])|(with_reducible refine uR ?_;refine uS rfl ?_)|omega))
   obtain⟨A,hA⟩:∃A:Nat→List CE×Nat,∀i,A i=gR l c (r.take i):=⟨_,fun _=>rfl⟩
   refine cI (fun i:Nat=>aD 58 0 [(2, .ptr nx .leaf 0 0),(7, .map (nx+1)),(31,cgs o r),(32, .int .i64 r.length),(33, .int .i64 i)])
    (fun i hp nx1=>i≤r.length∧nx+2≤nx1∧aT hp nx1∧Hp.same (nx+1) (h'.set nx (.arr .leaf [.ptr cb (.agg 4) 0 0])) hp∧hp (nx+1)=some (.mp ((A i).1.map CE.me) (A i).2))
    (fun i=>r.length-i) 0 ⟨Nat.zero_le _,by simp,(by(try dsimp only);repeat (first|exact aT.up hd (by omega)|refine aT.set2 ?_ (by omega) _|refine aT.del ?_|refine aT.delO ?_ _)),(by(try dsimp only);repeat (first|exact Hp.same.rfl'|refine bV ?_ (by omega) _|refine cN ?_ (by omega))),?_⟩ ?_ ?_
   ·rw[hA];simp[Hp.set,gR]
   ·simp only[WkL,aD,jH,jI,jJ,cgs,go_sem,reduceIte,jA,jB,jC,jD,reduceCtorEq,jE,jF]
   rintro i hp nx1 ⟨hi,hnx,hdm,hsm,hmp⟩
   generalize hQ:fF _ _ _ _ _=Q0
   simp only[aD,cgs,go_sem,reduceIte,jA,jB,jC,jD,reduceCtorEq,jE,jF]
   have hok1:=(nQ (r.take i) hok)
   rw[←hA] at hok1
   rcases Nat.lt_or_ge i r.length with hlt|hge
   ·have hc1:decide ((i:Int)<(r.length:Int))=true:=decide_eq_true (by omega)
    have hg:(r.map Cg.v).getD i (.tup [])= .agg [.int .i64 r[i].s.p, .int .i64 r[i].s.t.e, .int .i64 r[i].s.t.r, .int .i64 r[i].d]:=lN Cg.v _ r i hlt
    have hwp:IntKind.i64.wrap ((i:Int)+1)=((i+1:Nat):Int):=by rw[cS]<;>omega
    (repeat' (first|(with_reducible first|refine stp ?_|refine uP (by decide) ?_|refine uQ (fun _=>?_) (fun _=>?_))|((first|(with_reducible refine uA ?_;first|refine uB rfl ?_ ?_|(first|refine uC rfl ?_|refine uD rfl ?_)|refine uE rfl ?_)|(with_reducible refine uF ?_;first|refine uG rfl ?_ ?_|(first|refine uH rfl ?_|refine uI rfl ?_)|refine uJ rfl ?_|refine uK (uL ?_)|refine uK (uM ?_))|(with_reducible refine uN ?_;refine uO rfl ?_))<;>try simp only[hc1,hg,hlt,hwp,jK,jG,go_sem,reduceIte,jA,jB,jC,jD,reduceCtorEq,jE,jF])|(with_reducible refine uR ?_;refine uS rfl ?_)|omega))
    refine bU ((aDG (A i).1 (A i).2 hok1.1 r[i].s r[i].d (nx+1) _ _ ?_).dom.mono ?_)
    ·simp only[Hp.set_app];rw[if_neg (by omega),if_neg (by omega)];exact hmp
    rintro v h3 nx3 hnx3 ⟨rfl,hdm3,_⟩
    unfold gM
    simp only[go_sem,reduceIte,jA,jB,jC,jD,reduceCtorEq,jE,jF]
    (repeat' (first|(with_reducible first|refine stp ?_|refine uP (by decide) ?_|refine uQ (fun _=>?_) (fun _=>?_))|((first|(with_reducible refine uA ?_;first|refine uB rfl ?_ ?_|(first|refine uC rfl ?_|refine uD rfl ?_)|refine uE rfl ?_)|(with_reducible refine uF ?_;first|refine uG rfl ?_ ?_|(first|refine uH rfl ?_|refine uI rfl ?_)|refine uJ rfl ?_|refine uK (uL ?_)|refine uK (uM ?_))|(with_reducible refine uN ?_;refine uO rfl ?_))<;>try simp only[hwp,go_sem,reduceIte,jA,jB,jC,jD,reduceCtorEq,jE,jF])|(with_reducible refine uR ?_;refine uS rfl ?_)|omega))
    rw[←hQ]
    refine aL (i+1) (by omega) ⟨hlt,by dsimp only at hnx3⊢;omega,hdm3,?_,?_⟩ ?_
    ·refine fun m hm=>?_
     simp only[Hp.set_app]
     rw[if_neg (by omega),if_neg (by omega),if_neg (by omega)]
     have:=hsm m hm
     simp only[Hp.set_app] at this
     exact this
    ·have e:A (i+1)=tX (A i).1 (A i).2 r[i].s r[i].d:=by
      rw[hA,hA,List.take_succ_eq_append_getElem hlt,rU]
     rw[e]
     simp only[Hp.set_app,if_true,reduceIte]
    simp only[WkL,aD,jH,jI,jJ,cgs,go_sem,reduceIte,jA,jB,jC,jD,reduceCtorEq,jE,jF]
   have hc1:decide ((i:Int)<(r.length:Int))=false:=decide_eq_false (by omega)
   have hil:r.take i=r:=List.take_of_length_le (by omega)
   rw[hil] at hok1
   have hAl:A i=gR l c r:=by rw[hA,hil]
   rw[hAl] at hmp hok1
   obtain⟨hok2,_,hlen2⟩:=hok1
   (repeat' (first|(with_reducible first|refine stp ?_|refine uP (by decide) ?_|refine uQ (fun _=>?_) (fun _=>?_))|((first|(with_reducible refine uA ?_;first|refine uB rfl ?_ ?_|(first|refine uC rfl ?_|refine uD rfl ?_)|refine uE rfl ?_)|(with_reducible refine uF ?_;first|refine uG rfl ?_ ?_|(first|refine uH rfl ?_|refine uI rfl ?_)|refine uJ rfl ?_|refine uK (uL ?_)|refine uK (uM ?_))|(with_reducible refine uN ?_;refine uO rfl ?_))<;>try simp only[hc1,go_sem,reduceIte,jA,jB,jC,jD,reduceCtorEq,jE,jF])|(with_reducible refine uR ?_;refine uS rfl ?_)|omega))
   rw[←hQ]
   clear hQ Q0
   generalize (gR l c r).1=L2 at*
   generalize (gR l c r).2=c2 at*
   (repeat' (first|(with_reducible first|refine stp ?_|refine uP (by decide) ?_|refine uQ (fun _=>?_) (fun _=>?_))|((first|(with_reducible refine uA ?_;first|refine uB rfl ?_ ?_|(first|refine uC rfl ?_|refine uD rfl ?_)|refine uE rfl ?_)|(with_reducible refine uF ?_;first|refine uG rfl ?_ ?_|(first|refine uH rfl ?_|refine uI rfl ?_)|refine uJ rfl ?_|refine uK (uL ?_)|refine uK (uM ?_))|(with_reducible refine uN ?_;refine uO rfl ?_))<;>try simp only[ go_sem,reduceIte,jA,jB,jC,jD,reduceCtorEq,jE,jF])|(with_reducible refine uR ?_;refine uS rfl ?_)|omega))
   refine vP rfl hmp ?_
   simp only[go_sem,reduceIte,jA,jB,jC,jD,reduceCtorEq,jE,jF]
   (repeat' (first|(with_reducible first|refine stp ?_|refine uP (by decide) ?_|refine uQ (fun _=>?_) (fun _=>?_))|((first|(with_reducible refine uA ?_;first|refine uB rfl ?_ ?_|(first|refine uC rfl ?_|refine uD rfl ?_)|refine uE rfl ?_)|(with_reducible refine uF ?_;first|refine uG rfl ?_ ?_|(first|refine uH rfl ?_|refine uI rfl ?_)|refine uJ rfl ?_|refine uK (uL ?_)|refine uK (uM ?_))|(with_reducible refine uN ?_;refine uO rfl ?_))<;>try simp only[ go_sem,reduceIte,jA,jB,jC,jD,reduceCtorEq,jE,jF])|(with_reducible refine uR ?_;refine uS rfl ?_)|omega))
   refine cI (fun _:List CE=>aD 58 0 [(2, .ptr nx .leaf 0 0),(7, .map (nx+1)),(45, .ptr nx1 .leaf 0 0)])
    (fun js hp2 nx2=>(js.map fun y=>(CE.me y).b).Nodup∧(∀y∈js,y∈L2)∧(∀y∈js,kA y.n=false)∧nx1+1≤nx2∧aT hp2 nx2∧Hp.same (nx+1) (h'.set nx (.arr .leaf [.ptr cb (.agg 4) 0 0])) hp2∧hp2 (nx+1)=some (.mp (L2.map CE.me) c2)∧hp2 nx1=some (.mit (nx+1) c2 (js.map fun y=>(CE.me y).b) c2))
    (fun js=>L2.length-js.length) [] ⟨by simp,by simp,by simp,by simp,(by(try dsimp only);repeat (first|exact aT.up hdm (by omega)|refine aT.set2 ?_ (by omega) _|refine aT.del ?_|refine aT.delO ?_ _)),(by(try dsimp only);repeat (first|exact hsm|refine bV ?_ (by omega) _|refine cN ?_ (by omega))),?_,?_⟩ ?_ ?_
   ·simp only[Hp.set_app];rw[if_neg (by omega)];exact hmp
   ·simp[Hp.set]
   ·simp only[WkL,aD,jH,jI,jJ,go_sem,reduceIte,jA,jB,jC,jD,reduceCtorEq,jE,jF]
   rintro js hp2 nx2 ⟨hjn,hjl,hjw,hn2,hdm2,hsm2,hmp2,hit⟩
   generalize hQ:fF _ _ _ _ _=Q0
   simp only[aD,go_sem,reduceIte,jA,jB,jC,jD,reduceCtorEq,jE,jF]
   repeat (first|with_reducible refine aN ?_|with_reducible refine aI ?_|with_reducible refine aP ?_|with_reducible refine aB ?_|with_reducible refine aC ?_|with_reducible refine aO ?_|with_reducible refine aK ?_)
   refine vQ rfl hit hmp2 (fun x hx=>by obtain⟨y,hy,rfl⟩:=List.mem_map.1 hx;exact hok2.lt y hy) (Nat.le_refl _) ?_ ?_
   ·intro x hx hxn
    obtain⟨y,hy,rfl⟩:=List.mem_map.1 hx
    have hmore:=vI (fun y=>(CE.me y).b) hjn hxn
    have hshort:=sC (fun y=>(CE.me y).b) hjn hjl hy hxn
    have hfind:=yL CE.me hok2.num hy
    simp only[go_sem,reduceIte,jA,jB,jC,jD,reduceCtorEq,jE,jF]
    (repeat' (first|(with_reducible first|refine stp ?_|refine uP (by decide) ?_|refine uQ (fun _=>?_) (fun _=>?_))|((first|(with_reducible refine uA ?_;first|refine uB rfl ?_ ?_|(first|refine uC rfl ?_|refine uD rfl ?_)|refine uE rfl ?_)|(with_reducible refine uF ?_;first|refine uG rfl ?_ ?_|(first|refine uH rfl ?_|refine uI rfl ?_)|refine uJ rfl ?_|refine uK (uL ?_)|refine uK (uM ?_))|(with_reducible refine uN ?_;refine uO rfl ?_))<;>try simp only[ go_sem,reduceIte,jA,jB,jC,jD,reduceCtorEq,jE,jF])|(with_reducible refine uR ?_;refine uS rfl ?_)|omega))
    refine vR (es:=L2.map CE.me) (c:=c2) (m:=nx+1) (since:=c2) (seen:=(js.map fun y=>(CE.me y).b)++[(CE.me y).b]) rfl ?_ ?_ (b:=(CE.me y).b) (by simp) hfind ?_
    ·simp only[Hp.set_app,reduceIte]
    ·simp only[Hp.set_app];rw[if_neg (by omega)];exact hmp2
    have hyn:(CE.me y).v= .int .i64 y.n:=rfl
    simp only[hyn,go_sem,reduceIte,jA,jB,jC,jD,reduceCtorEq,jE,jF]
    have hwi:∀h,cM Tryz.prog 76 [.int .i64 y.n] h (.bool (!(kA y.n))):=fun h=>by
     have:=vW y.n h
     unfold kA
     rw[Bool.not_not];exact this
    cases hwy:kA y.n with
    |true=>
     rw[hwy] at hwi
     have hany:L2.any (fun y=>kA y.n)=true:=List.any_eq_true.2 ⟨y,hy,hwy⟩
     (repeat' (first|(with_reducible first|refine stp ?_|refine uP (by decide) ?_|refine uQ (fun _=>?_) (fun _=>?_))|((first|(with_reducible refine uA ?_;first|refine uB rfl ?_ ?_|refine aJ (hwi _) rfl (aS _) ?_|(first|refine uC rfl ?_|refine uD rfl ?_)|refine uE rfl ?_)|(with_reducible refine uF ?_;first|refine uG rfl ?_ ?_|(first|refine uH rfl ?_|refine uI rfl ?_)|refine uJ rfl ?_|refine uK (uL ?_)|refine uK (uM ?_))|(with_reducible refine uN ?_;refine uO rfl ?_))<;>try simp only[Bool.not_true,Bool.not_false,go_sem,reduceIte,jA,jB,jC,jD,reduceCtorEq,jE,jF])|(with_reducible refine uR ?_;refine uS rfl ?_)|omega))
     rw[←hQ]
     (repeat' (first|(with_reducible first|refine stp ?_|refine uP (by decide) ?_|refine uQ (fun _=>?_) (fun _=>?_))|((first|(with_reducible refine uA ?_;first|refine uB rfl ?_ ?_|(first|refine uC rfl ?_|refine uD rfl ?_)|refine uE rfl ?_)|(with_reducible refine uF ?_;first|refine uG rfl ?_ ?_|(first|refine uH rfl ?_|refine uI rfl ?_)|refine uJ rfl ?_|refine uK (uL ?_)|refine uK (uM ?_))|(with_reducible refine uN ?_;refine uO rfl ?_))<;>try simp only[ go_sem,reduceIte,jA,jB,jC,jD,reduceCtorEq,jE,jF])|(with_reducible refine uR ?_;refine uS rfl ?_)|omega))
     simp only[hany,if_true]
     refine aM h' ?_ ⟨rfl, .inl ⟨by simp,rfl⟩⟩
     intro n b hb
     have hn:=hd n b hb
     simp only[Hp.set_app]
     rw[if_neg (by omega),hsm2 n (by omega)]
     simp only[Hp.set_app]
     rw[if_neg (by omega)];exact hb
    |false=>
     rw[hwy] at hwi
     (repeat' (first|(with_reducible first|refine stp ?_|refine uP (by decide) ?_|refine uQ (fun _=>?_) (fun _=>?_))|((first|(with_reducible refine uA ?_;first|refine uB rfl ?_ ?_|refine aJ (hwi _) rfl (aS _) ?_|(first|refine uC rfl ?_|refine uD rfl ?_)|refine uE rfl ?_)|(with_reducible refine uF ?_;first|refine uG rfl ?_ ?_|(first|refine uH rfl ?_|refine uI rfl ?_)|refine uJ rfl ?_|refine uK (uL ?_)|refine uK (uM ?_))|(with_reducible refine uN ?_;refine uO rfl ?_))<;>try simp only[Bool.not_true,Bool.not_false,go_sem,reduceIte,jA,jB,jC,jD,reduceCtorEq,jE,jF])|(with_reducible refine uR ?_;refine uS rfl ?_)|omega))
     rw[←hQ]
     refine aL (js++[y]) (by simp only[List.length_append,jL,jM];omega) ⟨hmore,?_,?_,by first|omega|(dsimp only;omega),(by(try dsimp only);repeat (first|exact aT.up hdm2 (by omega)|refine aT.set2 ?_ (by omega) _|refine aT.del ?_|refine aT.delO ?_ _)),(by(try dsimp only);repeat (first|exact hsm2|refine bV ?_ (by omega) _|refine cN ?_ (by omega))),?_,?_⟩ ?_
     ·intro q hq
      rcases List.mem_append.1 hq with hq|hq
      ·exact hjl q hq
      rw[List.mem_singleton.1 hq];exact hy
     ·intro q hq
      rcases List.mem_append.1 hq with hq|hq
      ·exact hjw q hq
      rw[List.mem_singleton.1 hq];exact hwy
     ·simp only[Hp.set_app];rw[if_neg (by omega)];exact hmp2
     ·simp only[Hp.set_app,reduceIte,List.map_append,List.map_cons,List.map_nil]
     simp only[WkL,aD,jH,jI,jJ,go_sem,reduceIte,jA,jB,jC,jD,reduceCtorEq,jE,jF]
   intro hall
   have hperm:=yF (fun y=>(CE.me y).b) hok2.num hjn hjl (fun y hy=>hall _ (List.mem_map.2 ⟨y,hy,rfl⟩))
   have hany:L2.any (fun y=>kA y.n)=false:=by
    rw[List.any_eq_false]
    intro y hy
    rw[hjw y (hperm.mem_iff.2 hy)];simp
   have d1:hp2 nx=some (.arr .leaf [.ptr cb (.agg 4) 0 0]):=by rw[hsm2 nx (by omega)];simp[Hp.set]
   have d2:hp2 cb=some (.arr (.agg 4) [.agg [.int .i64 P,wv,lv, .map m]]):=by rw[hsm2 cb (by omega)];simp only[Hp.set_app];rw[if_neg (by omega)];exact hcb
   have hwf:=hc.wf
   have hlf:=hc.lf
   simp only[go_sem,reduceIte,jA,jB,jC,jD,reduceCtorEq,jE,jF]
   (repeat' (first|(with_reducible first|refine stp ?_|refine uP (by decide) ?_|refine uQ (fun _=>?_) (fun _=>?_))|((first|(with_reducible refine uA ?_;first|refine uB rfl ?_ ?_|(first|refine uC rfl ?_|refine uD rfl ?_)|refine uE rfl ?_)|(with_reducible refine uF ?_;first|refine uG rfl ?_ ?_|(first|refine uH rfl ?_|refine uI rfl ?_)|refine uJ rfl ?_|refine uK (uL ?_)|refine uK (uM ?_))|(with_reducible refine uN ?_;refine uO rfl ?_))<;>try simp only[ go_sem,reduceIte,jA,jB,jC,jD,reduceCtorEq,jE,jF])|(with_reducible refine uR ?_;refine uS rfl ?_)|omega))
   rw[←hQ]
   (repeat' (first|(with_reducible first|refine stp ?_|refine uP (by decide) ?_|refine uQ (fun _=>?_) (fun _=>?_))|((first|(with_reducible refine uA ?_;first|refine uB rfl ?_ ?_|(first|refine uC rfl ?_|refine uD rfl ?_)|refine uE rfl ?_)|(with_reducible refine uF ?_;first|refine uG rfl ?_ ?_|(first|refine uH rfl ?_|refine uI rfl ?_)|refine uJ rfl ?_|refine uK (uL ?_)|refine uK (uM ?_))|(with_reducible refine uN ?_;refine uO rfl ?_))<;>try simp only[d1,d2,hwf,hlf,go_sem,reduceIte,jA,jB,jC,jD,reduceCtorEq,jE,jF])|(with_reducible refine uR ?_;refine uS rfl ?_)|omega))
   simp only[hany,Bool.false_eq_true,if_false]
   refine aM ((h'.set (nx+1) (.mp (L2.map CE.me) c2)).set cb (.arr (.agg 4) [qU P wv lv (nx+1)])) ?_ ⟨rfl, .inr ⟨trivial,nx+1,by omega,rfl⟩⟩
   intro n b hb
   simp only[Hp.set_app] at hb⊢
   split at hb
   ·rename_i e;rw[if_pos e];exact hb
   rename_i e
   rw[if_neg e]
   split at hb
   ·rename_i e2;rw[e2,hmp2];exact hb
   have hn:=hd n b hb
   rw[hsm2 n (by omega)]
   simp only[Hp.set_app]
   rw[if_neg (by omega)];exact hb
end Go.Proofs.YthikfnmcjipobaaGreat
/-
Counts:the active stamps. No conditions.
-/
namespace Go.Proofs.YthikfnmcjipobaaGreat
open Go.Proofs.YthikfnmcjipobaaGreat renaming iW→uA,gV→uB,fA→uC,fB→uD,dO→uE,iZ→uF,fQ→uG,fC→uH,fD→uI,dP→uJ,fZ→uK,fP→uL,gZ→uM,jS→uN,gB→uO,bT→uP,kK→uQ,iY→uR,gE→uS
open Nat renaming reduceAdd→jA,reduceSub→jB,reduceLT→jC,reduceLeDiff→jD,reduceEqDiff→jE
open Int renaming reduceToNat→jF,toNat_natCast→jG,natCast_add→jH,natCast_one→jI,natCast_zero→jJ
open List renaming length_map→jK,length_cons→jL,length_nil→jM,replicate_succ→jN,replicate_zero→jO,cons_append→jP,nil_append→jQ
set_option linter.unusedSimpArgs false
set_option linter.unusedVariables false
set_option linter.unusedSectionVars false
open Go.RowKit
attribute [local irreducible] IntKind.wrap
attribute [local go_sem] Option.some.injEq Prod.mk.injEq false_and and_false Bool.true_eq_false mP jR jX gG iV if_true Bool.true_and mF dS iH gL dQ aA.ok aA.next LOp.ok LOp.next bC.ok bC.out aQ.ev bN iI cH bO cO V.undef Sh.size gH fW cK aA.dok aA.dres LOp.dok LOp.dout lI iD gI eX List.take_succ_cons List.take_zero List.take_nil List.drop_succ_cons List.drop_zero List.drop_nil List.set_cons_succ List.set_cons_zero List.getD_cons_succ List.getD_cons_zero jL jM List.map_cons List.map_nil List.all_cons List.all_nil List.mem_cons List.not_mem_nil jN jO jP jQ List.append_nil List.isEmpty_cons List.isEmpty_nil dW fJ hM Option.getD_some Option.isSome_some Option.isSome_none Nat.add_eq Nat.zero_add Nat.add_zero true_and and_true and_self true_implies implies_true false_implies forall_const forall_eq forall_eq_or_imp ne_eq not_false_eq_true not_true_eq_false Bool.not_true Bool.not_false decide_true decide_false Bool.and_true Bool.true_and Bool.and_false Bool.false_and true_or or_true false_or or_false eq_self Bool.false_eq_true mK iO gC aD fH eT eB dU cL dT aZ aX dN jG Int.toNat_zero List.take_length Hp.set_app Hp.del_app gW fV aA.plain LOp.isCall aA.dplain LOp.isStop eM kT gY lY fN V.gd_true V.gd_false fM eK eL fL bG aY aU fK eS beq_true beq_false dD dE dF cB cC bH bI cP eQ cE dK dH bJ dI dL eN eO bK dJ bF cD eP bP dG bQ bB gQ gO gP gN dM cG dX cR eG eF eE eD eC bX bW cZ cY cX cA bZ bY eJ eI eH dC dB dA cQ cF bS kM Hp.turn fT Option.isNone_some Option.isNone_none oL gF fO aA.plain2 LOp.isApp oM lP lQ iQ fS fR
def iB(l:List CE):List Sp:=(l.filter fun y=>decide (y.n>0)).map (·.s)
theorem aFU(l:List CE)(y:CE):iB (l++[y])=iB l++if decide (y.n>0)=true then [y.s] else []:=by
 unfold iB
 rw[List.filter_append,List.map_append]
 congr 1
 by_cases h:y.n>0<;>simp[h]
theorem pS(l:List CE):(iB l).length≤l.length:=by
 unfold iB
 rw[jK]
 exact List.length_filter_le _ _
set_option maxRecDepth 100000 in
set_option maxHeartbeats 4000000 in
theorem xV{h':Hp}{nx cb m c:Nat}{P:Int}{wv lv:V}{l:List CE}(hc:hZ h' cb m P wv lv l c)(hok:iE l c)(hl:l.length≤1000000):
 bM Tryz.prog 79 [.ptr cb (.agg 4) 0 0] h' nx fun v h'' _=>∃(o:Own) (xs:List Sp),v= .sl (.agg 3) o (xs.map Sp.v)∧xs.Perm (iB l)∧Acc h'' nx o (xs.map Sp.v)∧Hp.same nx h' h'':=by
 refine aG L.count_Counts_active_low fun hd=>?_
 simp only[jL,jM,jA,jB,jN,jO,jP,jQ,V.undef]
 have hcb:=hc.cell
 have hcm:=hc.mp
 have n1:cb<nx:=hd _ _ hcb
 have n2:m<nx:=hd _ _ hcm
 (repeat' (first|(with_reducible first|refine stp ?_|refine uP (by decide) ?_|refine uQ (fun _=>?_) (fun _=>?_))|((first|(with_reducible refine uA ?_;first|refine uB rfl ?_ ?_|(first|refine uC rfl ?_|refine uD rfl ?_)|refine uE rfl ?_)|(with_reducible refine uF ?_;first|refine uG rfl ?_ ?_|(first|refine uH rfl ?_|refine uI rfl ?_)|refine uJ rfl ?_|refine uK (uL ?_)|refine uK (uM ?_))|(with_reducible refine uN ?_;refine uO rfl ?_))<;>try simp only[hcb,qU,go_sem,reduceIte,jA,jB,jC,jD,reduceCtorEq,jE,jF])|(with_reducible refine uR ?_;refine uS rfl ?_)|omega))
 refine vP rfl hcm ?_
 simp only[go_sem,reduceIte,jA,jB,jC,jD,reduceCtorEq,jE,jF]
 (repeat' (first|(with_reducible first|refine stp ?_|refine uP (by decide) ?_|refine uQ (fun _=>?_) (fun _=>?_))|((first|(with_reducible refine uA ?_;first|refine uB rfl ?_ ?_|(first|refine uC rfl ?_|refine uD rfl ?_)|refine uE rfl ?_)|(with_reducible refine uF ?_;first|refine uG rfl ?_ ?_|(first|refine uH rfl ?_|refine uI rfl ?_)|refine uJ rfl ?_|refine uK (uL ?_)|refine uK (uM ?_))|(with_reducible refine uN ?_;refine uO rfl ?_))<;>try simp only[ go_sem,reduceIte,jA,jB,jC,jD,reduceCtorEq,jE,jF])|(with_reducible refine uR ?_;refine uS rfl ?_)|omega))
 refine cI (fun q:List CE×Own=>aD 23 0 [(3, .sl (.agg 3) q.2 ((iB q.1).map Sp.v)),(10, .ptr nx .leaf 0 0)])
  (fun q hp nx1=>(q.1.map fun y=>(CE.me y).b).Nodup∧(∀y∈q.1,y∈l)∧nx+1≤nx1∧aT hp nx1∧Hp.same nx h' hp∧hp nx=some (.mit m c (q.1.map fun y=>(CE.me y).b) c)∧Acc hp (nx+1) q.2 ((iB q.1).map Sp.v))
  (fun q=>l.length-q.1.length) ([], .nil) ⟨by simp,by simp,by simp,(by(try dsimp only);repeat (first|exact aT.up hd (by omega)|refine aT.set2 ?_ (by omega) _|refine aT.del ?_|refine aT.delO ?_ _)),(by(try dsimp only);repeat (first|exact Hp.same.rfl'|refine bV ?_ (by omega) _|refine cN ?_ (by omega))),by simp[Hp.set],Acc.nil⟩ ?_ ?_
 ·simp only[WkL,aD,jH,jI,jJ,iB,List.filter_nil,List.map_nil,go_sem,reduceIte,jA,jB,jC,jD,reduceCtorEq,jE,jF]
 rintro⟨js,o⟩ hp nx1 ⟨hjn,hjl,hn1,hdm,hsm,hit,hacc⟩
 generalize hQ:fF _ _ _ _ _=Q0
 dsimp only at hjn hjl hit hacc
 have hmp:hp m=some (.mp (l.map CE.me) c):=by rw[hsm m n2];exact hcm
 simp only[aD,go_sem,reduceIte,jA,jB,jC,jD,reduceCtorEq,jE,jF]
 repeat (first|with_reducible refine aN ?_|with_reducible refine aI ?_|with_reducible refine aP ?_|with_reducible refine aB ?_|with_reducible refine aC ?_|with_reducible refine aO ?_|with_reducible refine aK ?_)
 refine vQ rfl hit hmp (fun x hx=>by obtain⟨y,hy,rfl⟩:=List.mem_map.1 hx;exact hok.lt y hy) (Nat.le_refl _) ?_ ?_
 ·intro x hx hxn
  obtain⟨y,hy,rfl⟩:=List.mem_map.1 hx
  have hmore:=vI (fun y=>(CE.me y).b) hjn hxn
  have hshort:=sC (fun y=>(CE.me y).b) hjn hjl hy hxn
  have hfind:=yL CE.me hok.num hy
  simp only[go_sem,reduceIte,jA,jB,jC,jD,reduceCtorEq,jE,jF]
  (repeat' (first|(with_reducible first|refine stp ?_|refine uP (by decide) ?_|refine uQ (fun _=>?_) (fun _=>?_))|((first|(with_reducible refine uA ?_;first|refine uB rfl ?_ ?_|(first|refine uC rfl ?_|refine uD rfl ?_)|refine uE rfl ?_)|(with_reducible refine uF ?_;first|refine uG rfl ?_ ?_|(first|refine uH rfl ?_|refine uI rfl ?_)|refine uJ rfl ?_|refine uK (uL ?_)|refine uK (uM ?_))|(with_reducible refine uN ?_;refine uO rfl ?_))<;>try simp only[ go_sem,reduceIte,jA,jB,jC,jD,reduceCtorEq,jE,jF])|(with_reducible refine uR ?_;refine uS rfl ?_)|omega))
  refine vR (es:=l.map CE.me) (c:=c) (m:=m) (since:=c) (seen:=(js.map fun y=>(CE.me y).b)++[(CE.me y).b]) rfl ?_ ?_ (b:=(CE.me y).b) (by simp) hfind ?_
  ·simp only[Hp.set_app,reduceIte]
  ·simp only[Hp.set_app];rw[if_neg (by omega)];exact hmp
  have hyn:(CE.me y).v= .int .i64 y.n:=rfl
  have hyk:(CE.me y).k= .agg [.int .i64 y.s.p, .int .i64 y.s.t.e, .int .i64 y.s.t.r]:=rfl
  have hlenA:((iB js).map Sp.v).length=(iB js).length:=by simp
  have hcap:(iB js).length≤1000000:=by have:=pS js;omega
  have hmem:∀q∈js++[y],q∈l:=fun q hq=>by
   rcases List.mem_append.1 hq with hq|hq
   ·exact hjl q hq
   rw[List.mem_singleton.1 hq];exact hy
  have hsn:=aFU js y
  have hacc2:Acc (hp.set nx (.mit m c ((js.map fun y=>(CE.me y).b)++[(CE.me y).b]) c)) (nx+1) o ((iB js).map Sp.v):=by
   rcases hacc with h|⟨h1,id,h2,h3,h4⟩
   ·exact .inl h
   exact .inr ⟨h1,id,h2,h3,by simp only[Hp.set_app];rw[if_neg (by omega)];exact h4⟩
  have hdm2:aT (hp.set nx (.mit m c ((js.map fun y=>(CE.me y).b)++[(CE.me y).b]) c)) nx1:=aT.set2 hdm (by omega) _
  have hsm2:Hp.same nx h' (hp.set nx (.mit m c ((js.map fun y=>(CE.me y).b)++[(CE.me y).b]) c)):=bV hsm (Nat.le_refl _) _
  have hit2:(hp.set nx (.mit m c ((js.map fun y=>(CE.me y).b)++[(CE.me y).b]) c)) nx=some (.mit m c ((js++[y]).map fun y=>(CE.me y).b) c):=by simp[Hp.set]
  generalize hp.set nx (.mit m c ((js.map fun y=>(CE.me y).b)++[(CE.me y).b]) c)=hp2 at hacc2 hdm2 hsm2 hit2⊢
  simp only[hyn,hyk,go_sem,reduceIte,jA,jB,jC,jD,reduceCtorEq,jE,jF]
  cases hpos:decide (y.n>0) with
  |true=>
   rw[hpos,if_pos rfl] at hsn
   have hpos':decide (y.n>0)=true:=hpos
   (repeat' (first|(with_reducible first|refine stp ?_|refine uP (by decide) ?_|refine uQ (fun _=>?_) (fun _=>?_))|((first|(with_reducible refine uA ?_;first|refine uB rfl ?_ ?_|refine pN (n0:=nx+1) rfl (by(try dsimp only);repeat' (first|exact hacc2|exact Acc.new _ (by simp) (by omega)|exact mW.new (by omega)|exact aT.ntip hdm2 (by omega)|exact kP|exact mB (by assumption)|refine kN (by omega) ?_|refine kO ?_|refine Acc.set ?_ ?_ _|refine mW.set ?_ ?_ _)) rfl (by simp) (by simp only[hlenA,hpos,hlenA,go_sem,reduceIte,jA,jB,jC,jD,reduceCtorEq,jE,jF];try omega) ?_|(first|refine uC rfl ?_|refine uD rfl ?_)|refine uE rfl ?_)|(with_reducible refine uF ?_;first|refine uG rfl ?_ ?_|(first|refine uH rfl ?_|refine uI rfl ?_)|refine uJ rfl ?_|refine uK (uL ?_)|refine uK (uM ?_))|(with_reducible refine uN ?_;refine uO rfl ?_))<;>try simp only[hpos,hlenA,go_sem,reduceIte,jA,jB,jC,jD,reduceCtorEq,jE,jF])|(with_reducible refine uR ?_;refine uS rfl ?_)|omega))
   rw[←hQ]
   refine aL (js++[y], .tok (nx1+5)) (by simp only[List.length_append,jL,jM];omega) ⟨hmore,hmem,by first|omega|(dsimp only;omega),(by(try dsimp only);repeat (first|exact aT.up hdm2 (by omega)|refine aT.set2 ?_ (by omega) _|refine aT.del ?_|refine aT.delO ?_ _)),(by(try dsimp only);repeat (first|exact hsm2|refine bV ?_ (by omega) _|refine cN ?_ (by omega)|refine kX ?_ (fun id e=>by have:=(hacc2).ge id e;omega))),?_,?_⟩ ?_
   ·refine Eq.trans ((?_:Hp.same (nx+1) hp2 _) nx (by omega)) hit2
    exact(by(try dsimp only);repeat (first|exact Hp.same.rfl'|refine bV ?_ (by omega) _|refine cN ?_ (by omega)|refine kX ?_ (fun id e=>by have:=(hacc2).ge id e;omega)))
   ·dsimp only;rw[hsn,List.map_append];exact Acc.new _ (by simp) (by omega)
   simp only[WkL,aD,jH,jI,jJ,hsn,List.map_append,Sp.v,go_sem,reduceIte,jA,jB,jC,jD,reduceCtorEq,jE,jF]
  |false=>
   rw[hpos,if_neg (by simp),List.append_nil] at hsn
   (repeat' (first|(with_reducible first|refine stp ?_|refine uP (by decide) ?_|refine uQ (fun _=>?_) (fun _=>?_))|((first|(with_reducible refine uA ?_;first|refine uB rfl ?_ ?_|(first|refine uC rfl ?_|refine uD rfl ?_)|refine uE rfl ?_)|(with_reducible refine uF ?_;first|refine uG rfl ?_ ?_|(first|refine uH rfl ?_|refine uI rfl ?_)|refine uJ rfl ?_|refine uK (uL ?_)|refine uK (uM ?_))|(with_reducible refine uN ?_;refine uO rfl ?_))<;>try simp only[hpos,hlenA,go_sem,reduceIte,jA,jB,jC,jD,reduceCtorEq,jE,jF])|(with_reducible refine uR ?_;refine uS rfl ?_)|omega))
   rw[←hQ]
   refine aL (js++[y],o) (by simp only[List.length_append,jL,jM];omega) ⟨hmore,hmem,by first|omega|(dsimp only;omega),(by(try dsimp only);repeat (first|exact aT.up hdm2 (by omega)|refine aT.set2 ?_ (by omega) _|refine aT.del ?_|refine aT.delO ?_ _)),(by(try dsimp only);repeat (first|exact hsm2|refine bV ?_ (by omega) _|refine cN ?_ (by omega)|refine kX ?_ (fun id e=>by have:=(hacc2).ge id e;omega))),?_,?_⟩ ?_
   ·refine Eq.trans ((?_:Hp.same (nx+1) hp2 _) nx (by omega)) hit2
    exact(by(try dsimp only);repeat (first|exact Hp.same.rfl'|refine bV ?_ (by omega) _|refine cN ?_ (by omega)|refine kX ?_ (fun id e=>by have:=(hacc2).ge id e;omega)))
   ·dsimp only;rw[hsn];exact(by(try dsimp only);repeat' (first|exact hacc2|exact Acc.new _ (by simp) (by omega)|exact mW.new (by omega)|exact aT.ntip hdm2 (by omega)|exact kP|exact mB (by assumption)|refine kN (by omega) ?_|refine kO ?_|refine Acc.set ?_ ?_ _|refine mW.set ?_ ?_ _))
   simp only[WkL,aD,jH,jI,jJ,hsn,go_sem,reduceIte,jA,jB,jC,jD,reduceCtorEq,jE,jF]
 intro hall
 have hperm:=yF (fun y=>(CE.me y).b) hok.num hjn hjl (fun y hy=>hall _ (List.mem_map.2 ⟨y,hy,rfl⟩))
 simp only[go_sem,reduceIte,jA,jB,jC,jD,reduceCtorEq,jE,jF]
 (repeat' (first|(with_reducible first|refine stp ?_|refine uP (by decide) ?_|refine uQ (fun _=>?_) (fun _=>?_))|((first|(with_reducible refine uA ?_;first|refine uB rfl ?_ ?_|(first|refine uC rfl ?_|refine uD rfl ?_)|refine uE rfl ?_)|(with_reducible refine uF ?_;first|refine uG rfl ?_ ?_|(first|refine uH rfl ?_|refine uI rfl ?_)|refine uJ rfl ?_|refine uK (uL ?_)|refine uK (uM ?_))|(with_reducible refine uN ?_;refine uO rfl ?_))<;>try simp only[ go_sem,reduceIte,jA,jB,jC,jD,reduceCtorEq,jE,jF])|(with_reducible refine uR ?_;refine uS rfl ?_)|omega))
 rw[←hQ]
 (repeat' (first|(with_reducible first|refine stp ?_|refine uP (by decide) ?_|refine uQ (fun _=>?_) (fun _=>?_))|((first|(with_reducible refine uA ?_;first|refine uB rfl ?_ ?_|(first|refine uC rfl ?_|refine uD rfl ?_)|refine uE rfl ?_)|(with_reducible refine uF ?_;first|refine uG rfl ?_ ?_|(first|refine uH rfl ?_|refine uI rfl ?_)|refine uJ rfl ?_|refine uK (uL ?_)|refine uK (uM ?_))|(with_reducible refine uN ?_;refine uO rfl ?_))<;>try simp only[ go_sem,reduceIte,jA,jB,jC,jD,reduceCtorEq,jE,jF])|(with_reducible refine uR ?_;refine uS rfl ?_)|omega))
 refine aM hp (Hp.le_refl _) ⟨o,iB js,?_,?_,?_,hsm⟩
 ·simp only[go_sem,reduceIte,jA,jB,jC,jD,reduceCtorEq,jE,jF]
 ·exact(hperm.filter _).map _
 rcases hacc with h|⟨h1,id,h2,h3,h4⟩
 ·exact .inl h
 exact .inr ⟨h1,id,by omega,h3,h4⟩
/-
Counts:front. No conditions.
-/
def nA(t:Tm):List Pa→List Tm
 | []=>[]
 |p::l=>(if (p.of t).2=0 then [(p.of t).1] else [])++nA t l
theorem aCR(t:Tm)(a b:List Pa):nA t (a++b)=nA t a++nA t b:=by
 induction a with
 |nil=>rfl
 |cons p a ih=>simp[nA,ih]
theorem aCQ(t:Tm)(a:List Pa):(nA t a).length≤a.length:=by
 induction a with
 |nil=>simp[nA]
 |cons p a ih=>simp only[nA,List.length_append,jL];split<;>simp<;>omega
theorem aBo(t:Tm)(l:List Pa)(i:Nat)(h:i<l.length):nA t (l.take (i+1))=nA t (l.take i)++(if (l[i].of t).2=0 then [(l[i].of t).1] else []):=by
 rw[List.take_succ_eq_append_getElem h,aCR]
 simp[nA]
def frT(T:Nat→Nat→List Pa)(b:Nat)(xs:List Sp):List Tm:=xs.flatMap fun s=>nA s.t (T s.p.toNat b)
theorem aGF(T:Nat→Nat→List Pa)(b:Nat)(xs:List Sp)(i:Nat)(h:i<xs.length):frT T b (xs.take (i+1))=frT T b (xs.take i)++nA xs[i].t (T xs[i].p.toNat b):=by
 unfold frT
 rw[List.take_succ_eq_append_getElem h,List.flatMap_append]
 simp
theorem yK(T:Nat→Nat→List Pa)(b K:Nat)(hT:∀a,(T a b).length≤K):∀xs:List Sp,(frT T b xs).length≤xs.length*K
 | []=>by simp[frT]
 |s::xs=>by
  have h1:=yK T b K hT xs
  have h2:=aCQ s.t (T s.p.toNat b)
  have h3:=hT s.p.toNat
  unfold frT at h1⊢
  rw[List.flatMap_cons,List.length_append,jL,Nat.add_mul]
  omega
theorem aFO{h H:Hp}{o:Own}{n0 n:Nat}{k:Sh}{es es':List V}(ha:Acc h n0 o es)(hn:h n=some (.arr k es')):(H.delO o) n=H n:=by
 rcases ha with⟨_,rfl⟩|⟨_,id,_,rfl,ht⟩
 ·rfl
 show H.del id n=H n
 unfold Hp.del
 rw[if_neg]
 rintro rfl
 rw[hn] at ht;cases ht
def aHD(T:Nat→Nat→List Pa)(n:Nat)(rows:List V):Prop:=rows.length=n∧
 ∀a b,a<n→b<n→∃o cells,rows.getD a (.tup [])= .sl .leaf o cells∧cells.length=n∧∃oc,cells.getD b (.tup [])= .sl (.agg 2) oc ((T a b).map Pa.v)
set_option maxRecDepth 100000 in
set_option maxHeartbeats 4000000 in
theorem aAb{h:Hp}{cb m c:Nat}{P:Int}{wv:V}{ot:Own}{rows:List V}{l:List CE}(hc:hZ h cb m P wv (.sl .leaf ot rows) l c)(T:Nat→Nat→List Pa)(n:Nat)(hP:P=n)(hT:aHD T n rows)(hlen:∀a b,(T a b).length≤1000)
 (oa:Own) (xs:List Sp) (hxl:xs.length≤900) (hxs:∀s∈xs,0≤s.p∧s.p<n) (b:Nat) (hb:b<n):
 cM Tryz.prog 80 [.ptr cb (.agg 4) 0 0, .sl (.agg 3) oa (xs.map Sp.v), .int .i64 b] h (lst (.agg 2) ((ofT (frT T b xs)).map Tm.v)):=by
 refine bL (fun L=>iJ (fun L=>eV (Tm.names_v L) _) L) fun h' nx hh=>aG L.count_Counts_front_low fun hd=>?_
 simp only[jL,jM,jA,jB,jN,jO,jP,jQ,V.undef]
 have hcb:=hh _ _ hc.cell rfl
 have n1:cb<nx:=hd _ _ hcb
 (repeat' (first|(with_reducible first|refine stp ?_|refine uP (by decide) ?_|refine uQ (fun _=>?_) (fun _=>?_))|((first|(with_reducible refine uA ?_;first|refine uB rfl ?_ ?_|(first|refine uC rfl ?_|refine uD rfl ?_)|refine uE rfl ?_)|(with_reducible refine uF ?_;first|refine uG rfl ?_ ?_|(first|refine uH rfl ?_|refine uI rfl ?_)|refine uJ rfl ?_|refine uK (uL ?_)|refine uK (uM ?_))|(with_reducible refine uN ?_;refine uO rfl ?_))<;>try simp only[jK,go_sem,reduceIte,jA,jB,jC,jD,reduceCtorEq,jE,jF])|(with_reducible refine uR ?_;refine uS rfl ?_)|omega))
 refine cI (fun q:Nat×Own=>aD 53 0 [(0, .ptr cb (.agg 4) 0 0),(2, .int .i64 b),(7,tms q.2 (frT T b (xs.take q.1))),(14, .sl (.agg 3) oa (xs.map Sp.v)),(15, .int .i64 xs.length),(16, .int .i64 q.1)])
  (fun q hp nx1=>q.1≤xs.length∧nx≤nx1∧aT hp nx1∧Hp.same nx h' hp∧Acc hp nx q.2 ((frT T b (xs.take q.1)).map Tm.v))
  (fun q=>xs.length-q.1) (0, .nil) ⟨Nat.zero_le _,Nat.le_refl _,hd,Hp.same.rfl',Acc.nil⟩ ?_ ?_
 ·simp only[WkL,aD,jH,jI,jJ,tms,frT,List.take_zero,List.flatMap_nil,List.map_nil,go_sem,reduceIte,jA,jB,jC,jD,reduceCtorEq,jE,jF]
 rintro⟨i,o⟩ hp nx1 ⟨hi,hnx,hdm,hsm,hacc⟩
 generalize hQ:fF _ _ _ _ _=Q0
 dsimp only at hi hacc
 simp only[aD,tms,go_sem,reduceIte,jA,jB,jC,jD,reduceCtorEq,jE,jF]
 rcases Nat.lt_or_ge i xs.length with hlt|hge
 ·have hc1:decide ((i:Int)<(xs.length:Int))=true:=decide_eq_true (by omega)
  have hg:(xs.map Sp.v).getD i (.tup [])= .agg [.int .i64 xs[i].p, .int .i64 xs[i].t.e, .int .i64 xs[i].t.r]:=lN Sp.v _ xs i hlt
  have hw:IntKind.i64.wrap ((i:Int)+1)=((i+1:Nat):Int):=by rw[cS]<;>omega
  obtain⟨hp0,hpn⟩:=hxs xs[i] (List.getElem_mem _)
  obtain⟨a,ha⟩:∃a:Nat,xs[i].p=a:=⟨xs[i].p.toNat,by omega⟩
  have han:a<n:=by omega
  have hta:xs[i].p.toNat=a:=by omega
  obtain⟨hrl,hrows⟩:=hT
  obtain⟨orow,cells,hrow,hcl,oc,hcell⟩:=hrows a b han hb
  have hgt:((rows.length:Nat):Int)=n:=by rw[hrl]
  have hcell1:hp cb=some (.arr (.agg 4) [.agg [.int .i64 P,wv, .sl .leaf ot rows, .map m]]):=by rw[hsm cb n1];exact hcb
  have hbox:cb<nx1:=by omega
  have c3:a<rows.length:=by omega
  have c4:b<cells.length:=by omega
  rw[ha] at hg
  (repeat' (first|(with_reducible first|refine stp ?_|refine uP (by decide) ?_|refine uQ (fun _=>?_) (fun _=>?_))|((first|(with_reducible refine uA ?_;first|refine uB rfl ?_ ?_|(first|refine uC rfl ?_|refine uD rfl ?_)|refine uE rfl ?_)|(with_reducible refine uF ?_;first|refine uG rfl ?_ ?_|(first|refine uH rfl ?_|refine uI rfl ?_)|refine uJ rfl ?_|refine uK (uL ?_)|refine uK (uM ?_))|(with_reducible refine uN ?_;refine uO rfl ?_))<;>try simp only[hc1,hg,hlt,hcell1,hbox,hrow,hcell,c3,c4,jK,jG,go_sem,reduceIte,jA,jB,jC,jD,reduceCtorEq,jE,jF])|(with_reducible refine uR ?_;refine uS rfl ?_)|omega))
  obtain⟨D,hD⟩:∃D,D=frT T b (xs.take i):=⟨_,rfl⟩
  have hDl:D.length≤i*1000:=by
   rw[hD]
   have:=yK T b 1000 (fun a=>hlen a b) (xs.take i)
   rw[List.length_take,Nat.min_eq_left (by omega)] at this
   exact this
  obtain⟨ps,hps⟩:∃ps,ps=T a b:=⟨_,rfl⟩
  have hpl:ps.length≤1000:=by rw[hps];exact hlen a b
  rw[←hD] at hacc⊢
  rw[←hps]
  refine cI (fun q:Nat×Own=>aD 53 0 [(0, .ptr cb (.agg 4) 0 0),(2, .int .i64 b),(7,tms q.2 (D++nA xs[i].t (ps.take q.1))),(9, .ptr nx1 (.agg 3) 0 0),(14, .sl (.agg 3) oa (xs.map Sp.v)),(15, .int .i64 xs.length),(16, .int .i64 i),(30, .sl (.agg 2) oc (ps.map Pa.v)),(31, .int .i64 ps.length),(32, .int .i64 q.1)])
   (fun q hp2 nx2=>q.1≤ps.length∧nx1+1≤nx2∧aT hp2 nx2∧Hp.same nx h' hp2∧hp2 nx1=some (.arr (.agg 3) [.agg [.int .i64 a, .int .i64 xs[i].t.e, .int .i64 xs[i].t.r]])∧Acc hp2 nx q.2 ((D++nA xs[i].t (ps.take q.1)).map Tm.v))
   (fun q=>ps.length-q.1) (0,o) ⟨Nat.zero_le _,by first|omega|(dsimp only;omega),(by(try dsimp only);repeat (first|exact aT.up hdm (by omega)|refine aT.set2 ?_ (by omega) _|refine aT.del ?_|refine aT.delO ?_ _)),(by(try dsimp only);repeat (first|exact hsm|refine bV ?_ (by omega) _|refine cN ?_ (by omega))),by simp[Hp.set],?_⟩ ?_ ?_
  ·simp only[List.take_zero,nA,List.append_nil]
   exact(by(try dsimp only);repeat' (first|exact hacc|exact Acc.new _ (by simp) (by omega)|exact mW.new (by omega)|exact aT.ntip hdm (by omega)|exact kP|exact mB (by assumption)|refine kN (by omega) ?_|refine kO ?_|refine Acc.set ?_ ?_ _|refine mW.set ?_ ?_ _))
  ·simp only[WkL,aD,jH,jI,jJ,tms,nA,List.take_zero,List.append_nil,go_sem,reduceIte,jA,jB,jC,jD,reduceCtorEq,jE,jF]
  rintro⟨k,o2⟩ hp2 nx2 ⟨hk,hnx2,hdm2,hsm2,hbx,hacc2⟩
  generalize hQ2:fF _ _ _ _ _=Q2
  dsimp only at hk hacc2
  simp only[aD,tms,go_sem,reduceIte,jA,jB,jC,jD,reduceCtorEq,jE,jF]
  have hlt0:nx1<nx2:=by omega
  have hcap:(D++nA xs[i].t (ps.take k)).length≤1000000:=by
   have h1:=aCQ xs[i].t (ps.take k)
   have h2:(ps.take k).length≤1000:=by rw[List.length_take];omega
   rw[List.length_append];omega
  rcases Nat.lt_or_ge k ps.length with hltk|hgek
  ·have hck:decide ((k:Int)<(ps.length:Int))=true:=decide_eq_true (by omega)
   have hgk:(ps.map Pa.v).getD k (.tup [])=ps[k].v:=lN Pa.v _ ps k hltk
   have hwk:IntKind.i64.wrap ((k:Int)+1)=((k+1:Nat):Int):=by rw[cS]<;>omega
   have hof:∀h,cM Tryz.prog 125 [ps[k].v, .agg [.int .i64 xs[i].t.e, .int .i64 xs[i].t.r]] h (.tup [(ps[k].of xs[i].t).1.v,nL (ps[k].of xs[i].t).2]):=fun h=>aCG ps[k] xs[i].t h
   have hpf:=ps[k].fits_v
   (repeat' (first|(with_reducible first|refine stp ?_|refine uP (by decide) ?_|refine uQ (fun _=>?_) (fun _=>?_))|((first|(with_reducible refine uA ?_;first|refine uB rfl ?_ ?_|refine aJ (hof _) rfl (aS _) ?_|refine pN (n0:=nx) rfl (by(try dsimp only);repeat' (first|exact hacc2|exact Acc.new _ (by simp) (by omega)|exact mW.new (by omega)|exact aT.ntip hdm2 (by omega)|exact kP|exact mB (by assumption)|refine kN (by omega) ?_|refine kO ?_|refine Acc.set ?_ ?_ _|refine mW.set ?_ ?_ _)) rfl (by simp) (by simp only[jK,hbx,hlt0,hck,hgk,hltk,hwk,lB,Tm.fits_v,hpf,jK,jG,go_sem,reduceIte,jA,jB,jC,jD,reduceCtorEq,jE,jF];try omega) ?_|(first|refine uC rfl ?_|refine uD rfl ?_)|refine uE rfl ?_)|(with_reducible refine uF ?_;first|refine uG rfl ?_ ?_|(first|refine uH rfl ?_|refine uI rfl ?_)|refine uJ rfl ?_|refine uK (uL ?_)|refine uK (uM ?_))|(with_reducible refine uN ?_;refine uO rfl ?_))<;>try simp only[hbx,hlt0,hck,hgk,hltk,hwk,lB,Tm.fits_v,hpf,jK,jG,go_sem,reduceIte,jA,jB,jC,jD,reduceCtorEq,jE,jF])|(with_reducible refine uR ?_;refine uS rfl ?_)|omega))
   ·rename_i hx
    have hn:nA xs[i].t (ps.take (k+1))=nA xs[i].t (ps.take k)++[(ps[k].of xs[i].t).1]:=by rw[aBo _ _ _ hltk,if_pos (of_decide_eq_true hx)]
    rw[←hQ2]
    refine aL (k+1, .tok (nx2+5)) (by dsimp only;omega) ⟨hltk,by first|omega|(dsimp only;omega),(by(try dsimp only);repeat (first|exact aT.up hdm2 (by omega)|refine aT.set2 ?_ (by omega) _|refine aT.del ?_|refine aT.delO ?_ _)),(by(try dsimp only);repeat (first|exact hsm2|refine bV ?_ (by omega) _|refine cN ?_ (by omega)|refine kX ?_ (fun id e=>by have:=(hacc2).ge id e;omega))),?_,?_⟩ ?_
    ·simp only[Hp.set_app]
     rw[if_neg (by omega),aFO hacc2 hbx]
     simp only[Hp.set_app]
     repeat rw[if_neg (by omega)]
     exact hbx
    ·dsimp only;rw[hn,←List.append_assoc,List.map_append];exact Acc.new _ (by simp) (by omega)
    simp only[WkL,aD,jH,jI,jJ,tms,hn,List.map_append,List.map_cons,List.map_nil,List.append_assoc,go_sem,reduceIte,jA,jB,jC,jD,reduceCtorEq,jE,jF]
   rename_i hx
   have hn:nA xs[i].t (ps.take (k+1))=nA xs[i].t (ps.take k):=by rw[aBo _ _ _ hltk,if_neg (of_decide_eq_false hx),List.append_nil]
   rw[←hQ2]
   refine aL (k+1,o2) (by dsimp only;omega) ⟨hltk,by first|omega|(dsimp only;omega),(by(try dsimp only);repeat (first|exact aT.up hdm2 (by omega)|refine aT.set2 ?_ (by omega) _|refine aT.del ?_|refine aT.delO ?_ _)),(by(try dsimp only);repeat (first|exact hsm2|refine bV ?_ (by omega) _|refine cN ?_ (by omega)|refine kX ?_ (fun id e=>by have:=(hacc2).ge id e;omega))),?_,?_⟩ ?_
   ·simp only[Hp.set_app]
    repeat rw[if_neg (by omega)]
    exact hbx
   ·dsimp only;rw[hn];exact(by(try dsimp only);repeat' (first|exact hacc2|exact Acc.new _ (by simp) (by omega)|exact mW.new (by omega)|exact aT.ntip hdm2 (by omega)|exact kP|exact mB (by assumption)|refine kN (by omega) ?_|refine kO ?_|refine Acc.set ?_ ?_ _|refine mW.set ?_ ?_ _))
   simp only[WkL,aD,jH,jI,jJ,tms,hn,go_sem,reduceIte,jA,jB,jC,jD,reduceCtorEq,jE,jF]
  have hck:decide ((k:Int)<(ps.length:Int))=false:=decide_eq_false (by omega)
  have hil:ps.take k=ps:=List.take_of_length_le (by omega)
  rw[hil] at hacc2⊢
  have hnext:frT T b (xs.take (i+1))=D++nA xs[i].t ps:=by rw[aGF T b xs i hlt,hta,←hD,←hps]
  (repeat' (first|(with_reducible first|refine stp ?_|refine uP (by decide) ?_|refine uQ (fun _=>?_) (fun _=>?_))|((first|(with_reducible refine uA ?_;first|refine uB rfl ?_ ?_|(first|refine uC rfl ?_|refine uD rfl ?_)|refine uE rfl ?_)|(with_reducible refine uF ?_;first|refine uG rfl ?_ ?_|(first|refine uH rfl ?_|refine uI rfl ?_)|refine uJ rfl ?_|refine uK (uL ?_)|refine uK (uM ?_))|(with_reducible refine uN ?_;refine uO rfl ?_))<;>try simp only[hck,hw,go_sem,reduceIte,jA,jB,jC,jD,reduceCtorEq,jE,jF])|(with_reducible refine uR ?_;refine uS rfl ?_)|omega))
  rw[←hQ2]
  clear hQ2 Q2
  (repeat' (first|(with_reducible first|refine stp ?_|refine uP (by decide) ?_|refine uQ (fun _=>?_) (fun _=>?_))|((first|(with_reducible refine uA ?_;first|refine uB rfl ?_ ?_|(first|refine uC rfl ?_|refine uD rfl ?_)|refine uE rfl ?_)|(with_reducible refine uF ?_;first|refine uG rfl ?_ ?_|(first|refine uH rfl ?_|refine uI rfl ?_)|refine uJ rfl ?_|refine uK (uL ?_)|refine uK (uM ?_))|(with_reducible refine uN ?_;refine uO rfl ?_))<;>try simp only[hw,go_sem,reduceIte,jA,jB,jC,jD,reduceCtorEq,jE,jF])|(with_reducible refine uR ?_;refine uS rfl ?_)|omega))
  rw[←hQ]
  refine aL (i+1,o2) (by dsimp only;omega) ⟨hlt,by first|omega|(dsimp only;omega),(by(try dsimp only);repeat (first|exact aT.up hdm2 (by omega)|refine aT.set2 ?_ (by omega) _|refine aT.del ?_|refine aT.delO ?_ _)),hsm2,by dsimp only;rw[hnext];exact hacc2⟩ ?_
  simp only[WkL,aD,jH,jI,jJ,tms,hnext,go_sem,reduceIte,jA,jB,jC,jD,reduceCtorEq,jE,jF]
 have hc1:decide ((i:Int)<(xs.length:Int))=false:=decide_eq_false (by omega)
 have hil:xs.take i=xs:=List.take_of_length_le (by omega)
 have hcap:(frT T b xs).length≤1000000:=by
  have:=yK T b 1000 (fun a=>hlen a b) xs
  omega
 rw[hil] at hacc⊢
 (repeat' (first|(with_reducible first|refine stp ?_|refine uP (by decide) ?_|refine uQ (fun _=>?_) (fun _=>?_))|((first|(with_reducible refine uA ?_;first|refine uB rfl ?_ ?_|(first|refine uC rfl ?_|refine uD rfl ?_)|refine uE rfl ?_)|(with_reducible refine uF ?_;first|refine uG rfl ?_ ?_|(first|refine uH rfl ?_|refine uI rfl ?_)|refine uJ rfl ?_|refine uK (uL ?_)|refine uK (uM ?_))|(with_reducible refine uN ?_;refine uO rfl ?_))<;>try simp only[hc1,go_sem,reduceIte,jA,jB,jC,jD,reduceCtorEq,jE,jF])|(with_reducible refine uR ?_;refine uS rfl ?_)|omega))
 rw[←hQ]
 (repeat' (first|(with_reducible first|refine stp ?_|refine uP (by decide) ?_|refine uQ (fun _=>?_) (fun _=>?_))|((first|(with_reducible refine uA ?_;first|refine uB rfl ?_ ?_|refine aJ (aCi _ _ hcap _) rfl (aS _) ?_|(first|refine uC rfl ?_|refine uD rfl ?_)|refine uE rfl ?_)|(with_reducible refine uF ?_;first|refine uG rfl ?_ ?_|(first|refine uH rfl ?_|refine uI rfl ?_)|refine uJ rfl ?_|refine uK (uL ?_)|refine uK (uM ?_))|(with_reducible refine uN ?_;refine uO rfl ?_))<;>try simp only[ go_sem,reduceIte,jA,jB,jC,jD,reduceCtorEq,jE,jF])|(with_reducible refine uR ?_;refine uS rfl ?_)|omega))
 refine aM h' (hsm.le hd (Hp.le_refl _)) ⟨?_,rfl⟩
 simp only[go_sem,reduceIte,jA,jB,jC,jD,reduceCtorEq,jE,jF]
/-
Counts:Front. No conditions.
-/
theorem aCH{T:Nat→Nat→List Pa}{b:Nat}{xs ys:List Sp}(h:xs.Perm ys):ofT (frT T b xs)=ofT (frT T b ys):=by
 refine aFk fun x _=>?_
 simp only[frT,List.mem_flatMap]
 exact⟨fun⟨s,h1,h2⟩=>⟨s,h.mem_iff.1 h1,h2⟩,fun⟨s,h1,h2⟩=>⟨s,h.mem_iff.2 h1,h2⟩⟩
theorem sT{h:Hp}{cb m c:Nat}{P:Int}{wv:V}{ot:Own}{rows:List V}{l:List CE}(hc:hZ h cb m P wv (.sl .leaf ot rows) l c)(hok:iE l c)(hl:l.length≤900)(T:Nat→Nat→List Pa)(n:Nat)(hP:P=n)(hT:aHD T n rows)(hlen:∀a b,(T a b).length≤1000)
 (hin:∀y∈l,0≤y.s.p∧y.s.p<n) (b:Nat) (hb:b<n):
 cM Tryz.prog 29 [.ptr cb (.agg 4) 0 0, .int .i64 b] h (lst (.agg 2) ((ofT (frT T b (iB l))).map Tm.v)):=by
 refine bL (fun L=>iJ (fun L=>eV (Tm.names_v L) _) L) fun h' nx hh=>aG L.count_Counts_Front_low fun hd=>?_
 simp only[jL,jM,jA,jB,jN,jO,jP,jQ,V.undef]
 have hc':hZ h' cb m P wv (.sl .leaf ot rows) l c:=⟨hh _ _ hc.cell rfl,hh _ _ hc.mp rfl,hc.wf,hc.lf⟩
 have hcb:=hc'.cell
 have n1:cb<nx:=hd _ _ hcb
 have n2:m<nx:=hd _ _ hc'.mp
 have h1:decide ((b:Int)<0)=false:=decide_eq_false (by omega)
 have h2:decide (P≤(b:Int))=false:=decide_eq_false (by omega)
 have h3:decide ((b:Int)≥P)=false:=decide_eq_false (by omega)
 (repeat' (first|(with_reducible first|refine stp ?_|refine uP (by decide) ?_|refine uQ (fun _=>?_) (fun _=>?_))|((first|(with_reducible refine uA ?_;first|refine uB rfl ?_ ?_|(first|refine uC rfl ?_|refine uD rfl ?_)|refine uE rfl ?_)|(with_reducible refine uF ?_;first|refine uG rfl ?_ ?_|(first|refine uH rfl ?_|refine uI rfl ?_)|refine uJ rfl ?_|refine uK (uL ?_)|refine uK (uM ?_))|(with_reducible refine uN ?_;refine uO rfl ?_))<;>try simp only[hcb,qU,h1,h2,h3,go_sem,reduceIte,jA,jB,jC,jD,reduceCtorEq,jE,jF])|(with_reducible refine uR ?_;refine uS rfl ?_)|omega))
 refine bU ((xV hc' hok (by omega)).mono ?_)
 rintro v h4 nx4 hnx4 ⟨o,xs,rfl,hperm,hacc,hsm⟩
 unfold gM
 simp only[go_sem,reduceIte,jA,jB,jC,jD,reduceCtorEq,jE,jF]
 have hc4:hZ h4 cb m P wv (.sl .leaf ot rows) l c:=⟨by rw[hsm cb n1];exact hcb,by rw[hsm m n2];exact hc'.mp,hc.wf,hc.lf⟩
 have hxl:xs.length≤900:=by rw[hperm.length_eq];have:=pS l;omega
 have hxs:∀s∈xs,0≤s.p∧s.p<n:=fun s hs=>by
  have:=hperm.mem_iff.1 hs
  unfold iB at this
  obtain⟨y,hy,rfl⟩:=List.mem_map.1 this
  exact hin y (List.mem_filter.1 hy).1
 (repeat' (first|(with_reducible first|refine stp ?_|refine uP (by decide) ?_|refine uQ (fun _=>?_) (fun _=>?_))|((first|(with_reducible refine uA ?_;first|refine uB rfl ?_ ?_|refine aJ (aAb hc4 T n hP hT hlen o xs hxl hxs b hb) rfl (aS _) ?_|(first|refine uC rfl ?_|refine uD rfl ?_)|refine uE rfl ?_)|(with_reducible refine uF ?_;first|refine uG rfl ?_ ?_|(first|refine uH rfl ?_|refine uI rfl ?_)|refine uJ rfl ?_|refine uK (uL ?_)|refine uK (uM ?_))|(with_reducible refine uN ?_;refine uO rfl ?_))<;>try simp only[ go_sem,reduceIte,jA,jB,jC,jD,reduceCtorEq,jE,jF])|(with_reducible refine uR ?_;refine uS rfl ?_)|omega))
 refine aM h' (hsm.le hd (Hp.le_refl _)) ⟨?_,rfl⟩
 rw[←aCH hperm]
 simp only[go_sem,reduceIte,jA,jB,jC,jD,reduceCtorEq,jE,jF]
/-
Counts:New. No conditions.
-/
theorem aBW:aH Tryz.prog 71=some (LB.Clone (.agg 4) 32):=by kernel_rfl
theorem qZ(n:Nat)(l:List We):aHD (eW l) n (mG n l n):=by
 refine⟨by simp[mG],fun a b ha hb=>?_⟩
 have h1:(mG n l n).getD a (.tup [])=sU n l a:=by
  unfold mG
  rw[lN _ _ _ a (by simpa using ha)]
  simp
 obtain⟨oc,hoc⟩:=mN (.agg 2) ((eW l a b).map Pa.v)
 refine⟨.free,_,h1,by simp[sV],oc,?_⟩
 rw[lN _ _ _ b (by simpa [sV] using hb)]
 simp[sV,hoc]
theorem aDi(L:Nat→Prop)(n:Nat)(l:List We)(a:Nat):(sU n l a).names L:=by
 unfold sU
 simp only[V.names,true_and,and_true]
 refine⟨fun n e=>(by cases e),?_⟩
 exact eV (f:=fun m:List Pa=>lst (.agg 2) (m.map Pa.v)) (fun m=>iJ (fun L=>eV (Pa.names_v L) m) L) _
theorem aFV{P:Program}{f:FuncId}{args:List V}{h:Hp}{nx:Nat}{R:V→Hp→Nat→Prop}(hen:iU P f=true)(c:aT h nx→bM P f args h nx R):bM P f args h nx R:=
 ⟨hen,fun K cargs hl hrel hv=>(c (fun m b hm=>hl m (hrel.lt m b hm))).2 K cargs hl hrel hv⟩
theorem aGS(o:Own){P:Int}{ws:List Wy}{n:Nat}{l:List We}(R:qL P ws n l)(hl:ws.length≤1000)(h:Hp):cM Tryz.prog 72 [mps o P ws] h (lst .leaf (mG n l n)):=by
 refine iG (fun L=>iJ (fun L=>eV (fun a=>aDi L n l a) _) L) fun h' nx hh=>aFV (aDE o R hl h' nx).1 fun hd=>((aDE o R hl h' nx).mono ?_)
 rintro v h'' nx' hnx ⟨o2,rfl,hacc,hsm⟩
 exact⟨by rw[hacc.loose];rfl,hsm.le hd (Hp.le_refl _)⟩
theorem aFv(o:Own)(ws:List Wy)(hn:o= .nil→ws=[]):(wys o ws).loose=lst (.agg 4) (ws.map Wy.v)∨∃o2,(wys o ws).loose=wys o2 ws:=by
 right
 cases o with
 |nil=>exact⟨.nil,rfl⟩
 |full=>exact⟨.free,rfl⟩
 |free=>exact⟨.free,rfl⟩
 |tok n=>exact⟨.free,rfl⟩
set_option maxRecDepth 100000 in
theorem aCK(o:Own){P:Int}{ws:List Wy}{n:Nat}{l:List We}(R:qL P ws n l)(hl:ws.length≤1000)(hn:o= .nil→ws=[])(h':Hp)(nx:Nat):
 bM Tryz.prog 21 [mps o P ws] h' nx fun v h'' _=>∃cb m o2 ot,v= .tup [.ptr cb (.agg 4) 0 0, .nilIface]∧nx≤cb∧nx≤m∧cb≠m∧h''=(h'.set m (.mp [] 0)).set cb (.arr (.agg 4) [qU P (wys o2 ws) (.sl .leaf ot (mG n l n)) m]):=by
 have hr:nX P ws=true:=(nW P ws).2 ⟨n,l,R⟩
 refine aG L.count_New_low fun hd=>?_
 have hmf:(mps o P ws).fits (.agg 2)=true:=by simp[mps,V.fits,V.leafy,wys]
 simp only[jL,jM,jA,jB,jN,jO,jP,jQ,V.undef]
 obtain⟨o2,ho2⟩:∃o2,(wys o ws).loose=wys o2 ws:=by
  rcases aFv o ws hn with h|h
  ·obtain⟨ox,hx⟩:=mN (.agg 4) (ws.map Wy.v)
   exact⟨ox,h.trans hx⟩
  exact h
 have hcl:∀h,cM Tryz.prog 71 [wys o ws] h (wys o2 ws):=fun h=>by
  have:=aAq aBW (by omega) o (ws.map Wy.v) (by simp;omega) (fun e=>by rw[hn e];rfl) (fun L=>eV (Wy.names_v L) _) h
  rw[show(V.sl (.agg 4) o (ws.map Wy.v)).loose=wys o2 ws from ho2] at this
  exact this
 obtain⟨ot,hot⟩:=mN .leaf (mG n l n)
 have hall:∀h,cM Tryz.prog 72 [mps o2 P ws] h (.sl .leaf ot (mG n l n)):=fun h=>by
  have:=aGS o2 R hl h
  rw[hot] at this;exact this
 have hlw:(wys o2 ws).leafy=true:=rfl
 have hmps:∀o,mps o P ws= .agg [.int .i64 P,wys o ws]:=fun _=>rfl
 simp only[hmps] at hall hmf⊢
 (repeat' (first|(with_reducible first|refine stp ?_|refine uP (by decide) ?_|refine uQ (fun _=>?_) (fun _=>?_))|((first|(with_reducible refine uA ?_;first|refine uB rfl ?_ ?_|refine aJ (oX o P ws hl _) rfl (aS _) ?_|(first|refine uC rfl ?_|refine uD rfl ?_)|refine uE rfl ?_)|(with_reducible refine uF ?_;first|refine uG rfl ?_ ?_|refine cT (hcl _) rfl (dR _) ?_|refine cT (hall _) rfl (dR _) ?_|(first|refine uH rfl ?_|refine uI rfl ?_)|refine uJ rfl ?_|refine uK (uL ?_)|refine uK (uM ?_))|(with_reducible refine uN ?_;refine uO rfl ?_))<;>try simp only[hmf,hr,hlw,go_sem,reduceIte,jA,jB,jC,jD,reduceCtorEq,jE,jF])|(with_reducible refine uR ?_;refine uS rfl ?_)|omega))
 refine pH ((h'.set (nx+12) (.mp [] 0)).set (nx+14) (.arr (.agg 4) [qU P (wys o2 ws) (.sl .leaf ot (mG n l n)) (nx+12)])) ?_ ⟨nx+14,nx+12,o2,ot,rfl,by omega,by omega,by omega,rfl⟩
 intro q b hb
 simp only[Hp.set_app] at hb⊢
 split at hb
 ·rename_i e;rw[if_pos e];exact hb
 rename_i e
 rw[if_neg e]
 split at hb
 ·rename_i e2;rw[if_pos e2];exact hb
 rename_i e2
 have:=hd q b hb
 rw[if_neg e2]
 repeat rw[if_neg (by omega)]
 exact hb
theorem aEI(o:Own){P:Int}{ws:List Wy}(hr:nX P ws=false)(hl:ws.length≤1000)(h:Hp):
 cM Tryz.prog 21 [mps o P ws] h (.tup [.nilPtr,nL 2]):=by
 have hmf:(mps o P ws).fits (.agg 2)=true:=by simp[mps,V.fits,V.leafy,wys]
 refine bL (fun L=>by simp[V.names,dY,nL]) fun h' nx hh=>aG L.count_New_low fun hd=>?_
 simp only[jL,jM,jA,jB,jN,jO,jP,jQ,V.undef]
 (repeat' (first|(with_reducible first|refine stp ?_|refine uP (by decide) ?_|refine uQ (fun _=>?_) (fun _=>?_))|((first|(with_reducible refine uA ?_;first|refine uB rfl ?_ ?_|refine aJ (oX o P ws hl _) rfl (aS _) ?_|(first|refine uC rfl ?_|refine uD rfl ?_)|refine uE rfl ?_)|(with_reducible refine uF ?_;first|refine uG rfl ?_ ?_|(first|refine uH rfl ?_|refine uI rfl ?_)|refine uJ rfl ?_|refine uK (uL ?_)|refine uK (uM ?_))|(with_reducible refine uN ?_;refine uO rfl ?_))<;>try simp only[hmf,hr,go_sem,reduceIte,jA,jB,jC,jD,reduceCtorEq,jE,jF])|(with_reducible refine uR ?_;refine uS rfl ?_)|omega))
 exact pH h' (by repeat (first|exact Hp.le_refl _|refine aW hd ?_ (by omega) _|refine bD hd ?_ (by omega))) ⟨rfl,rfl⟩
end Go.Proofs.YthikfnmcjipobaaGreat
/-
Counts:the chapter's example,as data. Plain laws. No conditions.
-/
namespace Go.Proofs.YthikfnmcjipobaaGreat
set_option linter.unusedSimpArgs false
set_option linter.unusedVariables false
set_option linter.unusedSectionVars false
open Go.RowKit Go.Sort
def wM:List We:=[⟨0,1,⟨false,0⟩⟩]
def qT:List Wy:=[⟨0,1,⟨false,0⟩⟩]
theorem aBk:eY qT=qT:=by rw[tT];decide
theorem aEG:iP 2 qT=((2,qT),0):=by
 have h1:¬((2:Int)<0∨(200:Int)<2∨∃w∈qT,w.fit 2=false):=by decide
 have h2:¬(1048576:Int)<jV qT:=by decide
 have h3:¬(aFX (qT.map Wy.we)∨aBF (qT.map Wy.we)):=by
  rintro(⟨y,hy⟩|⟨w,hw,hn,_⟩)
  ·have e1:∀a b,(a,b)∈zE (qT.map Wy.we)→a=0∧b=1:=by
    intro a b h
    have h:(a,b)∈ [((0:Nat),(1:Nat))]:=h
    simpa using h
   cases hy with
   |one h=>have:=e1 _ _ h;omega
   |cons h k=>
    have h1:=e1 _ _ h
    have:=k.closed (S:=fun x=>x=1) (fun a b ha hb=>(e1 _ _ hb).2) h1.2
    omega
  simp[qT,Wy.we] at hw
  rcases hw with rfl
  cases hn
 unfold iP
 rw[if_neg h1,aBk,if_neg h2,if_neg h3]
theorem aFg:qL 2 qT 2 wM:=by
 have h:(iP 2 qT).2=0:=by rw[aEG]
 obtain⟨n,l,R⟩:=aCN h
 rw[aBk] at R
 have hn:n=2:=by have:=R.pl;omega
 have hl:l=wM:=by
  have h2:=R.eq
  have hlen:l.length=1:=by have:=congrArg List.length h2;simpa [qT] using this.symm
  obtain⟨b,rfl⟩:=List.length_eq_one_iff.1 hlen
  obtain⟨f,t,p⟩:=b
  simp only[qT,List.map_cons,List.map_nil,We.wy,List.cons.injEq,Wy.mk.injEq,and_true] at h2
  obtain⟨q1,q2,q3⟩:=h2
  have e1:f=0:=by omega
  have e2:t=1:=by omega
  subst e1 e2
  rw[←q3];rfl
 subst hn hl
 exact R
theorem aFh:eW wM 0 1=[Pa.nought]:=
 wS ⟨by simp[Can],(fun p hp=>by simp at hp;subst hp;exact⟨wM,⟨by simp[wM],rfl,rfl⟩,rfl⟩),fun p ⟨l,h1,h2⟩=>⟨Pa.nought,by simp,aGj l (fun w hw=>by
  have:=aCq h1 w hw
  simp[wM] at this
  rcases this with rfl
  rfl) h2⟩⟩
theorem aFi:ofT (frT (eW wM) 1 [⟨0,⟨2,0⟩⟩])=[⟨2,0⟩]:=by
 have h:frT (eW wM) 1 [⟨0,⟨2,0⟩⟩]=[⟨2,0⟩]:=by
  unfold frT
  simp only[List.flatMap_cons,List.flatMap_nil,List.append_nil,Int.toNat_zero,show((0:Int).toNat)=0 from rfl,aFh]
  decide
 rw[h,aDX]
 decide
end Go.Proofs.YthikfnmcjipobaaGreat
/-
Counts:law23's alive. No conditions.
-/
namespace Go.Proofs.YthikfnmcjipobaaGreat
open Go.Proofs.YthikfnmcjipobaaGreat renaming iW→uA,gV→uB,fA→uC,fB→uD,dO→uE,iZ→uF,fQ→uG,fC→uH,fD→uI,dP→uJ,fZ→uK,fP→uL,gZ→uM,jS→uN,gB→uO,bT→uP,kK→uQ,iY→uR,gE→uS
open Nat renaming reduceAdd→jA,reduceSub→jB,reduceLT→jC,reduceLeDiff→jD,reduceEqDiff→jE
open Int renaming reduceToNat→jF,toNat_natCast→jG,natCast_add→jH,natCast_one→jI,natCast_zero→jJ
open List renaming length_map→jK,length_cons→jL,length_nil→jM,replicate_succ→jN,replicate_zero→jO,cons_append→jP,nil_append→jQ
set_option linter.unusedSimpArgs false
set_option linter.unusedVariables false
set_option linter.unusedSectionVars false
open Go.RowKit
def aIk:Cg:=⟨⟨0,⟨2,0⟩⟩,1⟩
theorem aFj:dV 2 [] 0 [aIk]=(0,[⟨⟨0,⟨2,0⟩⟩,1,0⟩],1):=by decide
def aHh:List CE:=[⟨⟨0,⟨2,0⟩⟩,1,0⟩]
theorem aHg:iE aHh 1:=⟨by decide,by decide,by decide,by decide⟩
theorem aGo:iB aHh=[⟨0,⟨2,0⟩⟩]:=by decide
attribute [local irreducible] IntKind.wrap
attribute [local go_sem] Option.some.injEq Prod.mk.injEq false_and and_false Bool.true_eq_false mP jR jX gG iV if_true Bool.true_and mF dS iH gL dQ aA.ok aA.next LOp.ok LOp.next bC.ok bC.out aQ.ev bN iI cH bO cO V.undef Sh.size gH fW cK aA.dok aA.dres LOp.dok LOp.dout lI iD gI eX List.take_succ_cons List.take_zero List.take_nil List.drop_succ_cons List.drop_zero List.drop_nil List.set_cons_succ List.set_cons_zero List.getD_cons_succ List.getD_cons_zero jL jM List.map_cons List.map_nil List.all_cons List.all_nil List.mem_cons List.not_mem_nil jN jO jP jQ List.append_nil List.isEmpty_cons List.isEmpty_nil dW fJ hM Option.getD_some Option.isSome_some Option.isSome_none Nat.add_eq Nat.zero_add Nat.add_zero true_and and_true and_self true_implies implies_true false_implies forall_const forall_eq forall_eq_or_imp ne_eq not_false_eq_true not_true_eq_false Bool.not_true Bool.not_false decide_true decide_false Bool.and_true Bool.true_and Bool.and_false Bool.false_and true_or or_true false_or or_false eq_self Bool.false_eq_true mK iO gC aD fH eT eB dU cL dT aZ aX dN jG Int.toNat_zero List.take_length Hp.set_app Hp.del_app gW fV aA.plain LOp.isCall aA.dplain LOp.isStop eM kT gY lY fN V.gd_true V.gd_false fM eK eL fL bG aY aU fK eS beq_true beq_false dD dE dF cB cC bH bI cP eQ cE dK dH bJ dI dL eN eO bK dJ bF cD eP bP dG bQ bB gQ gO gP gN dM cG dX cR eG eF eE eD eC bX bW cZ cY cX cA bZ bY eJ eI eH dC dB dA cQ cF bS kM Hp.turn fT Option.isNone_some Option.isNone_none oL gF fO aA.plain2 LOp.isApp oM lP lQ iQ fS fR
theorem qD(l:List We)(a k:Nat):(eW l a k).length≤2:=by
 unfold eW
 split
 ·rename_i h;exact wA (Classical.choose_spec h).can
 simp
theorem wC(h:Hp):cM Tryz.prog 12 [] h (.bool true):=by
 refine bL (fun L=>trivial) fun h' nx hh=>aG L.corollarylaw23_alive_low fun hd=>?_
 simp only[jL,jM,jA,jB,jN,jO,jP,jQ,V.undef]
 have hnew:∀o h,cM Tryz.prog 61 [.int .i64 2, .sl (.agg 4) o [.agg [.int .i64 0, .int .i64 1, .bool false, .int .i64 0]]] h (.tup [.agg [.int .i64 2, .sl (.agg 4) .free (qT.map Wy.v)], .nilIface]):=fun o h=>by
  have:=aCM o 2 qT (by decide) h
  rw[aEG] at this
  exact this
 (repeat' (first|(with_reducible first|refine stp ?_|refine uP (by decide) ?_|refine uQ (fun _=>?_) (fun _=>?_))|((first|(with_reducible refine uA ?_;first|refine uB rfl ?_ ?_|refine aJ (hnew _ _) rfl (aS _) ?_|(first|refine uC rfl ?_|refine uD rfl ?_)|refine uE rfl ?_)|(with_reducible refine uF ?_;first|refine uG rfl ?_ ?_|(first|refine uH rfl ?_|refine uI rfl ?_)|refine uJ rfl ?_|refine uK (uL ?_)|refine uK (uM ?_))|(with_reducible refine uN ?_;refine uO rfl ?_))<;>try simp only[ go_sem,reduceIte,jA,jB,jC,jD,reduceCtorEq,jE,jF])|(with_reducible refine uR ?_;refine uS rfl ?_)|omega))
 refine bU ((aCK .free aFg (by decide) (by simp) _ _).dom.mono ?_)
 rintro v h3 nx3 hnx3 ⟨⟨cb,m,o2,ot,rfl,hcb,hm,hne,rfl⟩,hdm3,_⟩
 have k1:=hdm3 cb _ (by simp[Hp.set];rfl)
 have k2:m<nx3:=hdm3 m (.mp [] 0) (by simp only[Hp.set_app];rw[if_neg (by omega)];simp)
 unfold gM
 simp only[go_sem,reduceIte,jA,jB,jC,jD,reduceCtorEq,jE,jF]
 (repeat' (first|(with_reducible first|refine stp ?_|refine uP (by decide) ?_|refine uQ (fun _=>?_) (fun _=>?_))|((first|(with_reducible refine uA ?_;first|refine uB rfl ?_ ?_|(first|refine uC rfl ?_|refine uD rfl ?_)|refine uE rfl ?_)|(with_reducible refine uF ?_;first|refine uG rfl ?_ ?_|(first|refine uH rfl ?_|refine uI rfl ?_)|refine uJ rfl ?_|refine uK (uL ?_)|refine uK (uM ?_))|(with_reducible refine uN ?_;refine uO rfl ?_))<;>try simp only[ go_sem,reduceIte,jA,jB,jC,jD,reduceCtorEq,jE,jF])|(with_reducible refine uR ?_;refine uS rfl ?_)|omega))
 refine bU ((aAu (.tok nx3) [aIk] (by decide) [] 0 (mU 0) 2 (wys o2 qT) (.sl .leaf ot (mG 2 wM 2)) cb m _ _ ⟨?_,?_,rfl,rfl⟩).mono ?_)
 ·simp only[Hp.set_app];rw[if_neg (by omega)];simp
 ·simp only[Hp.set_app];rw[if_neg (by omega),if_neg (by omega)];simp
 rintro v h6 nx6 hnx6 ⟨hv,hq⟩
 rw[aFj] at hv hq
 have hv0:v= .nilIface:=hv
 subst hv0
 rcases hq with⟨h0,_⟩|⟨_,m2,hm2,hh6⟩
 ·exact absurd rfl h0
 dsimp only at hcb hm hm2 hh6
 have hc6:hZ h6 cb m2 2 (wys o2 qT) (.sl .leaf ot (mG 2 wM 2)) aHh 1:=by
  refine⟨by rw[hh6];simp[Hp.set],?_,rfl,rfl⟩
  rw[hh6]
  simp only[Hp.set_app]
  rw[if_neg (by omega)]
  simp[aHh]
 have hfr:cM Tryz.prog 29 [.ptr cb (.agg 4) 0 0, .int .i64 1] h6 (.sl (.agg 2) .free [.agg [.int .i64 2, .int .i64 0]]):=by
  have:=sT hc6 aHg (by decide) (eW wM) 2 rfl (qZ 2 wM) (fun a b=>by have:=qD wM a b;omega) (by decide) 1 (by decide)
  rw[aGo,aFi] at this
  exact this
 have hle:h'.le h6:=by
  rw[hh6]
  intro q b hb
  have:=hd q b hb
  simp only[Hp.set_app]
  repeat rw[if_neg (by omega)]
  exact hb
 clear hh6
 unfold gM
 simp only[go_sem,reduceIte,jA,jB,jC,jD,reduceCtorEq,jE,jF]
 have q0:((2:Int)==2)=true:=by decide
 have q1:((0:Int)==0)=true:=by decide
 have q2:(((1:Nat):Int)==1)=true:=by decide
 (repeat' (first|(with_reducible first|refine stp ?_|refine uP (by decide) ?_|refine uQ (fun _=>?_) (fun _=>?_))|((first|(with_reducible refine uA ?_;first|refine uB rfl ?_ ?_|refine aJ (hfr) rfl (aS _) ?_|(first|refine uC rfl ?_|refine uD rfl ?_)|refine uE rfl ?_)|(with_reducible refine uF ?_;first|refine uG rfl ?_ ?_|(first|refine uH rfl ?_|refine uI rfl ?_)|refine uJ rfl ?_|refine uK (uL ?_)|refine uK (uM ?_))|(with_reducible refine uN ?_;refine uO rfl ?_))<;>try simp only[q0,q1,q2,go_sem,reduceIte,jA,jB,jC,jD,reduceCtorEq,jE,jF])|(with_reducible refine uR ?_;refine uS rfl ?_)|omega))
 refine aM h' hle ⟨?_,rfl⟩
 simp only[go_sem,reduceIte,jA,jB,jC,jD,reduceCtorEq,jE,jF]
end Go.Proofs.YthikfnmcjipobaaGreat
/-
CountSums,the law's walk. No conditions.
-/
namespace Go.Proofs.YthikfnmcjipobaaGreat
open Go.Proofs.YthikfnmcjipobaaGreat renaming iW→uA,gV→uB,fA→uC,fB→uD,dO→uE,iZ→uF,fQ→uG,fC→uH,fD→uI,dP→uJ,fZ→uK,fP→uL,gZ→uM,jS→uN,gB→uO,bT→uP,kK→uQ,iY→uR,gE→uS
open Nat renaming reduceAdd→jA,reduceSub→jB,reduceLT→jC,reduceLeDiff→jD,reduceEqDiff→jE
open Int renaming reduceToNat→jF,toNat_natCast→jG,natCast_add→jH,natCast_one→jI,natCast_zero→jJ
open List renaming length_map→jK,length_cons→jL,length_nil→jM,replicate_succ→jN,replicate_zero→jO,cons_append→jP,nil_append→jQ
set_option linter.unusedSimpArgs false
set_option linter.unusedVariables false
set_option linter.unusedSectionVars false
open Go.RowKit
attribute [local irreducible] IntKind.wrap
attribute [local go_sem] Option.some.injEq Prod.mk.injEq false_and and_false Bool.true_eq_false mP jR jX gG iV if_true Bool.true_and mF dS iH gL dQ aA.ok aA.next LOp.ok LOp.next bC.ok bC.out aQ.ev bN iI cH bO cO V.undef Sh.size gH fW cK aA.dok aA.dres LOp.dok LOp.dout lI iD gI eX List.take_succ_cons List.take_zero List.take_nil List.drop_succ_cons List.drop_zero List.drop_nil List.set_cons_succ List.set_cons_zero List.getD_cons_succ List.getD_cons_zero jL jM List.map_cons List.map_nil List.all_cons List.all_nil List.mem_cons List.not_mem_nil jN jO jP jQ List.append_nil List.isEmpty_cons List.isEmpty_nil dW fJ hM Option.getD_some Option.isSome_some Option.isSome_none Nat.add_eq Nat.zero_add Nat.add_zero true_and and_true and_self true_implies implies_true false_implies forall_const forall_eq forall_eq_or_imp ne_eq not_false_eq_true not_true_eq_false Bool.not_true Bool.not_false decide_true decide_false Bool.and_true Bool.true_and Bool.and_false Bool.false_and true_or or_true false_or or_false eq_self Bool.false_eq_true mK iO gC aD fH eT eB dU cL dT aZ aX dN jG Int.toNat_zero List.take_length Hp.set_app Hp.del_app gW fV aA.plain LOp.isCall aA.dplain LOp.isStop eM kT gY lY fN V.gd_true V.gd_false fM eK eL fL bG aY aU fK eS beq_true beq_false dD dE dF cB cC bH bI cP eQ cE dK dH bJ dI dL eN eO bK dJ bF cD eP bP dG bQ bB gQ gO gP gN dM cG dX cR eG eF eE eD eC bX bW cZ cY cX cA bZ bY eJ eI eH dC dB dA cQ cF bS kM Hp.turn fT Option.isNone_some Option.isNone_none oL gF fO aA.plain2 LOp.isApp oM lP lQ iQ fS fR
end Go.Proofs.YthikfnmcjipobaaGreat
/-
Antichains joined,and what paths make of a time. Plain laws. No conditions.
-/
namespace Go.Proofs.YthikfnmcjipobaaGreat
set_option linter.unusedSimpArgs false
set_option linter.unusedVariables false
set_option linter.unusedSectionVars false
theorem aHl:ofT []=[]:=List.eq_nil_of_length_eq_zero (by have:=aEH [];simpa using this)
end Go.Proofs.YthikfnmcjipobaaGreat
