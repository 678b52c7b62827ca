/-
corollarylaw22.PathLeast returns true for every input,and leaves its arguments as they were. Conditions:none.
-/
import Derived.Test.YtmpmngakheoacaaGreatKe
import Derived.Test.YtmpmngakheoacaaGreatKl
import Derived.Test.YtmpmngakheoacaaGreatKh
import Derived.Test.YtmpmngakheoacaaGreatKk
import Derived.Test.YtmpmngakheoacaaGreatKi
namespace Go.Proofs.YtmpmngakheoacaaGreat
open Go.Proofs.YtmpmngakheoacaaGreat renaming kU→uA,iZ→uB,fT→uC,fU→uD,eL→uE,kW→uF,dH→uG,fV→uH,fW→uI,eM→uJ,eS→uK,fK→uL,iR→uM,kX→uN,gV→uO,bG→uP,kY→uQ,kV→uR,gC→uS
open Nat renaming reduceAdd→jA,reduceSub→jB,reduceLT→jC,reduceLeDiff→jD,reduceEqDiff→jE
open Int renaming reduceToNat→jF,toNat_natCast→jG,natCast_add→jH,natCast_one→jI,natCast_zero→jJ
open List renaming length_map→jK,length_cons→jL,length_nil→jM,replicate_succ→jN,replicate_zero→jO,cons_append→jP,nil_append→jQ
set_option linter.unusedSimpArgs false
set_option linter.unusedVariables false
set_option linter.unusedSectionVars false
open Go.ChangeShapes Go.WideShapes Go.ChangeAt Go.RowKit Go.Sort
attribute [local irreducible] IntKind.wrap
attribute [local go_sem] Option.some.injEq Prod.mk.injEq false_and and_false Bool.true_eq_false kA iE kD gA gK if_true Bool.true_and lT dN jX gU dY aA.ok aA.next LOp.ok LOp.next bH.ok bH.out aU.ev bR jY cO bZ dI V.undef Sh.size gS gG cG aA.dok aA.dres LOp.dok LOp.dout mB jT gQ fM List.take_succ_cons List.take_zero List.take_nil List.drop_succ_cons List.drop_zero List.drop_nil List.set_cons_succ List.set_cons_zero List.getD_cons_succ List.getD_cons_zero jL jM List.map_cons List.map_nil List.all_cons List.all_nil List.mem_cons List.not_mem_nil jN jO jP jQ List.append_nil List.isEmpty_cons List.isEmpty_nil eH fQ iU Option.getD_some Option.isSome_some Option.isSome_none Nat.add_eq Nat.zero_add Nat.add_zero true_and and_true and_self true_implies implies_true false_implies forall_const forall_eq forall_eq_or_imp ne_eq not_false_eq_true not_true_eq_false Bool.not_true Bool.not_false decide_true decide_false Bool.and_true Bool.true_and Bool.and_false Bool.false_and true_or or_true false_or or_false eq_self Bool.false_eq_true nJ kE gJ aD fN eR eP eK dE eJ bJ bC dC jG Int.toNat_zero List.take_length Hp.set_app Hp.del_app iP gI aA.plain LOp.isCall aA.dplain LOp.isStop fE lM iQ mT fX V.gd_true V.gd_false gF fC fD gE bS bI aW fY fJ beq_true beq_false dV dW dX cW cX bU bV dL fI cZ eD eA bW eB eE fF fG bX eC bM cY fH cB dZ cE bL iC iA iB hZ eF dB eG dM eY eX eW eV eU cQ cP dR dQ dP cU cT cS fB fA eZ dU dT dS dJ dA bT lH Hp.turn fZ Option.isNone_some Option.isNone_none sC iO gO aA.plain2 LOp.isApp sE nQ nR lP gZ gY
set_option maxRecDepth 100000 in
set_option maxHeartbeats 4000000 in
theorem aAz(o:Own)(P:Int)(ws:List Wy)(x y:Int)(t:Tm):bP Tryz.prog 3 [mps o P ws, .agg [.int .i64 x, .int .i64 y],t.v] Hp.none (.bool true):=by
 have hmf:(mps o P ws).fits (.agg 2)=true:=by simp[mps,V.fits,V.leafy,wys]
 have hft:=Tm.fits_v t
 refine aZ (fun L=>trivial) fun h' nx hh=>aK L.corollarylaw22_PathLeast_low fun hd=>?_
 simp only[jL,jM,jA,jB,jN,jO,jP,jQ,V.undef]
 cases hL:zP P ws with
 |true=>
  (repeat' (first|(with_reducible first|refine stp ?_|refine uP (by decide) ?_|refine uQ (fun _=>?_) (fun _=>?_))|((first|(with_reducible refine uA ?_;first|refine uB rfl ?_ ?_|refine aN (vO _) rfl (aR _) ?_|refine aN (zO o P ws _) rfl (aR _) ?_|(first|refine uC rfl ?_|refine uD rfl ?_)|refine uE rfl ?_)|(with_reducible refine uF ?_;first|refine uG rfl ?_ ?_|(first|refine uH rfl ?_|refine uI rfl ?_)|refine uJ rfl ?_|refine uK (uL ?_)|refine uK (uM ?_))|(with_reducible refine uN ?_;refine uO rfl ?_))<;>try simp only[hmf,hft,hL,go_sem,reduceIte,jA,jB,jC,jD,reduceCtorEq,jE,jF])|(with_reducible refine uR ?_;refine uS rfl ?_)|omega))
  exact aO h' (by repeat (first|exact Hp.le_refl _|refine aQ hd ?_ (by omega) _|refine aV hd ?_ (by omega))) ⟨rfl,rfl⟩
 |false=>
  have hl:=aEQ hL
  obtain⟨o2,ho2⟩:=zD P ws
  have hmf2:(mps o2 P ws).fits (.agg 2)=true:=by simp[mps,V.fits,V.leafy,wys]
  have cD:∀h,bP Tryz.prog 15 [mps o P ws] h (mps o2 P ws):=fun h=>by
   rw[←ho2];exact yE o P ws (by omega) h
  obtain⟨A,hA⟩:∃A,A=kC P ws x y:=⟨_,rfl⟩
  have hAl:A.length≤2:=by rw[hA];exact tD P ws x y
  obtain⟨C,hC⟩:∃C,C=ofT (iD t A):=⟨_,rfl⟩
  have hCl:C.length≤2:=by rw[hC];exact Nat.le_trans (xX _) (Nat.le_trans (tH t A) hAl)
  obtain⟨o1,ho1⟩:=oI (.agg 2) (A.map Pa.v)
  obtain⟨o4,ho4⟩:=oI (.agg 2) (C.map Tm.v)
  have cL:∀h,bP Tryz.prog 17 [mps o P ws, .int .i64 x, .int .i64 y] h (pas o1 A):=fun h=>by
   have e:=wY o P ws (by omega) x y h
   rw[←hA,ho1] at e
   exact e
  have cR:∀h,bP Tryz.prog 18 [mps o2 P ws, .int .i64 x, .int .i64 y] h (pas o1 A):=fun h=>by
   have e:=wW o2 P ws (by omega) x y h
   rw[←hA,ho1] at e
   exact e
  have cC:∀h,bP Tryz.prog 20 [mps o P ws, .int .i64 x,t.v, .int .i64 y] h (tms o4 C):=fun h=>by
   have e:=aCs o P ws (by omega) x y t h
   rw[←hA,←hC,ho4] at e
   exact e
  have rC:∀h,bP Tryz.prog 21 [mps o2 P ws, .int .i64 x,t.v, .int .i64 y] h (tms o4 C):=fun h=>by
   have e:=aCm o2 P ws (by omega) x y t h
   rw[←hA,←hC,ho4] at e
   exact e
  have cI:∀h,bP Tryz.prog 19 [tms o4 C,tms o4 C] h (.bool true):=fun h=>by
   have e:=aGk o4 o4 C C (by omega) h
   rw[decide_eq_true rfl] at e
   exact e
  clear hA hC ho1 ho2 ho4
  (repeat' (first|(with_reducible first|refine stp ?_|refine uP (by decide) ?_|refine uQ (fun _=>?_) (fun _=>?_))|((first|(with_reducible refine uA ?_;first|refine uB rfl ?_ ?_|refine aN (vO _) rfl (aR _) ?_|refine aN (zO o P ws _) rfl (aR _) ?_|refine aN (cD _) rfl (aR _) ?_|(first|refine uC rfl ?_|refine uD rfl ?_)|refine uE rfl ?_)|(with_reducible refine uF ?_;first|refine uG rfl ?_ ?_|refine cH (cL _) rfl (cA _) ?_|refine cH (cR _) rfl (cA _) ?_|refine cH (aDF o1 o1 A (by omega) _) rfl (cA _) ?_|refine cH (cC _) rfl (cA _) ?_|refine cH (sU t _) rfl (cA _) ?_|refine cH (rC _) rfl (cA _) ?_|refine cH (cI _) rfl (cA _) ?_|(first|refine uH rfl ?_|refine uI rfl ?_)|refine uJ rfl ?_|refine uK (uL ?_)|refine uK (uM ?_))|(with_reducible refine uN ?_;refine uO rfl ?_))<;>try simp only[hmf,hmf2,hft,hL,jK,Nat.reduceMul,Nat.zero_mul,Nat.one_mul,go_sem,reduceIte,jA,jB,jC,jD,reduceCtorEq,jE,jF])|(with_reducible refine uR ?_;refine uS rfl ?_)|omega))
  exact aO h' (by repeat (first|exact Hp.le_refl _|refine aQ hd ?_ (by omega) _|refine aV hd ?_ (by omega))) ⟨rfl,rfl⟩
set_option maxRecDepth 100000 in
theorem wB(os:Os)(started:os.Started)(H:Type)(enc:TypeId×Value→H):
 ReturnsInHanded {} Tryz.checked os 3 .any (Rows.pathLeastSpec.pre6 enc Tryz.prog Tryz.f3 Rows.pathLeastRow.domain false) (Rows.pathLeastSpec.post enc Tryz.prog Tryz.f3 false true false false):=by
 refine aDQ (C:=Tryz.checked) (tb:=4) own started (by kernel_rfl) Tryz.func3
  (ChangeSpec.witness6 (enc:=enc) (C:=Tryz.checked) false ⟨#[],#[.agg #[.int .i64 0, .slice none 0 0], .agg #[.int .i64 0, .int .i64 0], .agg #[.int .i64 0, .int .i64 0]],[]⟩ 8 (by kernel_rfl) (by kernel_rfl) (by kernel_rfl) (by kernel_rfl))
  rfl (fun ds hds=>by match ds,hds with| [_,_,_],_=>rfl) rfl Tryz.underlying4 aGj (fun t ht=>?_) ?_
 ·simp only[Tryz.params3,List.mem_cons,List.not_mem_nil,or_false] at ht
  rcases ht with rfl|rfl|rfl<;>exact⟨by kernel_rfl,of_decide_eq_true (by kernel_rfl)⟩
 intro W base args ds p hval hA _ _
 refine aBJ (P:=Tryz.prog) (congrArg Array.toList Tryz.params3) (by kernel_rfl) (fun xs hxs=>?_) W base args ds p hval hA
 match xs,hxs with
 | [x0,x1,x2],⟨h0,h1,h2,_⟩=>
  obtain⟨o,P,ws,rfl⟩:=aGs (by kernel_rfl) (by kernel_rfl) h0
  obtain⟨x,y,rfl⟩:=aFV (by kernel_rfl) (by kernel_rfl) h1
  obtain⟨t,rfl⟩:=aGL (by kernel_rfl) (by kernel_rfl) h2
  exact aAz o P ws x y t
theorem pathLeast_holds:Rows.PathLeastSaid:=
 OpenClaim.holds_of_wide 3 Tryz.f3 rfl rfl rfl rfl rfl rfl rfl ⟨rfl,rfl,rfl,rfl,rfl⟩ rfl rfl rfl rfl rfl (by kernel_rfl) Tryz.func3 (by kernel_rfl)
  (of_decide_eq_true (by kernel_rfl)) (by unfold Func.isWrapper;first|(rw[if_pos (by decide+kernel)];kernel_rfl)|(rw[if_neg (by decide+kernel)];exact⟨rfl,rfl⟩))
  (fun os started H enc _=>wB os started H enc)
end Go.Proofs.YtmpmngakheoacaaGreat
