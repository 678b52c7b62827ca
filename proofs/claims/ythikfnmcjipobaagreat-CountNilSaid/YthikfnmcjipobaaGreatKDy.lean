/-
corollarylaw23.CountNil returns true for every input,and leaves its arguments as they were. Conditions:none.
-/
import Derived.Test.YthikfnmcjipobaaGreatKi
namespace Go.Proofs.YthikfnmcjipobaaGreat
open Nat renaming reduceAdd→jA,reduceSub→jB,reduceLT→jC,reduceLeDiff→jD,reduceEqDiff→jE
open Int renaming reduceToNat→jF,toNat_natCast→jG,natCast_add→jH,natCast_one→jI,natCast_zero→jJ
open List renaming length_map→jK,length_cons→jL,length_nil→jM,replicate_succ→jN,replicate_zero→jO,cons_append→jP,nil_append→jQ
set_option linter.unusedSimpArgs false
set_option linter.unusedVariables false
set_option linter.unusedSectionVars false
open Go.ChangeShapes Go.WideShapes Go.ChangeAt Go.RowKit Go.Sort
attribute [local irreducible] IntKind.wrap
attribute [local go_sem] Option.some.injEq Prod.mk.injEq false_and and_false Bool.true_eq_false mF iS iW gE iR if_true Bool.true_and lV dO gW gF dN aA.ok aA.next LOp.ok LOp.next aZ.ok aZ.out aM.ev bK iA cB bO cK V.undef Sh.size gA fS cH aA.dok aA.dres LOp.dok LOp.dout kZ gX gB eX List.take_succ_cons List.take_zero List.take_nil List.drop_succ_cons List.drop_zero List.drop_nil List.set_cons_succ List.set_cons_zero List.getD_cons_succ List.getD_cons_zero jL jM List.map_cons List.map_nil List.all_cons List.all_nil List.mem_cons List.not_mem_nil jN jO jP jQ List.append_nil List.isEmpty_cons List.isEmpty_nil dS fF gQ Option.getD_some Option.isSome_some Option.isSome_none Nat.add_eq Nat.zero_add Nat.add_zero true_and and_true and_self true_implies implies_true false_implies forall_const forall_eq forall_eq_or_imp ne_eq not_false_eq_true not_true_eq_false Bool.not_true Bool.not_false decide_true decide_false Bool.and_true Bool.true_and Bool.and_false Bool.false_and true_or or_true false_or or_false eq_self Bool.false_eq_true lY iH fY aG fC eV dX dQ cI dP bC aY dD jG Int.toNat_zero List.take_length Hp.set_app Hp.del_app gS fR aA.plain LOp.isCall aA.dplain LOp.isStop eO kK gT lP fL V.gd_true V.gd_false fK eL eM fJ bH bB aR fI eW beq_true beq_false dE dF dG cC cD bI bJ cU eT cF cN dI bL dJ dK eQ eR bM cT bG cE eS bP dH bQ bD gL gJ gK gI dL bU dW cV eH eG eF eE eD bX bW cZ cY cX cA bZ bY eK eJ eI dC dB dA cO cG bT kI Hp.turn fO Option.isNone_some Option.isNone_none oE gD fN aA.plain2 LOp.isApp oH lI lJ iL fU fT
set_option maxRecDepth 100000 in
set_option maxHeartbeats 8000000 in
theorem aAT(o:Own)(P:Int)(ws:List Wy)(hn:o= .nil→ws=[])(x:Cg):cJ Tryz.prog 7 [mps o P ws,x.v] Hp.none (.bool true):=by
 have hmf:(mps o P ws).fits (.agg 2)=true:=by simp[mps,V.fits,V.leafy,wys]
 have hxf:=Cg.fits_v x
 refine bF (fun L=>trivial) fun h' nx hh=>aF L.corollarylaw23_CountNil_low fun hd=>?_
 simp only[jL,jM,jA,jB,jN,jO,jP,jQ,V.undef]
 have C1:=fun h=>aAX h
 have C2:=fun h=>aCM o P ws h
 cases hL:xI P ws with
 |true=>
  rw[hL] at C2
  refine aue (e2 hmf hxf) ?_
  refine sU (by simp only[go_sem,reduceIte,jA,jB,jC,jD,reduceCtorEq,jE,jF]) h' (leo hd) ⟨?_,rfl⟩
  simp only[go_sem,reduceIte,jA,jB,jC,jD,reduceCtorEq,jE,jF]
 |false=>
  rw[hL] at C2
  have hl:=aDT hL
  refine aue (e2 hmf hxf) ?_
  clear C1 C2
  obtain⟨H0,hH0⟩:∃H0,H0=((h'.set nx (.arr (.agg 2) [mps o P ws])).set (nx+1) (.arr (.agg 4) [x.v])).set (nx+2) (.arr .leaf [.bool false]):=⟨_,rfl⟩
  have b0:H0 nx=some (.arr (.agg 2) [mps o P ws]):=by rw[hH0];simp only[go_sem,reduceIte,jA,jB,jC,jD,reduceCtorEq,jE,jF]
  have b1:H0 (nx+1)=some (.arr (.agg 4) [x.v]):=by rw[hH0];simp only[go_sem,reduceIte,jA,jB,jC,jD,reduceCtorEq,jE,jF]
  have b2:H0 (nx+2)=some (.arr .leaf [.bool false]):=by rw[hH0];simp only[go_sem,reduceIte,jA,jB,jC,jD,reduceCtorEq,jE,jF]
  have hs0:Hp.same nx h' H0:=by rw[hH0];exact kep Hp.same.rfl'
  have hd0:aV H0 (nx+3):=by rw[hH0];exact dmo hd
  rw[←hH0]
  clear hH0
  refine fD ((aAY .nilPtr rfl _ _).mono ?_)
  rintro v2 h3 nx3 hnx3 ⟨rfl,rfl,hge3⟩
  dsimp only at hge3
  unfold kQ
  simp only[go_sem,reduceIte,jA,jB,jC,jD,reduceCtorEq,jE,jF]
  refine au ?_
  have hdI:aV (H0.set (nx+3) (.arr .leaf [.nilPtr])) nx3:=dmo hd0
  refine qD (yJ (nx+3) (H0.set (nx+3) (.arr .leaf [.nilPtr])) (by simp[Hp.set])) rfl (fun x hx=>by cases hx) hdI (fun i h nx1=>Hp.same nx3 (H0.set (nx+3) (.arr .leaf [.nilPtr])) h) (fun _ _ _=>False) (fun i h nx1 hI=>aES (hI.le hdI (Hp.le_refl _))) (fun i h n1 n2 hI _=>hI) (fun i h n1 b hI=>cR hI (Nat.le_refl _) _) (fun e h n1 n2 hE _=>hE) (fun e h n1 b hE=>hE) Hp.same.rfl' (fun i hi=>by cases hi) ?_ (fun e h n hE=>hE.elim)
  intro h nx4 hI hnx4 hdm4
  dsimp only at hnx4⊢
  have hk:∀x,x<nx+3→(h.del nx3) x=H0 x:=fun x hx=>by
   have:=hI x (by omega)
   unfold Hp.del
   rw[if_neg (by omega),this]
   simp only[Hp.set];rw[if_neg (by omega)]
  have hd4:aV (h.del nx3) nx4:=dmo hdm4
  have hnn:nx+4≤nx4:=by omega
  generalize h.del nx3=H at hk hd4⊢
  clear hI hdm4 hdI hge3 hnx3 hnx4
  have c0:H nx=some (.arr (.agg 2) [mps o P ws]):=by rw[hk _ (by omega)];exact b0
  have c1:H (nx+1)=some (.arr (.agg 4) [x.v]):=by rw[hk _ (by omega)];exact b1
  have c2:H (nx+2)=some (.arr .leaf [.bool false]):=by rw[hk _ (by omega)];exact b2
  have hs:Hp.same nx h' H:=fun y hy=>(hk y (by omega)).trans (hs0 y hy)
  clear b0 b1 b2 hk hs0 hd0 H0 h
  have l0:nx<nx4:=by omega
  have l1:nx+1<nx4:=by omega
  have l2:nx+2<nx4:=by omega
  have hx:x.v= .agg [.int .i64 x.s.p, .int .i64 x.s.t.e, .int .i64 x.s.t.r, .int .i64 x.d]:=rfl
  rw[hx] at c1 hxf
  have C1:=fun h {v:V}=>zG v h
  have C2:=fun h=>aCD 13 13 h
  have C3:=fun h=>aFK x.s h
  have C4:=fun h=>yZ 0 h
  have q13:((13:Int)==13)=true:=by decide
  have q0:((0:Int) != 0)=false:=by decide
  rw[q13] at C2
  refine aue (e8 c0 c1 c2 l0 l1 l2 hxf q0) ?_
  clear C1 C2 C3 C4
  have C1:=fun h=>xQ h
  have C2:=fun h=>aFi h
  have C3:=fun h=>aDB h
  have C4:=fun h=>aED .nilPtr (.inl rfl) h
  have hw0:IntKind.i64.wrap (((0:Nat):Int)+((0:Nat):Int))=0:=wrp
  have hg0:decide ((0:Int)>0)=false:=dcf
  refine aue (e8 c0 c1 c2 l0 l1 l2 hw0 hg0) ?_
  clear C1 C2 C3 C4
  cases hR:oD P ws with
  |false=>
   have C1:=fun h=>aFG o hR (by omega) h
   have hv:veq (.iface true) (lU 2) .nilIface=some false:=by rw[mT];simp
   refine aue (e8 c0 c1 c2 l0 l1 l2 hv hmf) ?_
   refine sU (by simp only[go_sem,reduceIte,jA,jB,jC,jD,reduceCtorEq,jE,jF]) h' ((show Hp.same nx h' _ from kep hs).le hd (Hp.le_refl _)) ⟨?_,rfl⟩
   simp only[go_sem,reduceIte,jA,jB,jC,jD,reduceCtorEq,jE,jF]
  |true=>
   obtain⟨n,l,R⟩:=(oY P ws).1 hR
   obtain⟨M,hM⟩:∃M,M=H.set nx4 .tip:=⟨_,rfl⟩
   have d0:M nx=some (.arr (.agg 2) [mps o P ws]):=by rw[hM];simp only[Hp.set];rw[if_neg (by omega)];exact c0
   have d1:M (nx+1)=some (.arr (.agg 4) [.agg [.int .i64 x.s.p, .int .i64 x.s.t.e, .int .i64 x.s.t.r, .int .i64 x.d]]):=by rw[hM];simp only[Hp.set];rw[if_neg (by omega)];exact c1
   have d2:M (nx+2)=some (.arr .leaf [.bool false]):=by rw[hM];simp only[Hp.set];rw[if_neg (by omega)];exact c2
   have hsM:Hp.same nx h' M:=by rw[hM];exact kep hs
   rw[←hM]
   refine fD ((aGj o R (by omega) hn _ _).mono ?_)
   rintro v5 M5 nx5 hnx5 ⟨cb,m,o2,ot,rfl,hcb,hm,hcnt,hk5,hd5,_⟩
   dsimp only at hcb hm hnx5 hk5
   unfold kQ
   simp only[go_sem,reduceIte,jA,jB,jC,jD,reduceCtorEq,jE,jF]
   refine au ?_
   refine fD ((aFP hcnt).mono ?_)
   rintro v6 M6 nx6 hnx6 ⟨cb2,m2,rfl,hcb2,hm2,hcnt2,hk6,hd6,_⟩
   dsimp only at hcb2 hm2 hnx6 hk6
   unfold kQ
   simp only[go_sem,reduceIte,jA,jB,jC,jD,reduceCtorEq,jE,jF]
   have hcnt':=hcnt.keep hd5 hk6
   have f0:M6 nx=some (.arr (.agg 2) [mps o P ws]):=by rw[hk6 _ (by omega),hk5 _ (by omega)];exact d0
   have f1:M6 (nx+1)=some (.arr (.agg 4) [.agg [.int .i64 x.s.p, .int .i64 x.s.t.e, .int .i64 x.s.t.r, .int .i64 x.d]]):=by rw[hk6 _ (by omega),hk5 _ (by omega)];exact d1
   have f2:M6 (nx+2)=some (.arr .leaf [.bool false]):=by rw[hk6 _ (by omega),hk5 _ (by omega)];exact d2
   have hs6:Hp.same nx h' M6:=fun y hy=>by rw[hk6 _ (by omega),hk5 _ (by omega)];exact hsM y hy
   have hcb5:cb<nx5:=hd5 _ _ hcnt.cell
   have hm5:m<nx5:=hd5 _ _ hcnt.mp
   clear hk6 hk5 hsM d0 d1 d2 hcnt hd5 hM
   refine aue (e3 f1 (show nx+1<nx6 by omega) hxf) ?_
   have hkt:∀y,y<nx6→(M6.set nx6 .tip) y=M6 y:=fun y hy=>by simp only[Hp.set];rw[if_neg (by omega)]
   refine fD ((aFm (.tok nx6) [x] (by simp) [] 0 (oP 0) P _ _ cb m _ _ (dmo hd6) (hcnt'.keep hd6 hkt)).mono ?_)
   rintro v7 M7 nx7 hnx7 ⟨rfl,⟨m3,hcnt3,_⟩,hk7,hz7,hd7,_⟩
   dsimp only at hnx7 hk7
   have hst:=aFy P 0
   have hcnt7:iK M7 cb2 m2 P (wys o2 ws) (.sl .leaf ot (nS n l n)) [] 0:=(hcnt2.keep hd6 hkt).other (nx:=nx6+1) (dmo hd6) (by omega) (by omega) hk7
   have g1:M7 (nx+1)=some (.arr (.agg 4) [.agg [.int .i64 x.s.p, .int .i64 x.s.t.e, .int .i64 x.s.t.r, .int .i64 x.d]]):=by rw[hk7 _ (by omega) (by omega),hkt _ (by omega)];exact f1
   have g2:M7 (nx+2)=some (.arr .leaf [.bool false]):=by rw[hk7 _ (by omega) (by omega),hkt _ (by omega)];exact f2
   have hs7:Hp.same nx h' M7:=fun y hy=>by rw[hk7 _ (by omega) (by omega),hkt _ (by omega)];exact hs6 y hy
   have l1:nx+1<nx7:=by omega
   have l2:nx+2<nx7:=by omega
   have hv:=mT (gV P [] 0 [x]).1
   have fin:∀{sl:List V} {H:Hp} {nx9:Nat},Hp.same nx M7 H→sl.getD 4 (.tup [])= .ptr (nx+2) .leaf 0 0→H (nx+2)=some (.arr .leaf [.bool true])→sW [yM.cell 4 .leaf] (fun v' h'' _=>v'= .bool true∧h''=h') .ret ⟨sl,H,nx9⟩:=fun hs e1 e2=>sU (by simp only[e1,e2,go_sem,reduceIte,jA,jB,jC,jD,reduceCtorEq,jE,jF]) h' ((show Hp.same nx h' _ from fun y hy=>(hs y hy).trans (hs7 y hy)).le hd (Hp.le_refl _)) ⟨by simp only[e1,e2,go_sem,reduceIte,jA,jB,jC,jD,reduceCtorEq,jE,jF],rfl⟩
   unfold kQ
   simp only[go_sem,reduceIte,jA,jB,jC,jD,reduceCtorEq,jE,jF]
   by_cases he:(gV P [] 0 [x]).1=0
   ·rw[decide_eq_true he] at hv
    have hgx:gP (gV P [] 0 [x]).2.1 x.s=x.d:=by
     rw[aEp hst he (by simp)]
     simp[aCr,gP]
    have hdd:(x.d==x.d)=true:=bqt
    have q00:((0:Int)==0)=true:=by decide
    refine aue (e3 hv g1 l1) ?_
    refine bS (aCs hcnt7) rfl (aN _) ?_
    simp only[go_sem,reduceIte,jA,jB,jC,jD,reduceCtorEq,jE,jF]
    refine aue (e2 g1 l1) ?_
    refine bS (aBL x.s hcnt7) rfl (aN _) ?_
    simp only[go_sem,reduceIte,jA,jB,jC,jD,reduceCtorEq,jE,jF]
    refine aue (e4 g1 l1 q00 (show gP [] x.s=0 from rfl)) ?_
    refine bS (aBL x.s hcnt3) rfl (aN _) ?_
    simp only[hgx,go_sem,reduceIte,jA,jB,jC,jD,reduceCtorEq,jE,jF]
    refine aue (e5 g1 g2 l1 l2 hdd) ?_
    refine fin (kep Hp.same.rfl') rfl (by simp only[Hp.set,if_true])
   rw[decide_eq_false he] at hv
   rw[aAn he] at hcnt3
   refine aue (e2 hv l1) ?_
   refine aI (aDb hcnt3 hcnt7 (oP 0) (oP 0) (by omega)) rfl (aN _) ?_
   simp only[go_sem,reduceIte,jA,jB,jC,jD,reduceCtorEq,jE,jF]
   refine aue (e2 g2 l2) ?_
   refine fin (kep Hp.same.rfl') rfl (by simp only[Hp.set,if_true];rfl)
set_option maxRecDepth 100000 in
theorem vX(os:Os)(started:os.Started)(H:Type)(enc:TypeId×Value→H):
 ReturnsInHanded {} Tryz.checked os 7 .any (Rows.countNilSpec.pre6 enc Tryz.prog Tryz.f7 Rows.countNilRow.domain false) (Rows.countNilSpec.post enc Tryz.prog Tryz.f7 false true false false):=by
 refine aCL (C:=Tryz.checked) (tb:=4) own started (by kernel_rfl) Tryz.func7
  (ChangeSpec.witness6 (enc:=enc) (C:=Tryz.checked) false ⟨#[],#[.agg #[.int .i64 0, .slice none 0 0], .agg #[.int .i64 0, .int .i64 0, .int .i64 0, .int .i64 0]],[]⟩ 8 (by kernel_rfl) (by kernel_rfl) (by kernel_rfl) (by kernel_rfl))
  rfl (fun ds hds=>by match ds,hds with| [_,_],_=>rfl) rfl Tryz.underlying4 aFJ (fun t ht=>?_) ?_
 ·simp only[Tryz.params7,List.mem_cons,List.not_mem_nil,or_false] at ht
  rcases ht with rfl|rfl<;>exact⟨by kernel_rfl,of_decide_eq_true (by kernel_rfl)⟩
 intro W base args ds p hval hA _ _
 refine aAJ (P:=Tryz.prog) (congrArg Array.toList Tryz.params7) (by kernel_rfl) (fun xs hxs=>?_) W base args ds p hval hA
 match xs,hxs with
 | [x0,x1],⟨h0,h1,_⟩=>
  obtain⟨o,P,ws,rfl,hn⟩:=aFl (by kernel_rfl) (by kernel_rfl) h0
  obtain⟨x,rfl⟩:=aGt (by kernel_rfl) (by kernel_rfl) h1
  exact aAT o P ws hn x
theorem countNil_holds:Rows.CountNilSaid:=
 OpenClaim.holds_of_wide 7 Tryz.f7 rfl rfl rfl rfl rfl rfl rfl ⟨rfl,rfl,rfl,rfl,rfl⟩ rfl rfl rfl rfl rfl (by kernel_rfl) Tryz.func7 (by kernel_rfl)
  (of_decide_eq_true (by kernel_rfl)) (by unfold Func.isWrapper;first|(rw[if_pos (by decide+kernel)];kernel_rfl)|(rw[if_neg (by decide+kernel)];exact⟨rfl,rfl⟩))
  (fun os started H enc _=>vX os started H enc)
end Go.Proofs.YthikfnmcjipobaaGreat
