/-
corollarylaw22.PathMaps returns true for every input, and leaves its arguments as they were. Conditions: none.
-/
import Derived.Test.YtmpmngakheoacaaKe
import Derived.Test.YtmpmngakheoacaaKh
import Derived.Test.YtmpmngakheoacaaKj
import Derived.Test.YtmpmngakheoacaaKi
namespace Go.Proofs.Ytmpmngakheoacaa
open Go.Proofs.Ytmpmngakheoacaa renaming lops_id → uA, lops_go2 → uB, lops_guardT → uC, lops_guardF → uD, lops_guard_no → uE, dops_id → uF, dops_go1 → uG, dops_guardT → uH, dops_guardF → uI, dops_guard_no → uJ, dops_nil → uK, drawQ_nil → uL, drawQ_tl → uM, cond_id → uN, lwp_condB → uO, blockQ_other → uP, condG_s → uQ, draw_id → uR, lwp_draw → uS
open Nat renaming reduceAdd → jA, reduceSub → jB, reduceLT → jC, reduceLeDiff → jD, reduceEqDiff → jE
open Int renaming reduceToNat → jF, toNat_natCast → jG, natCast_add → jH, natCast_one → jI, natCast_zero → jJ
open List renaming length_map → jK, length_cons → jL, length_nil → jM, replicate_succ → jN, replicate_zero → jO, cons_append → jP, nil_append → jQ
set_option linter.unusedSimpArgs false
set_option linter.unusedVariables false
set_option linter.unusedSectionVars false
open Go.ChangeShapes Go.WideShapes Go.ChangeAt Go.RowKit Go.Sort
attribute [local irreducible] IntKind.wrap
attribute [local go_sem] Option.some.injEq Prod.mk.injEq false_and and_false Bool.true_eq_false dRun dRest dbare dMerge nones if_true Bool.true_and dgoC dgoCRest fillV okAll nextAll LOper.ok LOper.next LOp.ok LOp.next LVal.ok LVal.out LArg.ev putV binOK pick_true pick_false pick_bool V.undef Sh.size addHp dokAll dnextAll LOper.dok LOper.dres LOp.dok LOp.dout dput conOK veqL leafEq List.take_succ_cons List.take_zero List.take_nil List.drop_succ_cons List.drop_zero List.drop_nil List.set_cons_succ List.set_cons_zero List.getD_cons_succ List.getD_cons_zero jL jM List.map_cons List.map_nil List.all_cons List.all_nil List.mem_cons List.not_mem_nil jN jO jP jQ List.append_nil List.isEmpty_cons List.isEmpty_nil appOwn appHp appOK Option.getD_some Option.isSome_some Option.isSome_none Nat.add_eq Nat.zero_add Nat.add_zero true_and and_true and_self true_implies implies_true false_implies forall_const forall_eq forall_eq_or_imp ne_eq not_false_eq_true not_true_eq_false Bool.not_true Bool.not_false decide_true decide_false Bool.and_true Bool.true_and Bool.and_false Bool.false_and true_or or_true false_or or_false eq_self Bool.false_eq_true nxNe nxNe' tupOf mkFrom bval ogive cutOwn cutE_nil cutE_full cutE_tok cutE_free_nil cutE_free_cons selems jG Int.toNat_zero List.take_length Hp.set_app Hp.del_app goOps goRest LOper.plain LOp.isCall LOper.dplain LOp.isStop lops_nil gRun gRest bare gMerge V.gd_true V.gd_false pick_gd pick_gdn pick_and pick_or partOK_self loadPart_self storePart_self dgoOps dgoRest beq_true beq_false partOK_ll partOK_al partOK_aa loadPart_l loadPart_a storePart_la storePart_aa fits_leaf fits_agg leafy_bool leafy_int leafy_str leafy_nilPtr leafy_ptr leafy_ept leafy_sl leafy_rs leafy_nilMap leafy_map leafy_nilChan leafy_chan leafy_fn leafy_nilFn leafy_yld leafy_iface leafy_nilIface veq_aa veq_li veq_lb veq_ls cells_agg cells_leaf cell_agg cell_leaf veq_ptr1 veq_ptr2 veq_ptr3 veq_ptr4 veq_ptr5 veq_slice1 veq_slice2 veq_func1 veq_func2 veq_func3 veq_iface1 veq_iface2 veq_iface3 veq_map1 veq_map2 veq_map3 veq_chan1 veq_chan2 veq_chan3 conAt_add conAt_zero untaken wrHp Hp.turn delHp Option.isNone_some Option.isNone_none nxFq goOps2 goRest2 LOper.plain2 LOp.isApp ltNe ltNe1 ltNe' ltNe1' delO_nil delO_tok

set_option maxRecDepth 100000 in
set_option maxHeartbeats 4000000 in
theorem pathMaps_law (o : Own) (P : Int) (ws : List Wy) : Pure Try.prog 3 [mps o P ws] Hp.none (.bool true) := by
  have hmf : (mps o P ws).fits (.agg 2) = true := by simp [mps, V.fits, V.leafy, wys]
  refine pure_of (fun L => trivial) fun h' nx hh => acalls_walk L.corollarylaw22_PathMaps_low fun hd => ?_
  simp only [jL, jM, jA, jB, jN, jO, jP, jQ, V.undef]
  cases hL : largeM P ws with
  | true =>
    (repeat' (first | (with_reducible first | refine stp ?_ | refine uP (by decide) ?_ | refine uQ (fun _ => ?_) (fun _ => ?_)) | ((first | (with_reducible refine uA ?_; first | refine uB rfl ?_ ?_ | refine lops_pure (alive22_pure _) rfl (has_refl _) ?_ | refine lops_pure (large_pure o P ws _) rfl (has_refl _) ?_ | (first | refine uC rfl ?_ | refine uD rfl ?_) | refine uE rfl ?_) | (with_reducible refine uF ?_; first | refine uG rfl ?_ ?_  | (first | refine uH rfl ?_ | refine uI rfl ?_) | refine uJ rfl ?_ | refine uK (uL ?_) | refine uK (uM ?_)) | (with_reducible refine uN ?_; refine uO rfl ?_)) <;> try simp only [hmf, hL, go_sem, reduceIte, jA, jB, jC, jD, reduceCtorEq, jE, jF]) | (with_reducible refine uR ?_; refine uS rfl ?_) | omega))
    exact ret_slot h' (by repeat (first | exact Hp.le_refl _ | refine le_of_fresh hd ?_ (by omega) _ | refine le_of_freshd hd ?_ (by omega))) ⟨rfl, rfl⟩
  | false =>
    have hl := large_len hL
    obtain ⟨Q, hQ0⟩ : ∃ Q, Q = (newOf P ws).1.1 := ⟨_, rfl⟩
    obtain ⟨M, hM0⟩ : ∃ M, M = (newOf P ws).1.2 := ⟨_, rfl⟩
    obtain ⟨c, hc0⟩ : ∃ c, c = (newOf P ws).2 := ⟨_, rfl⟩
    obtain ⟨o3, ho3⟩ := mapV_mps P ws
    obtain ⟨o5, ho5⟩ := mapV_mps Q M
    have hlM : M.length ≤ 1000 := by rw [hM0]; have := newOf_len P ws; omega
    have cN : ∀ h, Pure Try.prog 9 [.int .i64 P, wys o ws] h (.tup [mps o5 Q M, errV c]) := fun h => by
      have e := new_pure o P ws (by omega) h
      rw [← hQ0, ← hM0, ← hc0, ho5] at e
      exact e
    have cD : ∀ h, Pure Try.prog 10 [mps o P ws] h (mps o3 P ws) := fun h => by
      have e := wdocument_pure o P ws (by omega) h
      rw [ho3] at e
      exact e
    have cO : ∀ h, Pure Try.prog 11 [.int .i64 P, wys o3 ws] h (.tup [mps o5 Q M, .int .i64 c]) := fun h => by
      have e := rof22_pure o3 P ws (by omega) h
      rw [← hQ0, ← hM0, ← hc0, ho5] at e
      exact e
    have cR : ∀ h, Pure Try.prog 14 [mps o P ws] h (.bool (rightM P ws)) := fun h => rightMap_pure o P ws (by omega) h
    have cR2 : ∀ h, Pure Try.prog 15 [mps o3 P ws] h (.bool (rightM P ws)) := fun h => rright22_pure o3 P ws (by omega) h
    have cS : ∀ h, Pure Try.prog 13 [wys o5 M, wys o5 M] h (.bool true) := fun h => by
      have e := same_pure o5 o5 M M (by omega) h
      rw [decide_eq_true rfl] at e
      exact e
    have cE : ∀ h, Pure Try.prog 12 [errV c] h (.int .i64 c) := fun h => num_pure c h
    have hmf3 : (mps o3 P ws).fits (.agg 2) = true := by simp [mps, V.fits, V.leafy, wys]
    have hmf5 : (mps o5 Q M).fits (.agg 2) = true := by simp [mps, V.fits, V.leafy, wys]
    have q1 : (c == c) = true := by simp
    have q2 : (Q == Q) = true := by simp
    clear hQ0 hM0 hc0 ho3 ho5
    generalize rightM P ws = b at cR cR2
    have q3 : veq (.plain .leaf [.bool]) (.bool b) (.bool b) = some true := by cases b <;> rfl
    cases b
    all_goals ((repeat' (first | (with_reducible first | refine stp ?_ | refine uP (by decide) ?_ | refine uQ (fun _ => ?_) (fun _ => ?_)) | ((first | (with_reducible refine uA ?_; first | refine uB rfl ?_ ?_ | refine lops_pure (alive22_pure _) rfl (has_refl _) ?_ | refine lops_pure (large_pure o P ws _) rfl (has_refl _) ?_ | refine lops_pure (cN _) rfl (has_refl _) ?_ | refine lops_pure (cD _) rfl (has_refl _) ?_ | refine lops_pure (cO _) rfl (has_refl _) ?_ | (first | refine uC rfl ?_ | refine uD rfl ?_) | refine uE rfl ?_) | (with_reducible refine uF ?_; first | refine uG rfl ?_ ?_ | refine dops_pure (cE _) rfl (none_has _) ?_ | refine dops_pure (cS _) rfl (none_has _) ?_ | refine dops_pure (cR _) rfl (none_has _) ?_ | refine dops_pure (cR2 _) rfl (none_has _) ?_ | (first | refine uH rfl ?_ | refine uI rfl ?_) | refine uJ rfl ?_ | refine uK (uL ?_) | refine uK (uM ?_)) | (with_reducible refine uN ?_; refine uO rfl ?_)) <;> try simp only [hmf, hmf3, hmf5, hL, q1, q2, q3, go_sem, reduceIte, jA, jB, jC, jD, reduceCtorEq, jE, jF]) | (with_reducible refine uR ?_; refine uS rfl ?_) | omega)))
    all_goals exact ret_slot h' (by repeat (first | exact Hp.le_refl _ | refine le_of_fresh hd ?_ (by omega) _ | refine le_of_freshd hd ?_ (by omega))) ⟨rfl, rfl⟩

set_option maxRecDepth 100000 in
theorem pathMaps_lifted (os : Os) (started : os.Started) (H : Type) (enc : TypeId × Value → H) :
    ReturnsInHanded {} Try.checked os 3 .any (Rows.pathMapsSpec.pre6 enc Try.prog Try.f3 Rows.pathMapsRow.domain false) (Rows.pathMapsSpec.post enc Try.prog Try.f3 false true false false) := by
  refine law_lifted (C := Try.checked) (tb := 4) own started (by kernel_rfl) Try.func3
    (ChangeSpec.witness6 (enc := enc) (C := Try.checked) false ⟨#[], #[.agg #[.int .i64 0, .slice none 0 0]], []⟩ 8 (by kernel_rfl) (by kernel_rfl) (by kernel_rfl) (by kernel_rfl))
    rfl (fun ds hds => by match ds, hds with | [_], _ => rfl) rfl Try.underlying4 laidOut (fun t ht => ?_) ?_
  · simp only [Try.params3, List.mem_cons, List.not_mem_nil, or_false] at ht
    rcases ht with rfl <;> exact ⟨by kernel_rfl, of_decide_eq_true (by kernel_rfl)⟩
  intro W base args ds p hval hA _ _
  refine law_contract (P := Try.prog) (congrArg Array.toList Try.params3) (by kernel_rfl) (fun xs hxs => ?_) W base args ds p hval hA
  match xs, hxs with
  | [x0], ⟨h0, _⟩ =>
    obtain ⟨o, P, ws, rfl⟩ := arg_map (by kernel_rfl) (by kernel_rfl) h0
    exact pathMaps_law o P ws

theorem pathMaps_holds : Rows.PathMapsSaid :=
  OpenClaim.holds_of_wide 3 Try.f3 rfl rfl rfl rfl rfl rfl rfl ⟨rfl, rfl, rfl, rfl, rfl⟩ rfl rfl rfl rfl rfl (by kernel_rfl) Try.func3 (by kernel_rfl)
    (of_decide_eq_true (by kernel_rfl)) (by unfold Func.isWrapper; first | (rw [if_pos (by decide +kernel)]; kernel_rfl) | (rw [if_neg (by decide +kernel)]; exact ⟨rfl, rfl⟩))
    (fun os started H enc _ => pathMaps_lifted os started H enc)

end Go.Proofs.Ytmpmngakheoacaa
