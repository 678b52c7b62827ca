/-
corollarylaw22.PathAll returns true for every input, and leaves its arguments as they were. Conditions: none.
-/
import Derived.Test.YtmpmngakheoacaaKe
import Derived.Test.YtmpmngakheoacaaKk
import Derived.Test.YtmpmngakheoacaaKh
import Derived.Test.YtmpmngakheoacaaKj
import Derived.Test.YtmpmngakheoacaaKi
namespace Go.Proofs.Ytmpmngakheoacaa
open Go.Proofs.Ytmpmngakheoacaa renaming lops_id → uA, lops_go2 → uB, lops_guardT → uC, lops_guardF → uD, lops_guard_no → uE, dops_id → uF, dops_go1 → uG, dops_guardT → uH, dops_guardF → uI, dops_guard_no → uJ, dops_nil → uK, drawQ_nil → uL, drawQ_tl → uM, cond_id → uN, lwp_condB → uO, blockQ_other → uP, condG_s → uQ, draw_id → uR, lwp_draw → uS
open Nat renaming reduceAdd → jA, reduceSub → jB, reduceLT → jC, reduceLeDiff → jD, reduceEqDiff → jE
open Int renaming reduceToNat → jF, toNat_natCast → jG, natCast_add → jH, natCast_one → jI, natCast_zero → jJ
open List renaming length_map → jK, length_cons → jL, length_nil → jM, replicate_succ → jN, replicate_zero → jO, cons_append → jP, nil_append → jQ
set_option linter.unusedSimpArgs false
set_option linter.unusedVariables false
set_option linter.unusedSectionVars false
open Go.ChangeShapes Go.WideShapes Go.ChangeAt Go.RowKit Go.Sort
attribute [local irreducible] IntKind.wrap
attribute [local go_sem] Option.some.injEq Prod.mk.injEq false_and and_false Bool.true_eq_false dRun dRest dbare dMerge nones if_true Bool.true_and dgoC dgoCRest fillV okAll nextAll LOper.ok LOper.next LOp.ok LOp.next LVal.ok LVal.out LArg.ev putV binOK pick_true pick_false pick_bool V.undef Sh.size addHp dokAll dnextAll LOper.dok LOper.dres LOp.dok LOp.dout dput conOK veqL leafEq List.take_succ_cons List.take_zero List.take_nil List.drop_succ_cons List.drop_zero List.drop_nil List.set_cons_succ List.set_cons_zero List.getD_cons_succ List.getD_cons_zero jL jM List.map_cons List.map_nil List.all_cons List.all_nil List.mem_cons List.not_mem_nil jN jO jP jQ List.append_nil List.isEmpty_cons List.isEmpty_nil appOwn appHp appOK Option.getD_some Option.isSome_some Option.isSome_none Nat.add_eq Nat.zero_add Nat.add_zero true_and and_true and_self true_implies implies_true false_implies forall_const forall_eq forall_eq_or_imp ne_eq not_false_eq_true not_true_eq_false Bool.not_true Bool.not_false decide_true decide_false Bool.and_true Bool.true_and Bool.and_false Bool.false_and true_or or_true false_or or_false eq_self Bool.false_eq_true nxNe nxNe' tupOf mkFrom bval ogive cutOwn cutE_nil cutE_full cutE_tok cutE_free_nil cutE_free_cons selems jG Int.toNat_zero List.take_length Hp.set_app Hp.del_app goOps goRest LOper.plain LOp.isCall LOper.dplain LOp.isStop lops_nil gRun gRest bare gMerge V.gd_true V.gd_false pick_gd pick_gdn pick_and pick_or partOK_self loadPart_self storePart_self dgoOps dgoRest beq_true beq_false partOK_ll partOK_al partOK_aa loadPart_l loadPart_a storePart_la storePart_aa fits_leaf fits_agg leafy_bool leafy_int leafy_str leafy_nilPtr leafy_ptr leafy_ept leafy_sl leafy_rs leafy_nilMap leafy_map leafy_nilChan leafy_chan leafy_fn leafy_nilFn leafy_yld leafy_iface leafy_nilIface veq_aa veq_li veq_lb veq_ls cells_agg cells_leaf cell_agg cell_leaf veq_ptr1 veq_ptr2 veq_ptr3 veq_ptr4 veq_ptr5 veq_slice1 veq_slice2 veq_func1 veq_func2 veq_func3 veq_iface1 veq_iface2 veq_iface3 veq_map1 veq_map2 veq_map3 veq_chan1 veq_chan2 veq_chan3 conAt_add conAt_zero untaken wrHp Hp.turn delHp Option.isNone_some Option.isNone_none nxFq goOps2 goRest2 LOper.plain2 LOp.isApp ltNe ltNe1 ltNe' ltNe1' delO_nil delO_tok

set_option maxRecDepth 100000 in
set_option maxHeartbeats 8000000 in
theorem pathAll_law (o : Own) (P : Int) (ws : List Wy) (a st : Int) : Pure Try.prog 6 [mps o P ws, .int .i64 a, .int .i64 st] Hp.none (.bool true) := by
  have hmf : (mps o P ws).fits (.agg 2) = true := by simp [mps, V.fits, V.leafy, wys]
  refine pure_of (fun L => trivial) fun h' nx hh => acalls_walk L.corollarylaw22_PathAll_low fun hd => ?_
  simp only [jL, jM, jA, jB, jN, jO, jP, jQ, V.undef]
  cases hL : largeM P ws with
  | true =>
    (repeat' (first | (with_reducible first | refine stp ?_ | refine uP (by decide) ?_ | refine uQ (fun _ => ?_) (fun _ => ?_)) | ((first | (with_reducible refine uA ?_; first | refine uB rfl ?_ ?_ | refine lops_pure (alive22_pure _) rfl (has_refl _) ?_ | refine lops_pure (large_pure o P ws _) rfl (has_refl _) ?_ | (first | refine uC rfl ?_ | refine uD rfl ?_) | refine uE rfl ?_) | (with_reducible refine uF ?_; first | refine uG rfl ?_ ?_  | (first | refine uH rfl ?_ | refine uI rfl ?_) | refine uJ rfl ?_ | refine uK (uL ?_) | refine uK (uM ?_)) | (with_reducible refine uN ?_; refine uO rfl ?_)) <;> try simp only [hmf, hL, go_sem, reduceIte, jA, jB, jC, jD, reduceCtorEq, jE, jF]) | (with_reducible refine uR ?_; refine uS rfl ?_) | omega))
    refine ret_cell (by simp only [go_sem, reduceIte, jA, jB, jC, jD, reduceCtorEq, jE, jF]) h' (by repeat (first | exact Hp.le_refl _ | refine le_of_fresh hd ?_ (by omega) _ | refine le_of_freshd hd ?_ (by omega))) ⟨?_, rfl⟩
    simp only [go_sem, reduceIte, jA, jB, jC, jD, reduceCtorEq, jE, jF]
  | false =>
    have hl := large_len hL
    obtain ⟨o3, ho3⟩ := mapV_mps P ws
    have cD : ∀ h, Pure Try.prog 10 [mps o P ws] h (mps o3 P ws) := fun h => by
      have e := wdocument_pure o P ws (by omega) h
      rw [ho3] at e
      exact e
    have hmf3 : (mps o3 P ws).fits (.agg 2) = true := by simp [mps, V.fits, V.leafy, wys]
    have cR2 : ∀ h, Pure Try.prog 15 [mps o3 P ws] h (.bool (rightM P ws)) := fun h => rright22_pure o3 P ws (by omega) h
    clear ho3
    cases hR : rightM P ws with
    | false =>
      rw [hR] at cR2
      have cA : ∀ h, Pure Try.prog 19 [mps o P ws] h (.sl .leaf .nil []) := fun h => all_not o hR (by omega) h
      (repeat' (first | (with_reducible first | refine stp ?_ | refine uP (by decide) ?_ | refine uQ (fun _ => ?_) (fun _ => ?_)) | ((first | (with_reducible refine uA ?_; first | refine uB rfl ?_ ?_ | refine lops_pure (alive22_pure _) rfl (has_refl _) ?_ | refine lops_pure (large_pure o P ws _) rfl (has_refl _) ?_ | refine lops_pure (cD _) rfl (has_refl _) ?_ | refine lops_pure (cA _) rfl (has_refl _) ?_ | refine lops_pure (cR2 _) rfl (has_refl _) ?_ | (first | refine uC rfl ?_ | refine uD rfl ?_) | refine uE rfl ?_) | (with_reducible refine uF ?_; first | refine uG rfl ?_ ?_  | (first | refine uH rfl ?_ | refine uI rfl ?_) | refine uJ rfl ?_ | refine uK (uL ?_) | refine uK (uM ?_)) | (with_reducible refine uN ?_; refine uO rfl ?_)) <;> try simp only [hmf, hmf3, hL, go_sem, reduceIte, jA, jB, jC, jD, reduceCtorEq, jE, jF]) | (with_reducible refine uR ?_; refine uS rfl ?_) | omega))
      refine lops_call ((out_walk o P ws a _ _).mono ?_)
      rintro v2 hq nx2 hnx2 ⟨rfl, rfl, hge⟩
      dsimp only at hge
      unfold callQ
      simp only [go_sem, reduceIte, jA, jB, jC, jD, reduceCtorEq, jE, jF]
      (repeat' (first | (with_reducible first | refine stp ?_ | refine uP (by decide) ?_ | refine uQ (fun _ => ?_) (fun _ => ?_)) | ((first | (with_reducible refine uA ?_; first | refine uB rfl ?_ ?_  | (first | refine uC rfl ?_ | refine uD rfl ?_) | refine uE rfl ?_) | (with_reducible refine uF ?_; first | refine uG rfl ?_ ?_  | (first | refine uH rfl ?_ | refine uI rfl ?_) | refine uJ rfl ?_ | refine uK (uL ?_) | refine uK (uM ?_)) | (with_reducible refine uN ?_; refine uO rfl ?_)) <;> try simp only [ go_sem, reduceIte, jA, jB, jC, jD, reduceCtorEq, jE, jF]) | (with_reducible refine uR ?_; refine uS rfl ?_) | omega))
      have hx0 : (outL P ws a).map (fun w => [w.v]) = [] := by simp [outL, hR]
      have hit := fun hb h1 h2 => out_iter o P ws a (by omega) (nx + 5) (nx + 6) hb h1 h2
      rw [hx0] at hit
      obtain ⟨H0, hH0⟩ : ∃ H0 : Hp, H0 = ((((((h'.set nx (Blk.arr (Sh.agg 2) [mps o P ws])).set (nx + 1) (Blk.arr Sh.leaf [V.int IntKind.i64 st])).set (nx + 2) (Blk.arr Sh.leaf [V.bool false])).set (nx + 3) (Blk.arr (Sh.agg 2) [V.agg [V.int IntKind.i64 0, V.sl (Sh.agg 4) Own.nil []]])).set (nx + 3) (Blk.arr (Sh.agg 2) [mps o3 P ws])).set (nx + 5) (Blk.arr (Sh.agg 2) [mps o P ws])).set (nx + 6) (Blk.arr Sh.leaf [V.int IntKind.i64 a]) := ⟨_, rfl⟩
      have hs0 : Hp.same nx h' H0 := by rw [hH0]; exact (by (try dsimp only); repeat (first | exact Hp.same.rfl' | refine same_set ?_ (by omega) _ | refine same_del ?_ (by omega)))
      have hd0 : DomB H0 nx2 := by rw [hH0]; exact (by (try dsimp only); repeat (first | exact DomB.up hd (by omega) | refine DomB.set2 ?_ (by omega) _ | refine DomB.del ?_ | refine DomB.delO ?_ _))
      have c5 : H0 (nx + 5) = some (.arr (.agg 2) [mps o P ws]) := by rw [hH0]; simp only [go_sem, reduceIte, jA, jB, jC, jD, reduceCtorEq, jE, jF]
      have c6 : H0 (nx + 6) = some (.arr .leaf [.int .i64 a]) := by rw [hH0]; simp only [go_sem, reduceIte, jA, jB, jC, jD, reduceCtorEq, jE, jF]
      have c2 : H0 (nx + 2) = some (.arr .leaf [.bool false]) := by rw [hH0]; simp only [go_sem, reduceIte, jA, jB, jC, jD, reduceCtorEq, jE, jF]
      rw [← hH0]
      refine lwp_range_iter (hit H0 c5 c6) rfl (fun x hx => by cases hx) hd0 (fun i h nx1 => Hp.same nx2 H0 h) (fun _ _ _ => False) (fun i h nx1 hI => le_has (hI.le hd0 (Hp.le_refl _))) (fun i h n1 n2 hI _ => hI) (fun i h n1 b hI => same_set hI (Nat.le_refl _) b) (fun _ _ _ _ h => h.elim) (fun _ _ _ _ h => h.elim) Hp.same.rfl' (fun i hi => absurd hi (by simp)) ?_ (fun _ _ _ h => h.elim)
      intro h nx3 hI hnx3 hdm3
      have d2 : h (nx + 2) = some (.arr .leaf [.bool false]) := by rw [hI _ (by omega)]; exact c2
      have l2 : nx + 2 < nx2 := by omega
      have hs1 : Hp.same nx h' h := fun x hx => (hI x (by omega)).trans (hs0 x hx)
      have q0 : (((0 : Nat) : Int) == 0) = true := by decide
      (repeat' (first | (with_reducible first | refine stp ?_ | refine uP (by decide) ?_ | refine uQ (fun _ => ?_) (fun _ => ?_)) | ((first | (with_reducible refine uA ?_; first | refine uB rfl ?_ ?_  | (first | refine uC rfl ?_ | refine uD rfl ?_) | refine uE rfl ?_) | (with_reducible refine uF ?_; first | refine uG rfl ?_ ?_  | (first | refine uH rfl ?_ | refine uI rfl ?_) | refine uJ rfl ?_ | refine uK (uL ?_) | refine uK (uM ?_)) | (with_reducible refine uN ?_; refine uO rfl ?_)) <;> try simp only [d2, l2, q0, go_sem, reduceIte, jA, jB, jC, jD, reduceCtorEq, jE, jF]) | (with_reducible refine uR ?_; refine uS rfl ?_) | omega))
      refine ret_cell (by simp only [go_sem, reduceIte, jA, jB, jC, jD, reduceCtorEq, jE, jF]) h' ((show Hp.same nx h' _ from (by (try dsimp only); repeat (first | exact hs1 | refine same_set ?_ (by omega) _ | refine same_del ?_ (by omega)))).le hd (Hp.le_refl _)) ⟨?_, rfl⟩
      simp only [go_sem, reduceIte, jA, jB, jC, jD, reduceCtorEq, jE, jF]
    | true =>
      rw [hR] at cR2
      obtain ⟨n, l, R⟩ := (rightM_iff P ws).1 hR
      have hP := R.pl
      subst hP
      have hn := R.le
      have hws := R.eq
      have hlw : l.length ≤ 40 := by rw [hws] at hl; simpa using hl
      have hm3 : mps o3 n ws = .agg [.int .i64 n, wes o3 l] := by rw [hws]; simp only [mps, wys, wes, List.map_map]; rfl
      have cF : ∀ i, i < n → ∀ h, Pure Try.prog 21 [mps o3 n ws, .int .i64 i] h (fromV n l i) := fun i hi h => by
        rw [hm3]; exact rfrom22_pure o3 n l i R.fit R.turn hi hn (by omega) h
      (repeat' (first | (with_reducible first | refine stp ?_ | refine uP (by decide) ?_ | refine uQ (fun _ => ?_) (fun _ => ?_)) | ((first | (with_reducible refine uA ?_; first | refine uB rfl ?_ ?_ | refine lops_pure (alive22_pure _) rfl (has_refl _) ?_ | refine lops_pure (large_pure o _ ws _) rfl (has_refl _) ?_ | refine lops_pure (cD _) rfl (has_refl _) ?_ | (first | refine uC rfl ?_ | refine uD rfl ?_) | refine uE rfl ?_) | (with_reducible refine uF ?_; first | refine uG rfl ?_ ?_  | (first | refine uH rfl ?_ | refine uI rfl ?_) | refine uJ rfl ?_ | refine uK (uL ?_) | refine uK (uM ?_)) | (with_reducible refine uN ?_; refine uO rfl ?_)) <;> try simp only [hmf, hmf3, hL, go_sem, reduceIte, jA, jB, jC, jD, reduceCtorEq, jE, jF]) | (with_reducible refine uR ?_; refine uS rfl ?_) | omega))
      refine lops_call (((all_walk o R (by omega) _ _).dom).mono ?_)
      rintro v2 hq nx2 hnx2 ⟨⟨o2, rfl, hacc, hsm⟩, hdm, _⟩
      dsimp only at hnx2
      unfold callQ
      have b0 : hq nx = some (.arr (.agg 2) [mps o n ws]) := by rw [hsm _ (by dsimp only; omega)]; simp only [go_sem, reduceIte, jA, jB, jC, jD, reduceCtorEq, jE, jF]
      have b1 : hq (nx + 1) = some (.arr .leaf [.int .i64 st]) := by rw [hsm _ (by dsimp only; omega)]; simp only [go_sem, reduceIte, jA, jB, jC, jD, reduceCtorEq, jE, jF]
      have b2 : hq (nx + 2) = some (.arr .leaf [.bool false]) := by rw [hsm _ (by dsimp only; omega)]; simp only [go_sem, reduceIte, jA, jB, jC, jD, reduceCtorEq, jE, jF]
      have b3 : hq (nx + 3) = some (.arr (.agg 2) [mps o3 n ws]) := by rw [hsm _ (by dsimp only; omega)]; simp only [go_sem, reduceIte, jA, jB, jC, jD, reduceCtorEq, jE, jF]
      have hs1 : Hp.same nx h' hq := fun x hx => (hsm x (by dsimp only; omega)).trans ((show Hp.same nx h' _ from (by (try dsimp only); repeat (first | exact Hp.same.rfl' | refine same_set ?_ (by omega) _ | refine same_del ?_ (by omega)))) x hx)
      have hge : nx + 5 ≤ nx2 := by omega
      have halen : (allV n l n).length = n := by simp [allV]
      have haget : ∀ i, i < n → (allV n l n).getD i (.tup []) = fromV n l i := fun i hi => by
        unfold allV
        rw [List.getD_eq_getElem?_getD, List.getElem?_eq_getElem (by simpa using hi)]
        simp
      have hnn : ((n : Int) != (n : Int)) = false := by simp
      clear hsm hacc
      obtain ⟨al, hal⟩ : ∃ al, al = allV n l n := ⟨_, rfl⟩
      rw [← hal] at halen haget ⊢
      clear hal
      simp only [go_sem, reduceIte, jA, jB, jC, jD, reduceCtorEq, jE, jF]
      (repeat' (first | (with_reducible first | refine stp ?_ | refine uP (by decide) ?_ | refine uQ (fun _ => ?_) (fun _ => ?_)) | ((first | (with_reducible refine uA ?_; first | refine uB rfl ?_ ?_ | refine lops_pure (cR2 _) rfl (has_refl _) ?_ | (first | refine uC rfl ?_ | refine uD rfl ?_) | refine uE rfl ?_) | (with_reducible refine uF ?_; first | refine uG rfl ?_ ?_  | (first | refine uH rfl ?_ | refine uI rfl ?_) | refine uJ rfl ?_ | refine uK (uL ?_) | refine uK (uM ?_)) | (with_reducible refine uN ?_; refine uO rfl ?_)) <;> try simp only [hmf3, b3, halen, hnn, go_sem, reduceIte, jA, jB, jC, jD, reduceCtorEq, jE, jF]) | (with_reducible refine uR ?_; refine uS rfl ?_) | omega))
      -- the boxes that stand through it all
      obtain ⟨G, hG⟩ : ∃ G : Hp → Nat → Prop, ∀ hp nx1, G hp nx1 ↔ (hp nx = some (.arr (.agg 2) [mps o n ws]) ∧ hp (nx + 1) = some (.arr .leaf [.int .i64 st]) ∧ hp (nx + 2) = some (.arr .leaf [.bool false]) ∧ hp (nx + 3) = some (.arr (.agg 2) [mps o3 n ws]) ∧ Hp.same nx h' hp ∧ nx + 5 ≤ nx1 ∧ DomB hp nx1) := ⟨_, fun _ _ => Iff.rfl⟩
      have g0 : G hq nx2 := (hG _ _).2 ⟨b0, b1, b2, b3, hs1, hge, hdm⟩
      clear b0 b1 b2 b3 hs1 hge hdm
      refine lwp_loopM (fun i : Nat => mkFrom 128 0 [(1, .int .i64 a), (3, .ptr nx (.agg 2) 0 0), (5, .ptr (nx + 1) .leaf 0 0), (6, .ptr (nx + 2) .leaf 0 0), (7, .ptr (nx + 3) (.agg 2) 0 0), (8, .sl .leaf o2 al), (41, .int .i64 n), (42, .int .i64 i)])
        (fun i hp nx1 => i ≤ n ∧ G hp nx1) (fun i => n - i) 0 ⟨Nat.zero_le _, g0⟩ ?_ ?_
      · simp only [WkL, mkFrom, jH, jI, jJ,  go_sem, reduceIte, jA, jB, jC, jD, reduceCtorEq, jE, jF]
      clear g0
      rintro i hp nx1 ⟨hi, g⟩
      generalize hQ : roundM _ _ _ _ _ = Q0
      obtain ⟨b0, b1, b2, b3, hs1, hge, hdm⟩ := (hG _ _).1 g
      simp only [mkFrom, go_sem, reduceIte, jA, jB, jC, jD, reduceCtorEq, jE, jF]
      rcases Nat.lt_or_ge i n with hlt | hge2
      · have hc : decide ((i : Int) < (n : Int)) = true := decide_eq_true (by omega)
        have hw : IntKind.i64.wrap ((i : Int) + 1) = ((i + 1 : Nat) : Int) := by rw [wrap_in] <;> omega
        have hgi := haget i hlt
        obtain ⟨rows, hrows⟩ : ∃ rows, rows = (fromL n l i).map fun m => lst (.agg 2) (m.map Pa.v) := ⟨_, rfl⟩
        have hfv : fromV n l i = .sl .leaf .free rows := by rw [hrows]; rfl
        have hrl : rows.length = n := by rw [hrows, jK, fromL_len]
        have hrg : ∀ k, k < n → rows.getD k (.tup []) = .sl (.agg 2) (lown (leastL l i k)) ((leastL l i k).map Pa.v) := fun k hk => by
          rw [hrows, ← lst_lown, getD_map' (fun m : List Pa => lst (.agg 2) (m.map Pa.v)) (fromL n l i) k (by rw [fromL_len]; exact hk)]
          simp [fromL]
        rw [hfv] at hgi
        have cFi : ∀ h, Pure Try.prog 21 [mps o3 n ws, .int .i64 i] h (.sl .leaf .free rows) := fun h => by rw [← hfv]; exact cF i hlt h
        have hrn : ((rows.length : Int) != (rows.length : Int)) = false := by simp
        clear hrows hfv
        (repeat' (first | (with_reducible first | refine stp ?_ | refine uP (by decide) ?_ | refine uQ (fun _ => ?_) (fun _ => ?_)) | ((first | (with_reducible refine uA ?_; first | refine uB rfl ?_ ?_ | refine lops_pure (cFi _) rfl (has_refl _) ?_ | (first | refine uC rfl ?_ | refine uD rfl ?_) | refine uE rfl ?_) | (with_reducible refine uF ?_; first | refine uG rfl ?_ ?_  | (first | refine uH rfl ?_ | refine uI rfl ?_) | refine uJ rfl ?_ | refine uK (uL ?_) | refine uK (uM ?_)) | (with_reducible refine uN ?_; refine uO rfl ?_)) <;> try simp only [b3, hmf3, hc, hgi, hlt, halen, hrn, jG, go_sem, reduceIte, jA, jB, jC, jD, reduceCtorEq, jE, jF]) | (with_reducible refine uR ?_; refine uS rfl ?_) | omega))
        refine lwp_loopM (fun k : Nat => mkFrom 128 0 [(1, .int .i64 a), (3, .ptr nx (.agg 2) 0 0), (5, .ptr (nx + 1) .leaf 0 0), (6, .ptr (nx + 2) .leaf 0 0), (7, .ptr (nx + 3) (.agg 2) 0 0), (8, .sl .leaf o2 al), (9, .int .i64 i), (10, .sl .leaf .free rows), (41, .int .i64 n), (42, .int .i64 i), (57, .int .i64 n), (58, .int .i64 k)])
          (fun k hp nx1 => k ≤ n ∧ G hp nx1) (fun k => n - k) 0 ⟨Nat.zero_le _, (hG _ _).2 ⟨b0, b1, b2, b3, hs1, by first | omega | (dsimp only; omega), (by (try dsimp only); repeat (first | exact DomB.up hdm (by omega) | refine DomB.set2 ?_ (by omega) _ | refine DomB.del ?_ | refine DomB.delO ?_ _))⟩⟩ ?_ ?_
        · simp only [WkL, mkFrom, jH, jI, jJ, hrl, go_sem, reduceIte, jA, jB, jC, jD, reduceCtorEq, jE, jF]
        clear b0 b1 b2 b3 hs1 hge hdm g
        rintro k hp nx1 ⟨hk, g⟩
        generalize hQ1 : roundM _ _ _ _ _ = Q1
        obtain ⟨b0, b1, b2, b3, hs1, hge, hdm⟩ := (hG _ _).1 g
        simp only [mkFrom, go_sem, reduceIte, jA, jB, jC, jD, reduceCtorEq, jE, jF]
        rcases Nat.lt_or_ge k n with hkl | hgk
        · have hck : decide ((k : Int) < (n : Int)) = true := decide_eq_true (by omega)
          have hwk : IntKind.i64.wrap ((k : Int) + 1) = ((k + 1 : Nat) : Int) := by rw [wrap_in] <;> omega
          have hgk := hrg k hkl
          have hcl : (leastL l i k).length ≤ 100000 := Nat.le_trans (can_len (leastL_spec l i k).can) (by omega)
          (repeat' (first | (with_reducible first | refine stp ?_ | refine uP (by decide) ?_ | refine uQ (fun _ => ?_) (fun _ => ?_)) | ((first | (with_reducible refine uA ?_; first | refine uB rfl ?_ ?_  | (first | refine uC rfl ?_ | refine uD rfl ?_) | refine uE rfl ?_) | (with_reducible refine uF ?_; first | refine uG rfl ?_ ?_ | refine dops_pure (paths_pure _ _ (leastL l i k) hcl _) rfl (none_has _) ?_ | (first | refine uH rfl ?_ | refine uI rfl ?_) | refine uJ rfl ?_ | refine uK (uL ?_) | refine uK (uM ?_)) | (with_reducible refine uN ?_; refine uO rfl ?_)) <;> try simp only [hck, hwk, hgi, hgk, hlt, hkl, halen, hrl, jG, go_sem, reduceIte, jA, jB, jC, jD, reduceCtorEq, jE, jF]) | (with_reducible refine uR ?_; refine uS rfl ?_) | omega))
          rw [← hQ1]
          refine roundM_normal (k + 1) (by omega) ⟨hkl, (hG _ _).2 ⟨b0, b1, b2, b3, hs1, by first | omega | (dsimp only; omega), (by (try dsimp only); repeat (first | exact DomB.up hdm (by omega) | refine DomB.set2 ?_ (by omega) _ | refine DomB.del ?_ | refine DomB.delO ?_ _))⟩⟩ ?_
          simp only [WkL, mkFrom, jH, jI, jJ,  go_sem, reduceIte, jA, jB, jC, jD, reduceCtorEq, jE, jF]
        have hck : decide ((k : Int) < (n : Int)) = false := decide_eq_false (by omega)
        (repeat' (first | (with_reducible first | refine stp ?_ | refine uP (by decide) ?_ | refine uQ (fun _ => ?_) (fun _ => ?_)) | ((first | (with_reducible refine uA ?_; first | refine uB rfl ?_ ?_  | (first | refine uC rfl ?_ | refine uD rfl ?_) | refine uE rfl ?_) | (with_reducible refine uF ?_; first | refine uG rfl ?_ ?_  | (first | refine uH rfl ?_ | refine uI rfl ?_) | refine uJ rfl ?_ | refine uK (uL ?_) | refine uK (uM ?_)) | (with_reducible refine uN ?_; refine uO rfl ?_)) <;> try simp only [hck, go_sem, reduceIte, jA, jB, jC, jD, reduceCtorEq, jE, jF]) | (with_reducible refine uR ?_; refine uS rfl ?_) | omega))
        rw [← hQ1]
        (repeat' (first | (with_reducible first | refine stp ?_ | refine uP (by decide) ?_ | refine uQ (fun _ => ?_) (fun _ => ?_)) | ((first | (with_reducible refine uA ?_; first | refine uB rfl ?_ ?_  | (first | refine uC rfl ?_ | refine uD rfl ?_) | refine uE rfl ?_) | (with_reducible refine uF ?_; first | refine uG rfl ?_ ?_  | (first | refine uH rfl ?_ | refine uI rfl ?_) | refine uJ rfl ?_ | refine uK (uL ?_) | refine uK (uM ?_)) | (with_reducible refine uN ?_; refine uO rfl ?_)) <;> try simp only [hw, go_sem, reduceIte, jA, jB, jC, jD, reduceCtorEq, jE, jF]) | (with_reducible refine uR ?_; refine uS rfl ?_) | omega))
        rw [← hQ]
        refine roundM_normal (i + 1) (by omega) ⟨hlt, (hG _ _).2 ⟨b0, b1, b2, b3, hs1, hge, hdm⟩⟩ ?_
        simp only [WkL, mkFrom, jH, jI, jJ,  go_sem, reduceIte, jA, jB, jC, jD, reduceCtorEq, jE, jF]
      have hc : decide ((i : Int) < (n : Int)) = false := decide_eq_false (by omega)
      (repeat' (first | (with_reducible first | refine stp ?_ | refine uP (by decide) ?_ | refine uQ (fun _ => ?_) (fun _ => ?_)) | ((first | (with_reducible refine uA ?_; first | refine uB rfl ?_ ?_  | (first | refine uC rfl ?_ | refine uD rfl ?_) | refine uE rfl ?_) | (with_reducible refine uF ?_; first | refine uG rfl ?_ ?_  | (first | refine uH rfl ?_ | refine uI rfl ?_) | refine uJ rfl ?_ | refine uK (uL ?_) | refine uK (uM ?_)) | (with_reducible refine uN ?_; refine uO rfl ?_)) <;> try simp only [hc, go_sem, reduceIte, jA, jB, jC, jD, reduceCtorEq, jE, jF]) | (with_reducible refine uR ?_; refine uS rfl ?_) | omega))
      rw [← hQ]
      have l0 : nx < nx1 := by omega
      have l1 : nx + 1 < nx1 := by omega
      have l2 : nx + 2 < nx1 := by omega
      have l3 : nx + 3 < nx1 := by omega
      (repeat' (first | (with_reducible first | refine stp ?_ | refine uP (by decide) ?_ | refine uQ (fun _ => ?_) (fun _ => ?_)) | ((first | (with_reducible refine uA ?_; first | refine uB rfl ?_ ?_  | (first | refine uC rfl ?_ | refine uD rfl ?_) | refine uE rfl ?_) | (with_reducible refine uF ?_; first | refine uG rfl ?_ ?_  | (first | refine uH rfl ?_ | refine uI rfl ?_) | refine uJ rfl ?_ | refine uK (uL ?_) | refine uK (uM ?_)) | (with_reducible refine uN ?_; refine uO rfl ?_)) <;> try simp only [hc, b3, l3, go_sem, reduceIte, jA, jB, jC, jD, reduceCtorEq, jE, jF]) | (with_reducible refine uR ?_; refine uS rfl ?_) | omega))
      obtain ⟨nb, hnb⟩ : ∃ nb, nb = nx1 := ⟨_, rfl⟩
      have g1 : G (hp.set nb (.arr .leaf [.sl (.agg 4) .nil []])) (nb + 1) := by
        have e0 : (nx = nb) = False := eq_false (by omega)
        have e1 : (nx + 1 = nb) = False := eq_false (by omega)
        have e2 : (nx + 2 = nb) = False := eq_false (by omega)
        have e3 : (nx + 3 = nb) = False := eq_false (by omega)
        refine (hG _ _).2 ⟨by simp only [Hp.set, e0, if_false]; exact b0, by simp only [Hp.set, e1, if_false]; exact b1, by simp only [Hp.set, e2, if_false]; exact b2, by simp only [Hp.set, e3, if_false]; exact b3, (by (try dsimp only); repeat (first | exact hs1 | refine same_set ?_ (by omega) _ | refine same_del ?_ (by omega))), by omega, (by (try dsimp only); repeat (first | exact DomB.up hdm (by omega) | refine DomB.set2 ?_ (by omega) _ | refine DomB.del ?_ | refine DomB.delO ?_ _))⟩
      have hnb5 : nx + 5 ≤ nb := by omega
      have gt : ∀ {hp M : Hp} {n1 n2 : Nat}, G hp n1 → (∀ x, x < nb → M x = hp x) → n1 ≤ n2 → DomB M n2 → G M n2 := fun g hm hle hd2 => by
        obtain ⟨b0, b1, b2, b3, hs1, hge, _⟩ := (hG _ _).1 g
        exact (hG _ _).2 ⟨by rw [hm _ (by omega)]; exact b0, by rw [hm _ (by omega)]; exact b1, by rw [hm _ (by omega)]; exact b2, by rw [hm _ (by omega)]; exact b3, fun x hx => (hm x (by omega)).trans (hs1 x hx), by omega, hd2⟩
      rw [← hnb]
      clear b0 b1 b2 b3 hs1 hge hdm g l0 l1 l2 l3 hnb hge2 hc hi haget halen
      refine lwp_loopM (fun q : Nat × Own => mkFrom 128 0 [(1, .int .i64 a), (3, .ptr nx (.agg 2) 0 0), (5, .ptr (nx + 1) .leaf 0 0), (6, .ptr (nx + 2) .leaf 0 0), (7, .ptr (nx + 3) (.agg 2) 0 0), (12, .ptr nb .leaf 0 0), (77, wys o3 ws), (78, .int .i64 ws.length), (79, .int .i64 q.1)])
        (fun q hp nx1 => q.1 ≤ ws.length ∧ G hp nx1 ∧ nb < nx1 ∧ hp nb = some (.arr .leaf [.sl (.agg 4) q.2 (((ws.take q.1).filter fun w => decide (w.f = a)).map Wy.v)]) ∧ Acc hp (nb + 1) q.2 (((ws.take q.1).filter fun w => decide (w.f = a)).map Wy.v))
        (fun q => ws.length - q.1) (0, .nil) ⟨Nat.zero_le _, g1, by first | omega | (dsimp only; omega), by simp [Hp.set], Acc.nil⟩ ?_ ?_
      · simp only [WkL, mkFrom, jH, jI, jJ, wys, jK, go_sem, reduceIte, jA, jB, jC, jD, reduceCtorEq, jE, jF]
      clear g1
      rintro ⟨j, ow⟩ hp nx1 ⟨hj, g, hnb1, hbx, hacc⟩
      generalize hQ : roundM _ _ _ _ _ = Q0
      dsimp only at hj hbx hacc
      obtain ⟨b0, b1, b2, b3, hs1, hge, hdm⟩ := (hG _ _).1 g
      simp only [mkFrom, go_sem, reduceIte, jA, jB, jC, jD, reduceCtorEq, jE, jF]
      rcases Nat.lt_or_ge j ws.length with hlt | hge2
      · have hc : decide ((j : Int) < (ws.length : Int)) = true := decide_eq_true (by omega)
        have hg : (ws.map Wy.v).getD j (.tup []) = .agg [.int .i64 ws[j].f, .int .i64 ws[j].t, .bool ws[j].p.n, .int .i64 ws[j].p.a] := getD_map' Wy.v ws j hlt
        have hw : IntKind.i64.wrap ((j : Int) + 1) = ((j + 1 : Nat) : Int) := by rw [wrap_in] <;> omega
        have htk : ws.take (j + 1) = ws.take j ++ [ws[j]] := List.take_succ_eq_append_getElem hlt
        have hst : ∀ o es o' es', storePart .leaf 0 (V.sl (.agg 4) o es) (V.sl (.agg 4) o' es') = V.sl (.agg 4) o' es' := fun _ _ _ _ => rfl
        have n0 : (nx = nx1) = False := eq_false (by omega)
        have n1 : (nx + 1 = nx1) = False := eq_false (by omega)
        have n2 : (nx + 2 = nx1) = False := eq_false (by omega)
        have n3 : (nx + 3 = nx1) = False := eq_false (by omega)
        have n4 : (nb = nx1) = False := eq_false (by omega)
        by_cases hf : ws[j].f = a
        · have hcf : ((ws[j].f : Int) == a) = true := by simp [hf]
          have hfl : ((ws.take (j + 1)).filter fun w => decide (w.f = a)).map Wy.v = ((ws.take j).filter fun w => decide (w.f = a)).map Wy.v ++ [.agg [.int .i64 ws[j].f, .int .i64 ws[j].t, .bool ws[j].p.n, .int .i64 ws[j].p.a]] := by
            rw [htk, List.filter_append, List.map_append]; simp [hf, Wy.v]
          have hfn : (((ws.take j).filter fun w => decide (w.f = a)).map Wy.v).length ≤ 40 := by
            rw [jK]; exact Nat.le_trans (List.length_filter_le _ _) (by simp; omega)
          generalize ((ws.take j).filter fun w => decide (w.f = a)).map Wy.v = F at *
          have hb1 : (F.length + 1) * 32 ≤ 140737488355328 := by omega
          have n5 : (nb = nx1 + 2) = False := eq_false (by omega)
          have n6 : (nb = nx1 + 3) = False := eq_false (by omega)
          rcases hacc with ⟨rfl, rfl⟩ | ⟨hne, id, hid, rfl, htip⟩
          · (repeat' (first | (with_reducible first | refine stp ?_ | refine uP (by decide) ?_ | refine uQ (fun _ => ?_) (fun _ => ?_)) | ((first | (with_reducible refine uA ?_; first | refine uB rfl ?_ ?_ | refine lops_go3 rfl rfl (by simp only [jK, hbx, hnb1, hc, hg, hlt, hcf, hw, hst, n4, jK, jG, go_sem, reduceIte, jA, jB, jC, jD, reduceCtorEq, jE, jF]; try omega) ?_ | (first | refine uC rfl ?_ | refine uD rfl ?_) | refine uE rfl ?_) | (with_reducible refine uF ?_; first | refine uG rfl ?_ ?_  | (first | refine uH rfl ?_ | refine uI rfl ?_) | refine uJ rfl ?_ | refine uK (uL ?_) | refine uK (uM ?_)) | (with_reducible refine uN ?_; refine uO rfl ?_)) <;> try simp only [hbx, hnb1, hc, hg, hlt, hcf, hw, hst, n4, jK, jG, go_sem, reduceIte, jA, jB, jC, jD, reduceCtorEq, jE, jF]) | (with_reducible refine uR ?_; refine uS rfl ?_) | omega))
            rw [← hQ]
            refine roundM_normal (j + 1, .tok (nx1 + 3)) (by dsimp only; omega) ⟨hlt, gt g (fun x hx => ?_) (by first | omega | (dsimp only; omega)) (by (try dsimp only); repeat (first | exact DomB.up hdm (by omega) | refine DomB.set2 ?_ (by omega) _ | refine DomB.del ?_ | refine DomB.delO ?_ _)), by first | omega | (dsimp only; omega), ?_, ?_⟩ ?_
            · have e1 : (x = nx1) = False := eq_false (by omega)
              have e2 : (x = nx1 + 2) = False := eq_false (by omega)
              have e3 : (x = nx1 + 3) = False := eq_false (by omega)
              have e4 : (x = nb) = False := eq_false (by omega)
              simp only [Hp.set, Hp.del, e1, e2, e3, e4, if_false]
            · dsimp only
              rw [hfl]
              simp only [Hp.set, if_true, jQ]
            · dsimp only
              rw [hfl]
              have e4 : (nx1 + 3 = nb) = False := eq_false (by omega)
              refine .inr ⟨by simp, nx1 + 3, by omega, rfl, ?_⟩
              simp only [Hp.set, Hp.del, e4, if_true, if_false]
            simp only [WkL, mkFrom, jH, jI, jJ, wys, go_sem, reduceIte, jA, jB, jC, jD, reduceCtorEq, jE, jF]
          have hidn : id < nx1 := hdm _ _ htip
          have n7 : (id = nx1) = False := eq_false (by omega)
          have n8 : (nb = id) = False := eq_false (by omega)
          (repeat' (first | (with_reducible first | refine stp ?_ | refine uP (by decide) ?_ | refine uQ (fun _ => ?_) (fun _ => ?_)) | ((first | (with_reducible refine uA ?_; first | refine uB rfl ?_ ?_ | refine lops_go3 rfl rfl (by simp only [jK, hbx, hnb1, hc, hg, hlt, hcf, hw, hst, htip, hidn, hb1, n4, n7, n8, jK, jG, go_sem, reduceIte, jA, jB, jC, jD, reduceCtorEq, jE, jF]; try omega) ?_ | (first | refine uC rfl ?_ | refine uD rfl ?_) | refine uE rfl ?_) | (with_reducible refine uF ?_; first | refine uG rfl ?_ ?_  | (first | refine uH rfl ?_ | refine uI rfl ?_) | refine uJ rfl ?_ | refine uK (uL ?_) | refine uK (uM ?_)) | (with_reducible refine uN ?_; refine uO rfl ?_)) <;> try simp only [hbx, hnb1, hc, hg, hlt, hcf, hw, hst, htip, hidn, hb1, n4, n7, n8, jK, jG, go_sem, reduceIte, jA, jB, jC, jD, reduceCtorEq, jE, jF]) | (with_reducible refine uR ?_; refine uS rfl ?_) | omega))
          rw [← hQ]
          refine roundM_normal (j + 1, .tok (nx1 + 3)) (by dsimp only; omega) ⟨hlt, gt g (fun x hx => ?_) (by first | omega | (dsimp only; omega)) (by (try dsimp only); repeat (first | exact DomB.up hdm (by omega) | refine DomB.set2 ?_ (by omega) _ | refine DomB.del ?_ | refine DomB.delO ?_ _)), by first | omega | (dsimp only; omega), ?_, ?_⟩ ?_
          · have e1 : (x = nx1) = False := eq_false (by omega)
            have e2 : (x = nx1 + 2) = False := eq_false (by omega)
            have e3 : (x = nx1 + 3) = False := eq_false (by omega)
            have e4 : (x = nb) = False := eq_false (by omega)
            have e6 : (x = id) = False := eq_false (by omega)
            simp only [Hp.set, Hp.del, e1, e2, e3, e4, e6, if_false]
          · dsimp only
            rw [hfl]
            simp only [Hp.set, if_true, jQ]
          · dsimp only
            rw [hfl]
            have e4 : (nx1 + 3 = nb) = False := eq_false (by omega)
            refine .inr ⟨by simp, nx1 + 3, by omega, rfl, ?_⟩
            simp only [Hp.set, Hp.del, e4, if_true, if_false]
          simp only [WkL, mkFrom, jH, jI, jJ, wys, go_sem, reduceIte, jA, jB, jC, jD, reduceCtorEq, jE, jF]
        have hcf : ((ws[j].f : Int) == a) = false := by simp [hf]
        have hfl : (ws.take (j + 1)).filter (fun w => decide (w.f = a)) = (ws.take j).filter (fun w => decide (w.f = a)) := by
          rw [htk, List.filter_append]; simp [hf]
        (repeat' (first | (with_reducible first | refine stp ?_ | refine uP (by decide) ?_ | refine uQ (fun _ => ?_) (fun _ => ?_)) | ((first | (with_reducible refine uA ?_; first | refine uB rfl ?_ ?_  | (first | refine uC rfl ?_ | refine uD rfl ?_) | refine uE rfl ?_) | (with_reducible refine uF ?_; first | refine uG rfl ?_ ?_  | (first | refine uH rfl ?_ | refine uI rfl ?_) | refine uJ rfl ?_ | refine uK (uL ?_) | refine uK (uM ?_)) | (with_reducible refine uN ?_; refine uO rfl ?_)) <;> try simp only [hbx, hnb1, hc, hg, hlt, hcf, hw, n4, jK, jG, go_sem, reduceIte, jA, jB, jC, jD, reduceCtorEq, jE, jF]) | (with_reducible refine uR ?_; refine uS rfl ?_) | omega))
        rw [← hQ]
        refine roundM_normal (j + 1, ow) (by dsimp only; omega) ⟨hlt, (hG _ _).2 ⟨?_, ?_, ?_, ?_, (by (try dsimp only); repeat (first | exact hs1 | refine same_set ?_ (by omega) _ | refine same_del ?_ (by omega))), by first | omega | (dsimp only; omega), (by (try dsimp only); repeat (first | exact DomB.up hdm (by omega) | refine DomB.set2 ?_ (by omega) _ | refine DomB.del ?_ | refine DomB.delO ?_ _))⟩, by first | omega | (dsimp only; omega), ?_, ?_⟩ ?_
        · simp only [Hp.set, n0, if_false]; exact b0
        · simp only [Hp.set, n1, if_false]; exact b1
        · simp only [Hp.set, n2, if_false]; exact b2
        · simp only [Hp.set, n3, if_false]; exact b3
        · simp only [Hp.set, n4, if_false, hfl]; exact hbx
        · dsimp only; rw [hfl]
          refine hacc.keep fun id e => ?_
          have := hacc.lt hdm e
          simp only [Hp.set]
          rw [if_neg (by omega), if_neg (by omega)]
        simp only [WkL, mkFrom, jH, jI, jJ, wys, go_sem, reduceIte, jA, jB, jC, jD, reduceCtorEq, jE, jF]
      have hc : decide ((j : Int) < (ws.length : Int)) = false := decide_eq_false (by omega)
      have hjl : ws.take j = ws := List.take_of_length_le (by omega)
      rw [hjl] at hbx hacc
      (repeat' (first | (with_reducible first | refine stp ?_ | refine uP (by decide) ?_ | refine uQ (fun _ => ?_) (fun _ => ?_)) | ((first | (with_reducible refine uA ?_; first | refine uB rfl ?_ ?_  | (first | refine uC rfl ?_ | refine uD rfl ?_) | refine uE rfl ?_) | (with_reducible refine uF ?_; first | refine uG rfl ?_ ?_  | (first | refine uH rfl ?_ | refine uI rfl ?_) | refine uJ rfl ?_ | refine uK (uL ?_) | refine uK (uM ?_)) | (with_reducible refine uN ?_; refine uO rfl ?_)) <;> try simp only [hc, go_sem, reduceIte, jA, jB, jC, jD, reduceCtorEq, jE, jF]) | (with_reducible refine uR ?_; refine uS rfl ?_) | omega))
      rw [← hQ]
      have l0 : nx < nx1 := by omega
      have l1 : nx + 1 < nx1 := by omega
      have l2 : nx + 2 < nx1 := by omega
      obtain ⟨s, hs, hs8, hs9⟩ := stop_num st
      (repeat' (first | (with_reducible first | refine stp ?_ | refine uP (by decide) ?_ | refine uQ (fun _ => ?_) (fun _ => ?_)) | ((first | (with_reducible refine uA ?_; first | refine uB rfl ?_ ?_  | (first | refine uC rfl ?_ | refine uD rfl ?_) | refine uE rfl ?_) | (with_reducible refine uF ?_; first | refine uG rfl ?_ ?_  | (first | refine uH rfl ?_ | refine uI rfl ?_) | refine uJ rfl ?_ | refine uK (uL ?_) | refine uK (uM ?_)) | (with_reducible refine uN ?_; refine uO rfl ?_)) <;> try simp only [hc, b0, b1, l0, l1, hmf, hs, Nat.reduceMul, go_sem, reduceIte, jA, jB, jC, jD, reduceCtorEq, jE, jF]) | (with_reducible refine uR ?_; refine uS rfl ?_) | omega))
      refine lops_call ((out_walk o n ws a _ _).mono ?_)
      rintro v2 hq nx2 hnx2 ⟨rfl, rfl, hge3⟩
      dsimp only at hge3
      unfold callQ
      simp only [go_sem, reduceIte, jA, jB, jC, jD, reduceCtorEq, jE, jF]
      (repeat' (first | (with_reducible first | refine stp ?_ | refine uP (by decide) ?_ | refine uQ (fun _ => ?_) (fun _ => ?_)) | ((first | (with_reducible refine uA ?_; first | refine uB rfl ?_ ?_  | (first | refine uC rfl ?_ | refine uD rfl ?_) | refine uE rfl ?_) | (with_reducible refine uF ?_; first | refine uG rfl ?_ ?_  | (first | refine uH rfl ?_ | refine uI rfl ?_) | refine uJ rfl ?_ | refine uK (uL ?_) | refine uK (uM ?_)) | (with_reducible refine uN ?_; refine uO rfl ?_)) <;> try simp only [ go_sem, reduceIte, jA, jB, jC, jD, reduceCtorEq, jE, jF]) | (with_reducible refine uR ?_; refine uS rfl ?_) | omega))
      obtain ⟨OWN, hOWN⟩ : ∃ OWN, OWN = ws.filter (fun w => decide (w.f = a)) := ⟨_, rfl⟩
      have hxs : outL n ws a = OWN := by rw [hOWN]; unfold outL; rw [if_pos hR]
      have hol : OWN.length ≤ 40 := by rw [hOWN]; exact Nat.le_trans (List.length_filter_le _ _) (by omega)
      rw [← hOWN] at hbx
      have hit := fun hb h1 h2 => out_iter o n ws a (by omega) (nx1 + 3) (nx1 + 4) hb h1 h2
      rw [hxs] at hit
      clear hOWN hxs hacc
      have p0 : nx + 1 < nb := by omega
      have p1 : nx + 2 < nb := by omega
      have x1 : (nb = nx + 1) = False := eq_false (by omega)
      have x2 : (nb = nx1 + 1) = False := eq_false (by omega)
      have x3 : (nb = nx1 + 3) = False := eq_false (by omega)
      have x4 : (nb = nx1 + 4) = False := eq_false (by omega)
      have x5 : (nx + 2 = nx1 + 1) = False := eq_false (by omega)
      have x6 : (nx + 2 = nx1 + 3) = False := eq_false (by omega)
      have x7 : (nx + 2 = nx1 + 4) = False := eq_false (by omega)
      have x8 : (nx + 1 = nx1 + 1) = False := eq_false (by omega)
      have x9 : (nx + 1 = nx1 + 3) = False := eq_false (by omega)
      have x10 : (nx + 1 = nx1 + 4) = False := eq_false (by omega)
      obtain ⟨H2, hH2⟩ : ∃ H2 : Hp, H2 = ((((hp.set (nx + 1) (Blk.arr Sh.leaf [V.int IntKind.i64 s])).set (nx1 + 1) (Blk.arr Sh.leaf [V.int IntKind.i64 0])).set (nx1 + 1) (Blk.arr Sh.leaf [V.int IntKind.i64 0])).set (nx1 + 3) (Blk.arr (Sh.agg 2) [mps o n ws])).set (nx1 + 4) (Blk.arr Sh.leaf [V.int IntKind.i64 a]) := ⟨_, rfl⟩
      have k1 : H2 (nx + 1) = some (.arr .leaf [.int .i64 s]) := by rw [hH2]; simp only [Hp.set, x8, x9, x10, if_true, if_false]
      have k2 : H2 (nx + 2) = some (.arr .leaf [.bool false]) := by
        have e : (nx + 2 = nx + 1) = False := eq_false (by omega)
        rw [hH2]; simp only [Hp.set, x5, x6, x7, e, if_false]; exact b2
      have k3 : H2 nb = some (.arr .leaf [.sl (.agg 4) ow (OWN.map Wy.v)]) := by rw [hH2]; simp only [Hp.set, x1, x2, x3, x4, if_false]; exact hbx
      have k4 : H2 (nx1 + 1) = some (.arr .leaf [.int .i64 (0 : Nat)]) := by
        have e1 : (nx1 + 1 = nx1 + 3) = False := eq_false (by omega)
        have e2 : (nx1 + 1 = nx1 + 4) = False := eq_false (by omega)
        rw [hH2]; simp only [Hp.set, e1, e2, if_true, if_false]; rfl
      have k5 : H2 (nx1 + 3) = some (.arr (.agg 2) [mps o n ws]) := by
        have e2 : (nx1 + 3 = nx1 + 4) = False := eq_false (by omega)
        rw [hH2]; simp only [Hp.set, e2, if_true, if_false]
      have k6 : H2 (nx1 + 4) = some (.arr .leaf [.int .i64 a]) := by rw [hH2]; simp only [Hp.set, if_true]
      have hsH : Hp.same nx h' H2 := by rw [hH2]; exact (by (try dsimp only); repeat (first | exact hs1 | refine same_set ?_ (by omega) _ | refine same_del ?_ (by omega)))
      have hdH : DomB H2 nx2 := by rw [hH2]; exact (by (try dsimp only); repeat (first | exact DomB.up hdm (by omega) | refine DomB.set2 ?_ (by omega) _ | refine DomB.del ?_ | refine DomB.delO ?_ _))
      rw [← hH2]
      clear hH2 b0 b1 b2 b3 hbx hs1 g l0 l1 l2
      -- what holds where i ways have been handed over
      obtain ⟨J, hJ⟩ : ∃ J : Nat → Hp → Prop, ∀ i h, J i h ↔ ((∀ x, x < nx2 → x ≠ nx1 + 1 → h x = H2 x) ∧ h (nx1 + 1) = some (.arr .leaf [.int .i64 i])) := ⟨_, fun _ _ => Iff.rfl⟩
      have hhas : ∀ i h, J i h → Hp.has ((Hp.none.set (nx1 + 3) (.arr (.agg 2) [mps o n ws])).set (nx1 + 4) (.arr .leaf [.int .i64 a])) h := fun i h hj m k es e => by
        obtain ⟨q1, _⟩ := (hJ i h).1 hj
        unfold Hp.set at e
        by_cases e4 : m = nx1 + 4
        · rw [if_pos e4] at e; rw [← e, e4, q1 _ (by omega) (by omega)]; exact k6
        rw [if_neg e4] at e
        by_cases e3 : m = nx1 + 3
        · rw [if_pos e3] at e; rw [← e, e3, q1 _ (by omega) (by omega)]; exact k5
        rw [if_neg e3] at e; cases e
      have hset : ∀ i h b, J i h → J i (h.set nx2 b) := fun i h b hj => by
        obtain ⟨q1, q2⟩ := (hJ i h).1 hj
        refine (hJ _ _).2 ⟨fun x hx hne => ?_, ?_⟩
        · unfold Hp.set; rw [if_neg (by omega)]; exact q1 x hx hne
        unfold Hp.set; rw [if_neg (by omega)]; exact q2
      have hfin : ∀ i h, J i h → h (nx + 1) = some (.arr .leaf [.int .i64 s]) ∧ h (nx + 2) = some (.arr .leaf [.bool false]) ∧ h nb = some (.arr .leaf [.sl (.agg 4) ow (OWN.map Wy.v)]) ∧ h (nx1 + 1) = some (.arr .leaf [.int .i64 i]) ∧ Hp.same nx h' h := fun i h hj => by
        obtain ⟨q1, q2⟩ := (hJ i h).1 hj
        exact ⟨by rw [q1 _ (by omega) (by omega)]; exact k1, by rw [q1 _ (by omega) (by omega)]; exact k2, by rw [q1 _ (by omega) (by omega)]; exact k3, q2, fun x hx => (q1 x (by omega) (by omega)).trans (hsH x hx)⟩
      have y0 : nx + 1 < nx2 := by omega
      have y1 : nx + 2 < nx2 := by omega
      have y2 : nb < nx2 := by omega
      have y3 : nx1 + 1 < nx2 := by omega
      have hcell : ∀ m : Hp, m (nx + 2) = some (.arr .leaf [.bool true]) → True := fun _ _ => trivial
      refine lwp_range_iter (hit _ (by simp [Hp.set]) (by simp [Hp.set])) rfl (fun x hx => by obtain ⟨w, _, rfl⟩ := List.mem_map.1 hx; rfl) hdH (fun i h _ => J i h ∧ i < s) (fun e h _ => e = .exit 8 ∧ J s h ∧ s ≤ OWN.length)
        (fun i h _ hI => hhas i h hI.1) (fun i h n1 n2 hI _ => hI) (fun i h n1 b hI => ⟨hset i h b hI.1, hI.2⟩) (fun e h n1 n2 hE _ => hE) (fun e h n1 b hE => ⟨hE.1, hset s h b hE.2.1, hE.2.2⟩)
        ⟨(hJ 0 H2).2 ⟨fun _ _ _ => rfl, k4⟩, by omega⟩ ?_ ?_ ?_
      · intro i hi h nx3 X hI hnx3 hX hdm3
        dsimp only at hnx3 hX
        obtain ⟨hj, his⟩ := hI
        obtain ⟨d1, d2, d3, d4, _⟩ := hfin i h hj
        have hio : i < OWN.length := by simpa using hi
        have hx : (OWN.map fun w => [w.v])[i] = [OWN[i].v] := by simp
        obtain ⟨w, hw0⟩ : ∃ w, w = OWN[i] := ⟨_, rfl⟩
        have hgo : (OWN.map Wy.v).getD i (.tup []) = w.v := by rw [hw0]; exact getD_map' Wy.v OWN i hio
        rw [← hw0] at hx
        have hfw := Wy.fits_v w
        have hzw : (V.agg [V.int IntKind.i64 0, V.int IntKind.i64 0, V.bool false, V.int IntKind.i64 0]).fits (.agg 4) = true := rfl
        have a1 : (nx2 = nx3) = False := eq_false (by omega)
        have a2 : nx + 1 < nx3 := by omega
        have a3 : nx + 2 < nx3 := by omega
        have a4 : nb < nx3 := by omega
        have a5 : nx1 + 1 < nx3 := by omega
        simp only [putAll, hx, List.set_cons_succ, List.set_cons_zero]
        (repeat' (first | (with_reducible first | refine stp ?_ | refine uP (by decide) ?_ | refine uQ (fun _ => ?_) (fun _ => ?_)) | ((first | (with_reducible refine uA ?_; first | refine uB rfl ?_ ?_  | (first | refine uC rfl ?_ | refine uD rfl ?_) | refine uE rfl ?_) | (with_reducible refine uF ?_; first | refine uG rfl ?_ ?_  | (first | refine uH rfl ?_ | refine uI rfl ?_) | refine uJ rfl ?_ | refine uK (uL ?_) | refine uK (uM ?_)) | (with_reducible refine uN ?_; refine uO rfl ?_)) <;> try simp only [hfw, hzw, a1, go_sem, reduceIte, jA, jB, jC, jD, reduceCtorEq, jE, jF]) | (with_reducible refine uR ?_; refine uS rfl ?_) | omega))
        refine asgR_normal (by simp only [a1, go_sem, reduceIte, jA, jB, jC, jD, reduceCtorEq, jE, jF]; exact hX) fun X' => ?_
        simp only [go_sem, reduceIte, jA, jB, jC, jD, reduceCtorEq, jE, jF]
        have hc1 : decide ((i : Int) ≥ (OWN.length : Int)) = false := decide_eq_false (by omega)
        have cW : ∀ o h, Pure Try.prog 23 [.sl (.agg 4) o [w.v]] h (.sl (.agg 4) .free [w.v]) := fun o h => ways_pure o [w] (by simp) h
        have hv : veq (.plain (.agg 4) [.int, .int, .bool, .int]) w.v w.v = some true := by rw [veq_wy]; simp
        have hwi : IntKind.i64.wrap ((i : Int) + 1) = ((i + 1 : Nat) : Int) := by rw [wrap_in] <;> omega
        have a6 : (nx + 1 = nx2) = False := eq_false (by omega)
        have a7 : (nx + 2 = nx2) = False := eq_false (by omega)
        have a8 : (nb = nx2) = False := eq_false (by omega)
        have a9 : (nx1 + 1 = nx2) = False := eq_false (by omega)
        have a10 : (nx3 = nx2) = False := eq_false (by omega)
        have a11 : (nx2 = nx1 + 1) = False := eq_false (by omega)
        have z0 : (nx = nx1) = False := eq_false (by omega)
        have hnext : ∀ M : Hp, (∀ x, x < nx2 → x ≠ nx1 + 1 → M x = h x) → M (nx1 + 1) = some (.arr .leaf [.int .i64 ((i + 1 : Nat) : Int)]) → J (i + 1) M := fun M q1 q2 => by
          obtain ⟨r1, _⟩ := (hJ i h).1 hj
          exact (hJ _ _).2 ⟨fun x hx hne => (q1 x hx hne).trans (r1 x hx hne), q2⟩
        by_cases hlast : i + 1 = s
        · have hc2 : (((i + 1 : Nat) : Int) == (s : Int)) = true := by simp [hlast]
          (repeat' (first | (with_reducible first | refine stp ?_ | refine uP (by decide) ?_ | refine uQ (fun _ => ?_) (fun _ => ?_)) | ((first | (with_reducible refine uA ?_; first | refine uB rfl ?_ ?_  | (first | refine uC rfl ?_ | refine uD rfl ?_) | refine uE rfl ?_) | (with_reducible refine uF ?_; first | refine uG rfl ?_ ?_ | refine dops_pure (cW _ _) rfl (none_has _) ?_ | (first | refine uH rfl ?_ | refine uI rfl ?_) | refine uJ rfl ?_ | refine uK (uL ?_) | refine uK (uM ?_)) | (with_reducible refine uN ?_; refine uO rfl ?_)) <;> try simp only [d1, d3, d4, hc1, hgo, hio, hfw, hv, hwi, hc2, z0, a1, a2, a4, a5, a6, a8, a9, a10, jK, jG, go_sem, reduceIte, jA, jB, jC, jD, reduceCtorEq, jE, jF]) | (with_reducible refine uR ?_; refine uS rfl ?_) | omega))
          refine rangeR_exit ?_ ⟨rfl, ?_, by omega⟩
          · have e1 : (nx2 = nx3 + 8) = False := eq_false (by omega)
            simp only [Hp.set, a11, e1, if_true, if_false]
          rw [← hlast]
          refine hnext _ ?_ ?_
          · intro x hx hne
            have e1 : (x = nx1 + 1) = False := eq_false hne
            have e2 : (x = nx3 + 8) = False := eq_false (by omega)
            have e3 : (x = nx2) = False := eq_false (by omega)
            have e4 : (x = nx3) = False := eq_false (by omega)
            simp only [Hp.set, e1, e2, e3, e4, if_false]
          simp only [Hp.set, if_true]
        have hc2 : (((i + 1 : Nat) : Int) == (s : Int)) = false := by simp; omega
        (repeat' (first | (with_reducible first | refine stp ?_ | refine uP (by decide) ?_ | refine uQ (fun _ => ?_) (fun _ => ?_)) | ((first | (with_reducible refine uA ?_; first | refine uB rfl ?_ ?_  | (first | refine uC rfl ?_ | refine uD rfl ?_) | refine uE rfl ?_) | (with_reducible refine uF ?_; first | refine uG rfl ?_ ?_ | refine dops_pure (cW _ _) rfl (none_has _) ?_ | (first | refine uH rfl ?_ | refine uI rfl ?_) | refine uJ rfl ?_ | refine uK (uL ?_) | refine uK (uM ?_)) | (with_reducible refine uN ?_; refine uO rfl ?_)) <;> try simp only [d1, d3, d4, hc1, hgo, hio, hfw, hv, hwi, hc2, z0, a1, a2, a4, a5, a6, a8, a9, a10, jK, jG, go_sem, reduceIte, jA, jB, jC, jD, reduceCtorEq, jE, jF]) | (with_reducible refine uR ?_; refine uS rfl ?_) | omega))
        refine rangeR_normal ?_ ⟨?_, by omega⟩
        · have e1 : (nx2 = nx3 + 8) = False := eq_false (by omega)
          simp only [Hp.set, a11, e1, if_true, if_false]
        refine hnext _ ?_ ?_
        · intro x hx hne
          have e1 : (x = nx1 + 1) = False := eq_false hne
          have e2 : (x = nx3 + 8) = False := eq_false (by omega)
          have e3 : (x = nx2) = False := eq_false (by omega)
          have e4 : (x = nx3) = False := eq_false (by omega)
          simp only [Hp.set, e1, e2, e3, e4, if_false]
        simp only [Hp.set, if_true]
      · intro h nx3 hI hnx3 hdm3
        obtain ⟨hj, hls⟩ := hI
        rw [jK] at hj hls
        obtain ⟨d1, d2, d3, d4, d5⟩ := hfin _ h hj
        have hmn : mnxI false (s : Int) (OWN.length : Int) = (OWN.length : Int) := by unfold mnxI; rw [if_neg (by simp), if_pos (by omega)]
        have hee : ((OWN.length : Int) == (OWN.length : Int)) = true := by simp
        (repeat' (first | (with_reducible first | refine stp ?_ | refine uP (by decide) ?_ | refine uQ (fun _ => ?_) (fun _ => ?_)) | ((first | (with_reducible refine uA ?_; first | refine uB rfl ?_ ?_  | (first | refine uC rfl ?_ | refine uD rfl ?_) | refine uE rfl ?_) | (with_reducible refine uF ?_; first | refine uG rfl ?_ ?_  | (first | refine uH rfl ?_ | refine uI rfl ?_) | refine uJ rfl ?_ | refine uK (uL ?_) | refine uK (uM ?_)) | (with_reducible refine uN ?_; refine uO rfl ?_)) <;> try simp only [d1, d2, d3, d4, y0, y1, y2, y3, hmn, hee, jK, go_sem, reduceIte, jA, jB, jC, jD, reduceCtorEq, jE, jF]) | (with_reducible refine uR ?_; refine uS rfl ?_) | omega))
        refine ret_cell (by simp only [go_sem, reduceIte, jA, jB, jC, jD, reduceCtorEq, jE, jF]) h' ((show Hp.same nx h' _ from (by (try dsimp only); repeat (first | exact d5 | refine same_set ?_ (by omega) _ | refine same_del ?_ (by omega)))).le hd (Hp.le_refl _)) ⟨?_, rfl⟩
        simp only [go_sem, reduceIte, jA, jB, jC, jD, reduceCtorEq, jE, jF]
      intro e h nx3 hE hnx3 hdm3 _
      obtain ⟨rfl, hj, hls⟩ := hE
      obtain ⟨d1, d2, d3, d4, d5⟩ := hfin _ h hj
      have hmn : mnxI false (s : Int) (OWN.length : Int) = (s : Int) := by unfold mnxI; rw [if_neg (by simp), if_neg (by omega)]
      have hee : ((s : Int) == (s : Int)) = true := by simp
      (repeat' (first | (with_reducible first | refine stp ?_ | refine uP (by decide) ?_ | refine uQ (fun _ => ?_) (fun _ => ?_)) | ((first | (with_reducible refine uA ?_; first | refine uB rfl ?_ ?_  | (first | refine uC rfl ?_ | refine uD rfl ?_) | refine uE rfl ?_) | (with_reducible refine uF ?_; first | refine uG rfl ?_ ?_  | (first | refine uH rfl ?_ | refine uI rfl ?_) | refine uJ rfl ?_ | refine uK (uL ?_) | refine uK (uM ?_)) | (with_reducible refine uN ?_; refine uO rfl ?_)) <;> try simp only [d1, d2, d3, d4, y0, y1, y2, y3, hmn, hee, jK, go_sem, reduceIte, jA, jB, jC, jD, reduceCtorEq, jE, jF]) | (with_reducible refine uR ?_; refine uS rfl ?_) | omega))
      refine ret_cell (by simp only [go_sem, reduceIte, jA, jB, jC, jD, reduceCtorEq, jE, jF]) h' ((show Hp.same nx h' _ from (by (try dsimp only); repeat (first | exact d5 | refine same_set ?_ (by omega) _ | refine same_del ?_ (by omega)))).le hd (Hp.le_refl _)) ⟨?_, rfl⟩
      simp only [go_sem, reduceIte, jA, jB, jC, jD, reduceCtorEq, jE, jF]


set_option maxRecDepth 100000 in
theorem pathAll_lifted (os : Os) (started : os.Started) (H : Type) (enc : TypeId × Value → H) :
    ReturnsInHanded {} Try.checked os 6 .any (Rows.pathAllSpec.pre6 enc Try.prog Try.f6 Rows.pathAllRow.domain false) (Rows.pathAllSpec.post enc Try.prog Try.f6 false true false false) := by
  refine law_lifted (C := Try.checked) (tb := 4) own started (by kernel_rfl) Try.func6
    (ChangeSpec.witness6 (enc := enc) (C := Try.checked) false ⟨#[], #[.agg #[.int .i64 0, .slice none 0 0], .int .i64 0, .int .i64 0], []⟩ 8 (by kernel_rfl) (by kernel_rfl) (by kernel_rfl) (by kernel_rfl))
    rfl (fun ds hds => by match ds, hds with | [_, _, _], _ => rfl) rfl Try.underlying4 laidOut (fun t ht => ?_) ?_
  · simp only [Try.params6, List.mem_cons, List.not_mem_nil, or_false] at ht
    rcases ht with rfl | rfl | rfl <;> exact ⟨by kernel_rfl, of_decide_eq_true (by kernel_rfl)⟩
  intro W base args ds p hval hA _ _
  refine law_contract (P := Try.prog) (congrArg Array.toList Try.params6) (by kernel_rfl) (fun xs hxs => ?_) W base args ds p hval hA
  match xs, hxs with
  | [x0, x1, x2], ⟨h0, h1, h2, _⟩ =>
    obtain ⟨o, P, ws, rfl⟩ := arg_map (by kernel_rfl) (by kernel_rfl) h0
    obtain ⟨x, rfl⟩ := arg_int (k := .i64) (by kernel_rfl) (by kernel_rfl) h1
    obtain ⟨y, rfl⟩ := arg_int (k := .i64) (by kernel_rfl) (by kernel_rfl) h2
    exact pathAll_law o P ws x y

theorem pathAll_holds : Rows.PathAllSaid :=
  OpenClaim.holds_of_wide 6 Try.f6 rfl rfl rfl rfl rfl rfl rfl ⟨rfl, rfl, rfl, rfl, rfl⟩ rfl rfl rfl rfl rfl (by kernel_rfl) Try.func6 (by kernel_rfl)
    (of_decide_eq_true (by kernel_rfl)) (by unfold Func.isWrapper; first | (rw [if_pos (by decide +kernel)]; kernel_rfl) | (rw [if_neg (by decide +kernel)]; exact ⟨rfl, rfl⟩))
    (fun os started H enc _ => pathAll_lifted os started H enc)

end Go.Proofs.Ytmpmngakheoacaa
