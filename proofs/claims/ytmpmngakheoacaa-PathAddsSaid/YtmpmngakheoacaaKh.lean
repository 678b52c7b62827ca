/-
Texts of this proof, one behind the other. No conditions.
-/
import Derived.Test.YtmpmngakheoacaaKPj
import Derived.Test.YtmpmngakheoacaaKg
/-
Contracts of package path, last part: from as a value, Least, All. No conditions.
-/
namespace Go.Proofs.Ytmpmngakheoacaa
set_option linter.unusedSimpArgs false
set_option linter.unusedVariables false
set_option linter.unusedSectionVars false
open Go.RowKit Go.Sort
attribute [local irreducible] IntKind.wrap
attribute [local go_sem] Option.some.injEq Prod.mk.injEq false_and and_false Bool.true_eq_false dRun dRest dbare dMerge nones if_true Bool.true_and dgoC dgoCRest fillV okAll nextAll LOper.ok LOper.next LOp.ok LOp.next LVal.ok LVal.out LArg.ev putV binOK pick_true pick_false pick_bool V.undef Sh.size addHp dokAll dnextAll LOper.dok LOper.dres LOp.dok LOp.dout dput conOK veqL leafEq List.take_succ_cons List.take_zero List.take_nil List.drop_succ_cons List.drop_zero List.drop_nil List.set_cons_succ List.set_cons_zero List.getD_cons_succ List.getD_cons_zero List.length_cons List.length_nil List.map_cons List.map_nil List.all_cons List.all_nil List.mem_cons List.not_mem_nil List.replicate_succ List.replicate_zero List.cons_append List.nil_append List.append_nil List.isEmpty_cons List.isEmpty_nil appOwn appHp appOK Option.getD_some Option.isSome_some Option.isSome_none Nat.add_eq Nat.zero_add Nat.add_zero true_and and_true and_self true_implies implies_true false_implies forall_const forall_eq forall_eq_or_imp ne_eq not_false_eq_true not_true_eq_false Bool.not_true Bool.not_false decide_true decide_false Bool.and_true Bool.true_and Bool.and_false Bool.false_and true_or or_true false_or or_false eq_self Bool.false_eq_true nxNe nxNe' tupOf mkFrom bval ogive cutOwn cutE_nil cutE_full cutE_tok cutE_free_nil cutE_free_cons selems Int.toNat_natCast Int.toNat_zero List.take_length Hp.set_app Hp.del_app goOps goRest LOper.plain LOp.isCall LOper.dplain LOp.isStop lops_nil gRun gRest bare gMerge V.gd_true V.gd_false pick_gd pick_gdn pick_and pick_or partOK_self loadPart_self storePart_self dgoOps dgoRest beq_true beq_false partOK_ll partOK_al partOK_aa loadPart_l loadPart_a storePart_la storePart_aa fits_leaf fits_agg leafy_bool leafy_int leafy_str leafy_nilPtr leafy_ptr leafy_ept leafy_sl leafy_rs leafy_nilMap leafy_map leafy_nilChan leafy_chan leafy_fn leafy_nilFn leafy_yld leafy_iface leafy_nilIface veq_aa veq_li veq_lb veq_ls cells_agg cells_leaf cell_agg cell_leaf veq_ptr1 veq_ptr2 veq_ptr3 veq_ptr4 veq_ptr5 veq_slice1 veq_slice2 veq_func1 veq_func2 veq_func3 veq_iface1 veq_iface2 veq_iface3 veq_map1 veq_map2 veq_map3 veq_chan1 veq_chan2 veq_chan3 conAt_add conAt_zero untaken wrHp Hp.turn delHp Option.isNone_some Option.isNone_none nxFq goOps2 goRest2 LOper.plain2 LOp.isApp ltNe ltNe1 ltNe' ltNe1' delO_nil delO_tok

/-- A table of lists of paths, as a value. -/
noncomputable def fromV (n : Nat) (l : List We) (a : Nat) : V := .sl .leaf .free ((fromL n l a).map fun m => lst (.agg 2) (m.map Pa.v))
theorem fromL_len (n : Nat) (l : List We) (a : Nat) : (fromL n l a).length = n := by simp [fromL]
theorem from_pure (ow : Own) (n : Nat) (l : List We) (a : Nat) (hfit : FitW n l) (ha : a < n) (hn : n ≤ 200) (hl : l.length ≤ 1000) (h : Hp) :
    Pure Try.prog 38 [.agg [.int .i64 n, wes ow l], .int .i64 a] h (fromV n l a) := by
  refine pure_of (fun L => ?_) fun h' nx hh => (acalls_freeze_rows (G := fun ls => ls = (fromL n l a).map (List.map Pa.v)) (from_walk ow n l a hfit ha hn hl h' nx)).mono ?_
  · unfold fromV
    simp only [V.names, true_and, and_true]
    refine ⟨fun n e => (by cases e), ?_⟩
    exact namesL_map (f := fun m : List Pa => lst (.agg 2) (m.map Pa.v)) (fun m => lst_names (fun L => namesL_map (Pa.names_v L) m) L) _
  · rintro v h'' nx2 hnx ⟨ls, rfl, rfl, rfl⟩
    refine ⟨?_, rfl⟩
    simp only [fromV, List.map_map]
    rfl

theorem least_pure (o : Own) {P : Int} {ws : List Wy} {n : Nat} {l : List We} (R : RightM P ws n l) (hl : ws.length ≤ 1000) (a b : Int) (h : Hp) :
    Pure Try.prog 16 [mps o P ws, .int .i64 a, .int .i64 b] h (if 0 ≤ a ∧ a < n ∧ 0 ≤ b ∧ b < n then lst (.agg 2) ((leastL l a.toNat b.toNat).map Pa.v) else .sl (.agg 2) .nil []) := by
  have hr : rightM P ws = true := (rightM_iff P ws).2 ⟨n, l, R⟩
  have hP := R.pl
  have hn := R.le
  have hmf : (mps o P ws).fits (.agg 2) = true := by simp [mps, V.fits, V.leafy, wys]
  have hcell : (mps o P ws).cell 0 = .int .i64 P := rfl
  have hlw : l.length ≤ 1000 := by have := R.eq; rw [this] at hl; simpa using hl
  refine pure_of (fun L => ?_) fun h' nx hh => acalls_walk L.path_Least_low fun hd => ?_
  · split
    · exact lst_names (fun L => namesL_map (Pa.names_v L) _) L
    · simp [V.names, namesL]
  simp only [List.length_cons, List.length_nil, Nat.reduceAdd, Nat.reduceSub, List.replicate_succ, List.replicate_zero, List.cons_append, List.nil_append, V.undef]
  have out : ∀ (hn' : ¬ (0 ≤ a ∧ a < n ∧ 0 ≤ b ∧ b < n)) (sl : List V) (nx2 : Nat), sl.getD 6 V.undef = .sl (.agg 2) .nil [] → postR [LRes.slot 6] (fun v' h'' x => (v' = if 0 ≤ a ∧ a < n ∧ 0 ≤ b ∧ b < n then lst (.agg 2) ((leastL l a.toNat b.toNat).map Pa.v) else .sl (.agg 2) .nil []) ∧ h'' = h') LExit.ret ⟨sl, h'.set nx (.arr (.agg 2) [mps o P ws]), nx2⟩ := fun hn' sl nx2 e => by
    refine ret_slot h' (by repeat (first | exact Hp.le_refl _ | refine le_of_fresh hd ?_ (by omega) _ | refine le_of_freshd hd ?_ (by omega))) ⟨by rw [if_neg hn']; exact e, rfl⟩
  subst hP
  by_cases h1 : a < 0
  · (repeat' (first | (with_reducible first | refine lwp_seq ?_ | refine lwp_ops ?_ | refine seqQ_normal ?_ | refine lops_done ?_ | refine blockQ_normal ?_ | refine lwp_block ?_ | refine lwp_skip ?_ | refine lwp_ret ?_ | refine seqQ_ret ?_ | refine blockQ_ret ?_ | refine roundM_ret ?_ | refine lwp_exit ?_ | refine seqQ_exit ?_ | refine roundM_exit ?_ | refine blockQ_exit ?_ | refine blockQ_other (by decide) ?_) | (with_reducible refine lops_id ?_; (first | refine lops_go2 rfl (by simp only [hmf, hcell, hr, h1, decide_true, decide_false, go_sem, reduceIte, Nat.reduceAdd, Nat.reduceSub, Nat.reduceLT, Nat.reduceLeDiff, reduceCtorEq, Nat.reduceEqDiff, Int.reduceToNat]; try omega) ?_ | refine lops_pure (rightMap_pure o n ws hl _) rfl (has_refl _) ?_ | ((first | refine lops_guardT rfl ?_ | refine lops_guardF rfl ?_); with_reducible first | refine condG_t ?_ | refine condG_f ?_ | refine condG_s (fun _ => ?_) (fun _ => ?_)) | refine lops_guard_no rfl ?_) <;> try simp only [hmf, hcell, hr, h1, decide_true, decide_false, go_sem, reduceIte, Nat.reduceAdd, Nat.reduceSub, Nat.reduceLT, Nat.reduceLeDiff, reduceCtorEq, Nat.reduceEqDiff, Int.reduceToNat]) | (with_reducible refine cond_id ?_; refine lwp_condB rfl ?_; with_reducible first | refine condG_t ?_ | refine condG_f ?_ | refine condG_s (fun _ => ?_) (fun _ => ?_)) | (with_reducible refine draw_id ?_; refine lwp_draw rfl ?_) | (with_reducible refine dops_id ?_; (first | refine dops_go1 rfl (by simp only [hmf, hcell, hr, h1, decide_true, decide_false, go_sem, reduceIte, Nat.reduceAdd, Nat.reduceSub, Nat.reduceLT, Nat.reduceLeDiff, reduceCtorEq, Nat.reduceEqDiff, Int.reduceToNat]; try omega) ?_  | ((first | refine dops_guardT rfl ?_ | refine dops_guardF rfl ?_); with_reducible first | refine condG_t ?_ | refine condG_f ?_ | refine condG_s (fun _ => ?_) (fun _ => ?_)) | refine dops_guard_no rfl ?_ | refine dops_nil (drawQ_nil ?_)) <;> try simp only [hmf, hcell, hr, h1, decide_true, decide_false, go_sem, reduceIte, Nat.reduceAdd, Nat.reduceSub, Nat.reduceLT, Nat.reduceLeDiff, reduceCtorEq, Nat.reduceEqDiff, Int.reduceToNat])))
    exact out (by omega) _ _ rfl
  · by_cases h2 : a ≥ n
    · (repeat' (first | (with_reducible first | refine lwp_seq ?_ | refine lwp_ops ?_ | refine seqQ_normal ?_ | refine lops_done ?_ | refine blockQ_normal ?_ | refine lwp_block ?_ | refine lwp_skip ?_ | refine lwp_ret ?_ | refine seqQ_ret ?_ | refine blockQ_ret ?_ | refine roundM_ret ?_ | refine lwp_exit ?_ | refine seqQ_exit ?_ | refine roundM_exit ?_ | refine blockQ_exit ?_ | refine blockQ_other (by decide) ?_) | (with_reducible refine lops_id ?_; (first | refine lops_go2 rfl (by simp only [hmf, hcell, hr, h1, h2, decide_true, decide_false, go_sem, reduceIte, Nat.reduceAdd, Nat.reduceSub, Nat.reduceLT, Nat.reduceLeDiff, reduceCtorEq, Nat.reduceEqDiff, Int.reduceToNat]; try omega) ?_ | refine lops_pure (rightMap_pure o n ws hl _) rfl (has_refl _) ?_ | ((first | refine lops_guardT rfl ?_ | refine lops_guardF rfl ?_); with_reducible first | refine condG_t ?_ | refine condG_f ?_ | refine condG_s (fun _ => ?_) (fun _ => ?_)) | refine lops_guard_no rfl ?_) <;> try simp only [hmf, hcell, hr, h1, h2, decide_true, decide_false, go_sem, reduceIte, Nat.reduceAdd, Nat.reduceSub, Nat.reduceLT, Nat.reduceLeDiff, reduceCtorEq, Nat.reduceEqDiff, Int.reduceToNat]) | (with_reducible refine cond_id ?_; refine lwp_condB rfl ?_; with_reducible first | refine condG_t ?_ | refine condG_f ?_ | refine condG_s (fun _ => ?_) (fun _ => ?_)) | (with_reducible refine draw_id ?_; refine lwp_draw rfl ?_) | (with_reducible refine dops_id ?_; (first | refine dops_go1 rfl (by simp only [hmf, hcell, hr, h1, h2, decide_true, decide_false, go_sem, reduceIte, Nat.reduceAdd, Nat.reduceSub, Nat.reduceLT, Nat.reduceLeDiff, reduceCtorEq, Nat.reduceEqDiff, Int.reduceToNat]; try omega) ?_  | ((first | refine dops_guardT rfl ?_ | refine dops_guardF rfl ?_); with_reducible first | refine condG_t ?_ | refine condG_f ?_ | refine condG_s (fun _ => ?_) (fun _ => ?_)) | refine dops_guard_no rfl ?_ | refine dops_nil (drawQ_nil ?_)) <;> try simp only [hmf, hcell, hr, h1, h2, decide_true, decide_false, go_sem, reduceIte, Nat.reduceAdd, Nat.reduceSub, Nat.reduceLT, Nat.reduceLeDiff, reduceCtorEq, Nat.reduceEqDiff, Int.reduceToNat])))
      exact out (by omega) _ _ rfl
    · by_cases h3 : b < 0
      · (repeat' (first | (with_reducible first | refine lwp_seq ?_ | refine lwp_ops ?_ | refine seqQ_normal ?_ | refine lops_done ?_ | refine blockQ_normal ?_ | refine lwp_block ?_ | refine lwp_skip ?_ | refine lwp_ret ?_ | refine seqQ_ret ?_ | refine blockQ_ret ?_ | refine roundM_ret ?_ | refine lwp_exit ?_ | refine seqQ_exit ?_ | refine roundM_exit ?_ | refine blockQ_exit ?_ | refine blockQ_other (by decide) ?_) | (with_reducible refine lops_id ?_; (first | refine lops_go2 rfl (by simp only [hmf, hcell, hr, h1, h2, h3, decide_true, decide_false, go_sem, reduceIte, Nat.reduceAdd, Nat.reduceSub, Nat.reduceLT, Nat.reduceLeDiff, reduceCtorEq, Nat.reduceEqDiff, Int.reduceToNat]; try omega) ?_ | refine lops_pure (rightMap_pure o n ws hl _) rfl (has_refl _) ?_ | ((first | refine lops_guardT rfl ?_ | refine lops_guardF rfl ?_); with_reducible first | refine condG_t ?_ | refine condG_f ?_ | refine condG_s (fun _ => ?_) (fun _ => ?_)) | refine lops_guard_no rfl ?_) <;> try simp only [hmf, hcell, hr, h1, h2, h3, decide_true, decide_false, go_sem, reduceIte, Nat.reduceAdd, Nat.reduceSub, Nat.reduceLT, Nat.reduceLeDiff, reduceCtorEq, Nat.reduceEqDiff, Int.reduceToNat]) | (with_reducible refine cond_id ?_; refine lwp_condB rfl ?_; with_reducible first | refine condG_t ?_ | refine condG_f ?_ | refine condG_s (fun _ => ?_) (fun _ => ?_)) | (with_reducible refine draw_id ?_; refine lwp_draw rfl ?_) | (with_reducible refine dops_id ?_; (first | refine dops_go1 rfl (by simp only [hmf, hcell, hr, h1, h2, h3, decide_true, decide_false, go_sem, reduceIte, Nat.reduceAdd, Nat.reduceSub, Nat.reduceLT, Nat.reduceLeDiff, reduceCtorEq, Nat.reduceEqDiff, Int.reduceToNat]; try omega) ?_  | ((first | refine dops_guardT rfl ?_ | refine dops_guardF rfl ?_); with_reducible first | refine condG_t ?_ | refine condG_f ?_ | refine condG_s (fun _ => ?_) (fun _ => ?_)) | refine dops_guard_no rfl ?_ | refine dops_nil (drawQ_nil ?_)) <;> try simp only [hmf, hcell, hr, h1, h2, h3, decide_true, decide_false, go_sem, reduceIte, Nat.reduceAdd, Nat.reduceSub, Nat.reduceLT, Nat.reduceLeDiff, reduceCtorEq, Nat.reduceEqDiff, Int.reduceToNat])))
        exact out (by omega) _ _ rfl
      · by_cases h4 : b ≥ n
        · (repeat' (first | (with_reducible first | refine lwp_seq ?_ | refine lwp_ops ?_ | refine seqQ_normal ?_ | refine lops_done ?_ | refine blockQ_normal ?_ | refine lwp_block ?_ | refine lwp_skip ?_ | refine lwp_ret ?_ | refine seqQ_ret ?_ | refine blockQ_ret ?_ | refine roundM_ret ?_ | refine lwp_exit ?_ | refine seqQ_exit ?_ | refine roundM_exit ?_ | refine blockQ_exit ?_ | refine blockQ_other (by decide) ?_) | (with_reducible refine lops_id ?_; (first | refine lops_go2 rfl (by simp only [hmf, hcell, hr, h1, h2, h3, h4, decide_true, decide_false, go_sem, reduceIte, Nat.reduceAdd, Nat.reduceSub, Nat.reduceLT, Nat.reduceLeDiff, reduceCtorEq, Nat.reduceEqDiff, Int.reduceToNat]; try omega) ?_ | refine lops_pure (rightMap_pure o n ws hl _) rfl (has_refl _) ?_ | ((first | refine lops_guardT rfl ?_ | refine lops_guardF rfl ?_); with_reducible first | refine condG_t ?_ | refine condG_f ?_ | refine condG_s (fun _ => ?_) (fun _ => ?_)) | refine lops_guard_no rfl ?_) <;> try simp only [hmf, hcell, hr, h1, h2, h3, h4, decide_true, decide_false, go_sem, reduceIte, Nat.reduceAdd, Nat.reduceSub, Nat.reduceLT, Nat.reduceLeDiff, reduceCtorEq, Nat.reduceEqDiff, Int.reduceToNat]) | (with_reducible refine cond_id ?_; refine lwp_condB rfl ?_; with_reducible first | refine condG_t ?_ | refine condG_f ?_ | refine condG_s (fun _ => ?_) (fun _ => ?_)) | (with_reducible refine draw_id ?_; refine lwp_draw rfl ?_) | (with_reducible refine dops_id ?_; (first | refine dops_go1 rfl (by simp only [hmf, hcell, hr, h1, h2, h3, h4, decide_true, decide_false, go_sem, reduceIte, Nat.reduceAdd, Nat.reduceSub, Nat.reduceLT, Nat.reduceLeDiff, reduceCtorEq, Nat.reduceEqDiff, Int.reduceToNat]; try omega) ?_  | ((first | refine dops_guardT rfl ?_ | refine dops_guardF rfl ?_); with_reducible first | refine condG_t ?_ | refine condG_f ?_ | refine condG_s (fun _ => ?_) (fun _ => ?_)) | refine dops_guard_no rfl ?_ | refine dops_nil (drawQ_nil ?_)) <;> try simp only [hmf, hcell, hr, h1, h2, h3, h4, decide_true, decide_false, go_sem, reduceIte, Nat.reduceAdd, Nat.reduceSub, Nat.reduceLT, Nat.reduceLeDiff, reduceCtorEq, Nat.reduceEqDiff, Int.reduceToNat])))
          exact out (by omega) _ _ rfl
        · obtain ⟨a', rfl⟩ : ∃ a' : Nat, a = a' := ⟨a.toNat, by omega⟩
          obtain ⟨b', rfl⟩ : ∃ b' : Nat, b = b' := ⟨b.toNat, by omega⟩
          have hm : mps o n ws = .agg [.int .i64 n, wes o l] := by rw [R.eq]; simp only [mps, wys, wes, List.map_map]; rfl
          have hf : ∀ h, Pure Try.prog 38 [mps o n ws, .int .i64 a'] h (fromV n l a') := fun h => by rw [hm]; exact from_pure o n l a' R.fit (by omega) hn hlw h
          have hbn : b' < (fromL n l a').length := by rw [fromL_len]; omega
          have hgd : ((fromL n l a').map fun m : List Pa => lst (.agg 2) (m.map Pa.v)).getD b' (.tup []) = lst (.agg 2) ((leastL l a' b').map Pa.v) := by
            rw [getD_map' _ _ _ hbn]; simp [fromL]
          have hll : (lst (.agg 2) ((leastL l a' b').map Pa.v)).leafy = true := by unfold lst; split <;> rfl
          have hb' : ((b' : Int) < (n : Int)) = True := eq_true (by omega)
          have hb0 : ((0 : Int) ≤ (b' : Int)) = True := eq_true (by omega)
          (repeat' (first | (with_reducible first | refine lwp_seq ?_ | refine lwp_ops ?_ | refine seqQ_normal ?_ | refine lops_done ?_ | refine blockQ_normal ?_ | refine lwp_block ?_ | refine lwp_skip ?_ | refine lwp_ret ?_ | refine seqQ_ret ?_ | refine blockQ_ret ?_ | refine roundM_ret ?_ | refine lwp_exit ?_ | refine seqQ_exit ?_ | refine roundM_exit ?_ | refine blockQ_exit ?_ | refine blockQ_other (by decide) ?_) | (with_reducible refine lops_id ?_; (first | refine lops_go2 rfl (by simp only [hmf, hcell, hr, h1, h2, h3, h4, fromV, hgd, hll, hb', hb0, List.length_map, fromL_len, and_self, decide_true, decide_false, go_sem, reduceIte, Nat.reduceAdd, Nat.reduceSub, Nat.reduceLT, Nat.reduceLeDiff, reduceCtorEq, Nat.reduceEqDiff, Int.reduceToNat]; try omega) ?_ | refine lops_pure (rightMap_pure o n ws hl _) rfl (has_refl _) ?_ | refine lops_pure (hf _) rfl (has_refl _) ?_ | ((first | refine lops_guardT rfl ?_ | refine lops_guardF rfl ?_); with_reducible first | refine condG_t ?_ | refine condG_f ?_ | refine condG_s (fun _ => ?_) (fun _ => ?_)) | refine lops_guard_no rfl ?_) <;> try simp only [hmf, hcell, hr, h1, h2, h3, h4, fromV, hgd, hll, hb', hb0, List.length_map, fromL_len, and_self, decide_true, decide_false, go_sem, reduceIte, Nat.reduceAdd, Nat.reduceSub, Nat.reduceLT, Nat.reduceLeDiff, reduceCtorEq, Nat.reduceEqDiff, Int.reduceToNat]) | (with_reducible refine cond_id ?_; refine lwp_condB rfl ?_; with_reducible first | refine condG_t ?_ | refine condG_f ?_ | refine condG_s (fun _ => ?_) (fun _ => ?_)) | (with_reducible refine draw_id ?_; refine lwp_draw rfl ?_) | (with_reducible refine dops_id ?_; (first | refine dops_go1 rfl (by simp only [hmf, hcell, hr, h1, h2, h3, h4, fromV, hgd, hll, hb', hb0, List.length_map, fromL_len, and_self, decide_true, decide_false, go_sem, reduceIte, Nat.reduceAdd, Nat.reduceSub, Nat.reduceLT, Nat.reduceLeDiff, reduceCtorEq, Nat.reduceEqDiff, Int.reduceToNat]; try omega) ?_  | ((first | refine dops_guardT rfl ?_ | refine dops_guardF rfl ?_); with_reducible first | refine condG_t ?_ | refine condG_f ?_ | refine condG_s (fun _ => ?_) (fun _ => ?_)) | refine dops_guard_no rfl ?_ | refine dops_nil (drawQ_nil ?_)) <;> try simp only [hmf, hcell, hr, h1, h2, h3, h4, fromV, hgd, hll, hb', hb0, List.length_map, fromL_len, and_self, decide_true, decide_false, go_sem, reduceIte, Nat.reduceAdd, Nat.reduceSub, Nat.reduceLT, Nat.reduceLeDiff, reduceCtorEq, Nat.reduceEqDiff, Int.reduceToNat])))
          refine ret_slot h' (by repeat (first | exact Hp.le_refl _ | refine le_of_fresh hd ?_ (by omega) _ | refine le_of_freshd hd ?_ (by omega))) ⟨?_, rfl⟩
          rw [if_pos (by omega)]
          simp only [Int.toNat_natCast, go_sem, reduceIte, Nat.reduceAdd, Nat.reduceSub, Nat.reduceLT, Nat.reduceLeDiff, reduceCtorEq, Nat.reduceEqDiff, Int.reduceToNat]
end Go.Proofs.Ytmpmngakheoacaa
/-
Least paths: they are there; one behind the other; with more ways none is farther. Plain laws. No conditions.
-/
namespace Go.Proofs.Ytmpmngakheoacaa
set_option linter.unusedSimpArgs false
set_option linter.unusedVariables false
set_option linter.unusedSectionVars false
open Go.RowKit Go.Sort

theorem min_ex (S : Nat → Prop) : ∀ n, S n → ∃ m, S m ∧ ∀ k, S k → m ≤ k := by
  intro n
  induction n using Nat.strongRecOn with
  | ind n ih =>
    intro hn
    by_cases h : ∃ k, k < n ∧ S k
    · obtain ⟨k, h1, h2⟩ := h
      exact ih k h1 h2
    · exact ⟨n, hn, fun k hk => Nat.le_of_not_lt fun hlt => h ⟨k, hlt, hk⟩⟩
theorem least_side (ws : List We) (a k : Nat) (b : Bool) : (∀ p, Val ws a k p → p.n ≠ b) ∨ ∃ q, Val ws a k q ∧ q.n = b ∧ ∀ p, Val ws a k p → p.n = b → q.a ≤ p.a := by
  by_cases h : ∃ p, Val ws a k p ∧ p.n = b
  · obtain ⟨p, h1, h2⟩ := h
    obtain ⟨m, ⟨q, hq1, hq2, hq3⟩, hm⟩ := min_ex (fun m => ∃ q, Val ws a k q ∧ q.n = b ∧ q.a.toNat = m) _ ⟨p, h1, h2, rfl⟩
    refine .inr ⟨q, hq1, hq2, fun r hr hrb => ?_⟩
    have := hm _ ⟨r, hr, hrb, rfl⟩
    have o1 := hr.ok
    have o2 := hq1.ok
    simp only [Pa.ok, Bool.and_eq_true, decide_eq_true_eq] at o1 o2
    omega
  · exact .inl fun p hp e => h ⟨p, hp, e⟩
theorem le_of_same {p q : Pa} (h : p.n = q.n) (h2 : p.a ≤ q.a) : p.le q = true := by
  obtain ⟨n, a⟩ := p; obtain ⟨m, b⟩ := q
  simp only at h h2
  subst h
  cases n <;> simp [Pa.le, h2]
theorem least_ex (ws : List We) (a k : Nat) : ∃ m, LeastOf ws a k m := by
  rcases least_side ws a k false with hF | ⟨f, f1, f2, f3⟩
  · rcases least_side ws a k true with hT | ⟨t, t1, t2, t3⟩
    · refine ⟨[], List.Pairwise.nil, (fun p hp => by cases hp), fun p hp => ?_⟩
      cases e : p.n with
      | false => exact absurd e (hF p hp)
      | true => exact absurd e (hT p hp)
    · refine ⟨[t], by simp [Can], (fun p hp => by simp at hp; subst hp; exact t1), fun p hp => ⟨t, by simp, ?_⟩⟩
      cases e : p.n with
      | false => exact absurd e (hF p hp)
      | true => exact le_of_same (t2.trans e.symm) (t3 p hp e)
  · rcases least_side ws a k true with hT | ⟨t, t1, t2, t3⟩
    · refine ⟨[f], by simp [Can], (fun p hp => by simp at hp; subst hp; exact f1), fun p hp => ⟨f, by simp, ?_⟩⟩
      cases e : p.n with
      | true => exact absurd e (hT p hp)
      | false => exact le_of_same (f2.trans e.symm) (f3 p hp e)
    · by_cases h : t.a ≤ f.a
      · refine ⟨[t], by simp [Can], (fun p hp => by simp at hp; subst hp; exact t1), fun p hp => ⟨t, by simp, ?_⟩⟩
        cases e : p.n with
        | true => exact le_of_same (t2.trans e.symm) (t3 p hp e)
        | false =>
          have := f3 p hp e
          simp [Pa.le, t2, e]
          omega
      · refine ⟨[f, t], by simp [Can, f2, t2]; omega, (fun p hp => by simp at hp; rcases hp with rfl | rfl <;> assumption), fun p hp => ?_⟩
        cases e : p.n with
        | true => exact ⟨t, by simp, le_of_same (t2.trans e.symm) (t3 p hp e)⟩
        | false => exact ⟨f, by simp, le_of_same (f2.trans e.symm) (f3 p hp e)⟩
theorem leastL_spec (ws : List We) (a k : Nat) : LeastOf ws a k (leastL ws a k) := by
  obtain ⟨m, hm⟩ := least_ex ws a k
  rw [leastL_eq hm]
  exact hm

/-! ### Walks without bounds -/
def Pa.cat (p q : Pa) : Pa := if q.n = true then q else ⟨p.n, p.a + q.a⟩
theorem Pa.cat_assoc (p q r : Pa) : (p.cat q).cat r = p.cat (q.cat r) := by
  obtain ⟨n, a⟩ := p; obtain ⟨m, b⟩ := q; obtain ⟨o, c⟩ := r
  cases m <;> cases o <;> simp [Pa.cat, Int.add_assoc]
theorem Pa.cat_mono {p p' : Pa} (q : Pa) (h : p.le p' = true) : (p.cat q).le (p'.cat q) = true := by
  obtain ⟨n, a⟩ := p; obtain ⟨m, b⟩ := p'; obtain ⟨o, c⟩ := q
  cases o
  · cases n <;> cases m <;> simp [Pa.cat, Pa.le] at h ⊢ <;> omega
  · simp [Pa.cat, Pa.le]
theorem Pa.thn_cat {p q r : Pa} (h : p.thn q = some r) : r = p.cat q := by
  unfold Pa.thn at h
  unfold Pa.cat
  split at h
  · cases h
  · split at h
    · rename_i e; injection h with h; rw [if_pos e, h]
    · rename_i e
      split at h
      · cases h
      · injection h with h; rw [if_neg e, h]
def urun : Pa → List We → Pa
  | p, [] => p
  | p, w :: l => urun (p.cat w.p) l
theorem urun_append : ∀ (l m : List We) (p : Pa), urun p (l ++ m) = urun (urun p l) m
  | [], _, _ => rfl
  | w :: l, m, p => urun_append l m _
theorem urun_mono : ∀ (l : List We) {p p' : Pa}, p.le p' = true → (urun p l).le (urun p' l) = true
  | [], _, _, h => h
  | w :: l, _, _, h => urun_mono l (Pa.cat_mono w.p h)
theorem nought_cat (q : Pa) : Pa.nought.cat q = q := by
  obtain ⟨o, c⟩ := q
  cases o <;> simp [Pa.cat, Pa.nought]
theorem urun_cat : ∀ (l : List We) (p : Pa), urun p l = p.cat (urun Pa.nought l)
  | [], p => by simp [urun, Pa.cat, Pa.nought]
  | w :: l, p => by
    show urun (p.cat w.p) l = p.cat (urun (Pa.nought.cat w.p) l)
    rw [nought_cat, urun_cat l (p.cat w.p), urun_cat l w.p, Pa.cat_assoc]
theorem run_urun : ∀ (l : List We) {p q : Pa}, run p l = some q → urun p l = q
  | [], p, q, h => by have h : some p = some q := h; injection h
  | w :: l, p, q, h => by
    have h : ((p.thn w.p).bind fun q => run q l) = some q := h
    cases e : p.thn w.p with
    | none => rw [e] at h; cases h
    | some r => rw [e] at h; have := run_urun l h; show urun (p.cat w.p) l = q; rw [← Pa.thn_cat e]; exact this
theorem urun_up : ∀ (l : List We) (p : Pa), (∀ w ∈ l, w.p.n = false ∧ 0 ≤ w.p.a) → p.le (urun p l) = true
  | [], p, _ => Pa.le_refl p
  | w :: l, p, h => by
    refine Pa.le_trans ?_ (urun_up l (p.cat w.p) fun v hv => h v (by simp [hv]))
    have := h w (by simp)
    obtain ⟨n, a⟩ := p
    cases n <;> simp [Pa.cat, Pa.le, this.1] <;> omega
def adds (l : List We) : Int := (l.map fun w => w.p.a).sum
theorem adds_cons (w : We) (l : List We) : adds (w :: l) = w.p.a + adds l := by simp [adds]
theorem adds_pos : ∀ {ws : List We}, (∀ w ∈ ws, 0 ≤ w.p.a) → 0 ≤ adds ws
  | [], _ => Int.le_refl _
  | v :: ws, h => by
    have h1 := h v (by simp)
    have h2 := adds_pos fun w hw => h w (List.mem_cons_of_mem v hw)
    rw [adds_cons]
    omega
theorem run_bound : ∀ (l : List We) (p : Pa), p.ok = true → (∀ w ∈ l, w.p.ok = true) → p.a + adds l ≤ 1048576 → run p l = some (urun p l)
  | [], p, _, _, _ => rfl
  | w :: l, p, hp, hw, hs => by
    have hwo := hw w (by simp)
    have hl0 : 0 ≤ adds l := adds_pos fun v hv => by
      have := hw v (by simp [hv])
      simp only [Pa.ok, Bool.and_eq_true, decide_eq_true_eq] at this
      exact this.1
    rw [adds_cons] at hs
    have hpo := hp
    have hwo' := hwo
    simp only [Pa.ok, Bool.and_eq_true, decide_eq_true_eq] at hpo hwo'
    have key : p.thn w.p = some (p.cat w.p) ∧ (p.cat w.p).ok = true ∧ (p.cat w.p).a + adds l ≤ 1048576 := by
      unfold Pa.thn Pa.cat
      rw [hp, hwo]
      by_cases e : w.p.n = true
      · rw [if_neg (by simp), if_pos e, if_pos e]
        exact ⟨rfl, hwo, by omega⟩
      · have ho : Pa.ok ⟨p.n, p.a + w.p.a⟩ = true := by
          simp only [Pa.ok, Bool.and_eq_true, decide_eq_true_eq]; omega
        rw [if_neg (by simp), if_neg e, if_neg e, ho]
        exact ⟨by simp, rfl, by simp only; omega⟩
    show ((p.thn w.p).bind fun q => run q l) = some (urun (p.cat w.p) l)
    rw [key.1]
    exact run_bound l _ key.2.1 (fun v hv => hw v (by simp [hv])) key.2.2
/-- A walk that comes by some place twice holds a ring, of ways that don't begin anew. -/
theorem ring_cut {ws : List We} (ht : NoTurn ws) {a k : Nat} {l : List We} (h : Walk ws a l k) (hnd : ¬ (stops a l).Nodup) :
    ∃ x c y b, l = x ++ (c ++ y) ∧ Walk ws a x b ∧ Walk ws b y k ∧ c ≠ [] ∧ (∀ w ∈ c, w.p.n = false) ∧ ∀ w ∈ c, w ∈ ws := by
  have : ∃ i j, ∃ hi : i < (stops a l).length, ∃ hj : j < (stops a l).length, i < j ∧ (stops a l)[i] = (stops a l)[j] := by
    refine Classical.byContradiction fun hno => hnd (List.pairwise_iff_getElem.2 fun i j hi hj hij e => hno ⟨i, j, hi, hj, hij, e⟩)
  obtain ⟨i, j, hi, hj, hij, e⟩ := this
  have hjl : j ≤ l.length := by rw [stops_len] at hj; omega
  obtain ⟨a1, b1⟩ := stops_at h i hi
  obtain ⟨a2, b2⟩ := stops_at h j hj
  have el : l = l.take i ++ ((l.drop i).take (j - i) ++ l.drop j) := by
    have e1 : l.drop j = (l.drop i).drop (j - i) := by rw [List.drop_drop]; congr 1; omega
    rw [e1, List.take_append_drop, List.take_append_drop]
  have hc : Walk ws (stops a l)[i] ((l.drop i).take (j - i)) (stops a l)[i] := by
    have ej : l.take j = l.take i ++ (l.drop i).take (j - i) := by
      rw [← List.take_add]; congr 1; omega
    rw [ej] at a2
    obtain ⟨x, q1, q2⟩ := Walk.split a2
    have : x = (stops a l)[i] := by
      have uniq : ∀ {m : List We} {u v v' : Nat}, Walk ws u m v → Walk ws u m v' → v = v' := by
        intro m
        induction m with
        | nil => intro u v v' h h'; exact (show u = v from h).symm.trans h'
        | cons w m ih => intro u v v' h h'; exact ih h.2.2 h'.2.2
      exact uniq q1 a1
    rw [this, ← e] at q2
    exact q2
  have hnn : ∀ w ∈ (l.drop i).take (j - i), w.p.n = false ∧ w ∈ ws := by
    intro w hwm
    obtain ⟨u, v, huv⟩ := List.append_of_mem hwm
    rw [huv] at hc
    obtain ⟨x, q1, q2⟩ := Walk.split hc
    obtain ⟨h1, h2, h3⟩ := q2
    refine ⟨?_, h1⟩
    cases hn : w.p.n with
    | false => rfl
    | true =>
      refine absurd ?_ (ht w h1 hn)
      rcases (h3.append q1).plus with h | h
      · exact .inl (by rw [h, h2])
      · exact .inr (by rw [h2]; exact h)
  refine ⟨_, _, _, _, el, a1, ?_, ?_, fun w hw => (hnn w hw).1, fun w hw => (hnn w hw).2⟩
  · rw [e]; exact b2
  · intro hnil
    have := congrArg List.length hnil
    simp at this
    omega
theorem nodup_walk {ws : List We} {n : Nat} (hfit : FitW n ws) (ht : NoTurn ws) {a k : Nat} : ∀ (r : Nat) (l : List We), l.length ≤ r → Walk ws a l k → ∃ m, Walk ws a m k ∧ (stops a m).Nodup ∧ (urun Pa.nought m).le (urun Pa.nought l) = true := by
  intro r
  induction r with
  | zero =>
    intro l hl h
    have : l = [] := List.length_eq_zero_iff.1 (by omega)
    subst this
    exact ⟨[], h, by simp [stops], Pa.le_refl _⟩
  | succ r ih =>
    intro l hl h
    by_cases hnd : (stops a l).Nodup
    · exact ⟨l, h, hnd, Pa.le_refl _⟩
    · obtain ⟨x, c, y, b, e, h1, h2, h3, h4, h5⟩ := ring_cut ht h hnd
      have hcl : 0 < c.length := List.length_pos_iff.2 h3
      obtain ⟨m, k1, k2, k3⟩ := ih (x ++ y) (by rw [e] at hl; simp at hl ⊢; omega) (h1.append h2)
      refine ⟨m, k1, k2, Pa.le_trans k3 ?_⟩
      rw [e, urun_append, urun_append, urun_append]
      refine urun_mono y (urun_up c _ fun w hw => ⟨h4 w hw, ?_⟩)
      have := (hfit w (h5 w hw)).2.2
      simp only [Pa.ok, Bool.and_eq_true, decide_eq_true_eq] at this
      exact this.1
theorem stops_eq {ws : List We} : ∀ {l : List We} {a k : Nat}, Walk ws a l k → stops a l = l.map (·.f) ++ [k]
  | [], a, k, h => by have h : a = k := h; subst h; rfl
  | w :: l, a, k, ⟨h1, h2, h3⟩ => by
    show a :: stops w.t l = w.f :: (l.map (·.f) ++ [k])
    rw [stops_eq h3, h2]
theorem walk_sub {ws : List We} : ∀ {l : List We} {a k : Nat}, Walk ws a l k → ∀ w ∈ l, w ∈ ws
  | [], _, _, _, w, hw => by cases hw
  | v :: l, _, _, ⟨h1, _, h3⟩, w, hw => by
    rcases List.mem_cons.1 hw with rfl | hw
    · exact h1
    · exact walk_sub h3 w hw
theorem adds_erase : ∀ {ws : List We} {w : We}, w ∈ ws → adds ws = w.p.a + adds (ws.erase w)
  | v :: ws, w, h => by
    by_cases e : v = w
    · subst e; rw [adds_cons]; simp
    · have hw : w ∈ ws := by
        rcases List.mem_cons.1 h with h | h
        · exact absurd h.symm e
        · exact h
      rw [List.erase_cons_tail (by simpa using e), adds_cons, adds_cons, adds_erase hw]
      omega
theorem adds_sub : ∀ {m ws : List We}, m.Nodup → (∀ w ∈ m, w ∈ ws) → (∀ w ∈ ws, 0 ≤ w.p.a) → adds m ≤ adds ws
  | [], ws, _, _, h => adds_pos h
  | w :: m, ws, hn, hs, h => by
    obtain ⟨h1, h2⟩ := List.nodup_cons.1 hn
    have hw := hs w (by simp)
    rw [adds_cons, adds_erase hw]
    have := adds_sub (ws := ws.erase w) h2 (fun v hv => (List.mem_erase_of_ne (by rintro rfl; exact h1 hv)).2 (hs v (by simp [hv]))) fun v hv => h v (List.mem_of_mem_erase hv)
    omega
theorem through {ws : List We} {n : Nat} (hfit : FitW n ws) (ht : NoTurn ws) (hsum : adds ws ≤ 1048576) {a b c : Nat} {p q r : Pa} (hp : Val ws a b p) (hq : Val ws b c q) (e : p.thn q = some r) : domi (leastL ws a c) r := by
  obtain ⟨l1, w1, r1⟩ := hp
  obtain ⟨l2, w2, r2⟩ := hq
  obtain ⟨m, k1, k2, k3⟩ := nodup_walk hfit ht (l1 ++ l2).length (l1 ++ l2) (Nat.le_refl _) (w1.append w2)
  have hu : urun Pa.nought (l1 ++ l2) = r := by
    rw [urun_append, urun_cat, run_urun _ r1, run_urun _ r2, Pa.thn_cat e]
  rw [hu] at k3
  have hnd : m.Nodup := by
    rw [stops_eq k1] at k2
    have := (List.nodup_append.1 k2).1
    exact List.Pairwise.of_map (·.f) (fun a b h e => h (by rw [e])) this
  have hok : ∀ w ∈ ws, w.p.ok = true := fun w hw => (hfit w hw).2.2
  have hms := walk_sub k1
  have hb : run Pa.nought m = some (urun Pa.nought m) := by
    refine run_bound m _ rfl (fun w hw => hok w (hms w hw)) ?_
    have := adds_sub hnd hms fun w hw => by
      have := hok w hw
      simp only [Pa.ok, Bool.and_eq_true, decide_eq_true_eq] at this
      exact this.1
    show 0 + adds m ≤ 1048576
    omega
  obtain ⟨x, hx, hxl⟩ := (leastL_spec ws a c).dom _ ⟨m, k1, hb⟩
  exact ⟨x, hx, Pa.le_trans hxl k3⟩
theorem walk_mono {ws ws' : List We} (hs : ∀ w ∈ ws, w ∈ ws') : ∀ {l : List We} {a k : Nat}, Walk ws a l k → Walk ws' a l k
  | [], _, _, h => h
  | _ :: _, _, _, ⟨h1, h2, h3⟩ => ⟨hs _ h1, h2, walk_mono hs h3⟩
theorem more_ways {ws ws' : List We} (hs : ∀ w ∈ ws, w ∈ ws') {a k : Nat} {p : Pa} (hp : p ∈ leastL ws a k) : domi (leastL ws' a k) p := by
  obtain ⟨l, h1, h2⟩ := (leastL_spec ws a k).val p hp
  exact (leastL_spec ws' a k).dom p ⟨l, walk_mono hs h1, h2⟩

/-! ### New of what New answers -/
theorem canonW_idem (ws : List Wy) : canonW (canonW ws) = canonW ws :=
  Inc.unique Wy.ord (canonW_inc _) (canonW_inc _) fun x => by rw [canonW_mem]
theorem newOf_canon (P : Int) (ws : List Wy) : newOf P (canonW ws) = newOf P ws := by
  have e : (∃ w ∈ canonW ws, w.fit P = false) ↔ ∃ w ∈ ws, w.fit P = false := by simp only [canonW_mem]
  unfold newOf
  rw [canonW_idem]
  simp only [e]
theorem newOf_zero {P : Int} {ws : List Wy} (h : (newOf P ws).2 = 0) : (newOf P ws).1 = (P, canonW ws) := by
  unfold newOf at h ⊢
  split at h
  · cases h
  · rename_i h1
    split at h
    · cases h
    · rename_i h2
      split at h
      · cases h
      · rename_i h3
        rw [if_neg h1, if_neg h2, if_neg h3]
theorem newOf_bad {P : Int} {ws : List Wy} (h : (newOf P ws).2 ≠ 0) : (newOf P ws).1 = (0, []) := by
  unfold newOf at h ⊢
  split
  · rfl
  · rename_i h1
    rw [if_neg h1] at h
    split
    · rfl
    · rename_i h2
      rw [if_neg h2] at h
      split
      · rfl
      · rename_i h3
        rw [if_neg h3] at h
        exact absurd rfl h
theorem newOf_right {P : Int} {ws : List Wy} (h : (newOf P ws).2 = 0) : ∃ n l, RightM P (canonW ws) n l := by
  refine (rightM_iff P (canonW ws)).1 ?_
  unfold rightM
  rw [decide_eq_true_eq, newOf_canon]
  exact ⟨h, by rw [newOf_zero h]⟩
theorem addedW_we (l : List We) : addedW (l.map We.wy) = adds l := by
  unfold addedW adds
  rw [List.map_map]
  rfl
theorem RightM.adds {P : Int} {ws : List Wy} {n : Nat} {l : List We} (R : RightM P ws n l) : Proofs.Ytmpmngakheoacaa.adds l ≤ 1048576 := by
  have := R.sum
  rw [R.eq, addedW_we] at this
  exact this

/-! ### The chapter's example -/
def aliveW : List We := [⟨0, 1, ⟨false, 0⟩⟩, ⟨1, 0, ⟨false, 1⟩⟩]
def aliveL : List Wy := [⟨0, 1, ⟨false, 0⟩⟩, ⟨1, 0, ⟨false, 1⟩⟩]
theorem alive_canon : canonW aliveL = aliveL := by rw [canonW_ins]; decide
theorem alive_new : newOf 2 aliveL = ((2, aliveL), 0) := by
  have h1 : ¬ ((2 : Int) < 0 ∨ (200 : Int) < 2 ∨ ∃ w ∈ aliveL, w.fit 2 = false) := by decide
  have h2 : ¬ (1048576 : Int) < addedW aliveL := by decide
  have h3 : ¬ (Idle (aliveL.map Wy.we) ∨ Turns (aliveL.map Wy.we)) := by
    rintro (⟨y, hy⟩ | ⟨w, hw, hn, _⟩)
    · have e1 : ∀ a b, (a, b) ∈ zE (aliveL.map Wy.we) → a = 0 ∧ b = 1 := by
        intro a b h
        have h : (a, b) ∈ [((0 : Nat), (1 : Nat))] := h
        simpa using h
      cases hy with
      | one h => have := e1 _ _ h; omega
      | cons h k =>
        have h1 := e1 _ _ h
        have := k.closed (S := fun x => x = 1) (fun a b ha hb => (e1 _ _ hb).2) h1.2
        omega
    · simp [aliveL, Wy.we] at hw
      rcases hw with rfl | rfl <;> cases hn
  unfold newOf
  rw [if_neg h1, alive_canon, if_neg h2, if_neg h3]
theorem alive_right : RightM 2 aliveL 2 aliveW := by
  have h : (newOf 2 aliveL).2 = 0 := by rw [alive_new]
  obtain ⟨n, l, R⟩ := newOf_right h
  rw [alive_canon] at R
  have hn : n = 2 := by have := R.pl; omega
  have hl : l = aliveW := by
    have h1 : aliveL = aliveW.map We.wy := rfl
    have h2 := R.eq
    rw [h1] at h2
    have inj : ∀ a b : We, a.wy = b.wy → a = b := by
      rintro ⟨f, t, p⟩ ⟨f', t', p'⟩ h
      simp only [We.wy, Wy.mk.injEq] at h
      simp only [We.mk.injEq]
      exact ⟨by omega, by omega, h.2.2⟩
    have : ∀ {x y : List We}, x.map We.wy = y.map We.wy → x = y := by
      intro x
      induction x with
      | nil => intro y h; cases y with
        | nil => rfl
        | cons => cases h
      | cons a x ih => intro y h; cases y with
        | nil => cases h
        | cons b y =>
          simp only [List.map_cons, List.cons.injEq] at h
          rw [inj a b h.1, ih h.2]
    exact (this h2).symm
  subst hn hl
  exact R
theorem alive_least : leastL aliveW 0 0 = [Pa.nought] :=
  leastL_eq ⟨by simp [Can], (fun p hp => by simp at hp; subst hp; exact Val.nought _ _), fun p ⟨l, h1, h2⟩ => ⟨Pa.nought, by simp, run_up l (fun w hw => by
    have := walk_sub h1 w hw
    simp [aliveW] at this
    rcases this with rfl | rfl <;> rfl) h2⟩⟩
end Go.Proofs.Ytmpmngakheoacaa
