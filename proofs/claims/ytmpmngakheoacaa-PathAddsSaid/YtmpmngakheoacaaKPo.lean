/-
corollarylaw22's alive and Large, corollarynum.Num; Least, whatever the map. No conditions.
-/
import Derived.Test.YtmpmngakheoacaaKh
namespace Go.Proofs.Ytmpmngakheoacaa
set_option linter.unusedSimpArgs false
set_option linter.unusedVariables false
set_option linter.unusedSectionVars false
open Go.RowKit Go.Sort
attribute [local irreducible] IntKind.wrap
attribute [local go_sem] Option.some.injEq Prod.mk.injEq false_and and_false Bool.true_eq_false dRun dRest dbare dMerge nones if_true Bool.true_and dgoC dgoCRest fillV okAll nextAll LOper.ok LOper.next LOp.ok LOp.next LVal.ok LVal.out LArg.ev putV binOK pick_true pick_false pick_bool V.undef Sh.size addHp dokAll dnextAll LOper.dok LOper.dres LOp.dok LOp.dout dput conOK veqL leafEq List.take_succ_cons List.take_zero List.take_nil List.drop_succ_cons List.drop_zero List.drop_nil List.set_cons_succ List.set_cons_zero List.getD_cons_succ List.getD_cons_zero List.length_cons List.length_nil List.map_cons List.map_nil List.all_cons List.all_nil List.mem_cons List.not_mem_nil List.replicate_succ List.replicate_zero List.cons_append List.nil_append List.append_nil List.isEmpty_cons List.isEmpty_nil appOwn appHp appOK Option.getD_some Option.isSome_some Option.isSome_none Nat.add_eq Nat.zero_add Nat.add_zero true_and and_true and_self true_implies implies_true false_implies forall_const forall_eq forall_eq_or_imp ne_eq not_false_eq_true not_true_eq_false Bool.not_true Bool.not_false decide_true decide_false Bool.and_true Bool.true_and Bool.and_false Bool.false_and true_or or_true false_or or_false eq_self Bool.false_eq_true nxNe nxNe' tupOf mkFrom bval ogive cutOwn cutE_nil cutE_full cutE_tok cutE_free_nil cutE_free_cons selems Int.toNat_natCast Int.toNat_zero List.take_length Hp.set_app Hp.del_app goOps goRest LOper.plain LOp.isCall LOper.dplain LOp.isStop lops_nil gRun gRest bare gMerge V.gd_true V.gd_false pick_gd pick_gdn pick_and pick_or partOK_self loadPart_self storePart_self dgoOps dgoRest beq_true beq_false partOK_ll partOK_al partOK_aa loadPart_l loadPart_a storePart_la storePart_aa fits_leaf fits_agg leafy_bool leafy_int leafy_str leafy_nilPtr leafy_ptr leafy_ept leafy_sl leafy_rs leafy_nilMap leafy_map leafy_nilChan leafy_chan leafy_fn leafy_nilFn leafy_yld leafy_iface leafy_nilIface veq_aa veq_li veq_lb veq_ls cells_agg cells_leaf cell_agg cell_leaf veq_ptr1 veq_ptr2 veq_ptr3 veq_ptr4 veq_ptr5 veq_slice1 veq_slice2 veq_func1 veq_func2 veq_func3 veq_iface1 veq_iface2 veq_iface3 veq_map1 veq_map2 veq_map3 veq_chan1 veq_chan2 veq_chan3 conAt_add conAt_zero untaken wrHp Hp.turn delHp Option.isNone_some Option.isNone_none nxFq goOps2 goRest2 LOper.plain2 LOp.isApp ltNe ltNe1 ltNe' ltNe1' delO_nil delO_tok

theorem least_not (o : Own) {P : Int} {ws : List Wy} (hr : rightM P ws = false) (hl : ws.length ≤ 1000) (a b : Int) (h : Hp) :
    Pure Try.prog 16 [mps o P ws, .int .i64 a, .int .i64 b] h (.sl (.agg 2) .nil []) := by
  have hmf : (mps o P ws).fits (.agg 2) = true := by simp [mps, V.fits, V.leafy, wys]
  refine pure_of (fun L => by simp [V.names, namesL]) fun h' nx hh => acalls_walk L.path_Least_low fun hd => ?_
  simp only [List.length_cons, List.length_nil, Nat.reduceAdd, Nat.reduceSub, List.replicate_succ, List.replicate_zero, List.cons_append, List.nil_append, V.undef]
  (repeat' (first | (with_reducible first | refine lwp_seq ?_ | refine lwp_ops ?_ | refine seqQ_normal ?_ | refine lops_done ?_ | refine blockQ_normal ?_ | refine lwp_block ?_ | refine lwp_skip ?_ | refine lwp_ret ?_ | refine seqQ_ret ?_ | refine blockQ_ret ?_ | refine roundM_ret ?_ | refine lwp_exit ?_ | refine seqQ_exit ?_ | refine roundM_exit ?_ | refine blockQ_exit ?_ | refine blockQ_other (by decide) ?_) | (with_reducible refine lops_id ?_; (first | refine lops_go2 rfl (by simp only [hmf, hr, decide_true, decide_false, go_sem, reduceIte, Nat.reduceAdd, Nat.reduceSub, Nat.reduceLT, Nat.reduceLeDiff, reduceCtorEq, Nat.reduceEqDiff, Int.reduceToNat]; try omega) ?_ | refine lops_pure (rightMap_pure o P ws hl _) rfl (has_refl _) ?_ | ((first | refine lops_guardT rfl ?_ | refine lops_guardF rfl ?_); with_reducible first | refine condG_t ?_ | refine condG_f ?_ | refine condG_s (fun _ => ?_) (fun _ => ?_)) | refine lops_guard_no rfl ?_) <;> try simp only [hmf, hr, decide_true, decide_false, go_sem, reduceIte, Nat.reduceAdd, Nat.reduceSub, Nat.reduceLT, Nat.reduceLeDiff, reduceCtorEq, Nat.reduceEqDiff, Int.reduceToNat]) | (with_reducible refine cond_id ?_; refine lwp_condB rfl ?_; with_reducible first | refine condG_t ?_ | refine condG_f ?_ | refine condG_s (fun _ => ?_) (fun _ => ?_)) | (with_reducible refine draw_id ?_; refine lwp_draw rfl ?_) | (with_reducible refine dops_id ?_; (first | refine dops_go1 rfl (by simp only [hmf, hr, decide_true, decide_false, go_sem, reduceIte, Nat.reduceAdd, Nat.reduceSub, Nat.reduceLT, Nat.reduceLeDiff, reduceCtorEq, Nat.reduceEqDiff, Int.reduceToNat]; try omega) ?_  | ((first | refine dops_guardT rfl ?_ | refine dops_guardF rfl ?_); with_reducible first | refine condG_t ?_ | refine condG_f ?_ | refine condG_s (fun _ => ?_) (fun _ => ?_)) | refine dops_guard_no rfl ?_ | refine dops_nil (drawQ_nil ?_) | refine dops_nil (drawQ_tl ?_)) <;> try simp only [hmf, hr, decide_true, decide_false, go_sem, reduceIte, Nat.reduceAdd, Nat.reduceSub, Nat.reduceLT, Nat.reduceLeDiff, reduceCtorEq, Nat.reduceEqDiff, Int.reduceToNat])))
  refine ret_slot h' (by repeat (first | exact Hp.le_refl _ | refine le_of_fresh hd ?_ (by omega) _ | refine le_of_freshd hd ?_ (by omega))) ⟨?_, rfl⟩
  simp only [go_sem, reduceIte, Nat.reduceAdd, Nat.reduceSub, Nat.reduceLT, Nat.reduceLeDiff, reduceCtorEq, Nat.reduceEqDiff, Int.reduceToNat]
/-- What Least answers, whatever the map. -/
noncomputable def leastM (P : Int) (ws : List Wy) (a b : Int) : List Pa := if rightM P ws = true ∧ 0 ≤ a ∧ a < P ∧ 0 ≤ b ∧ b < P then leastL (ws.map Wy.we) a.toNat b.toNat else []
theorem we_wy (l : List We) : (l.map We.wy).map Wy.we = l := by
  rw [List.map_map]
  have : l.map (Wy.we ∘ We.wy) = l.map id := List.map_congr_left fun w _ => by obtain ⟨f, t, p⟩ := w; simp [We.wy, Wy.we]
  rw [this, List.map_id]
theorem pleast_pure (o : Own) (P : Int) (ws : List Wy) (hl : ws.length ≤ 1000) (a b : Int) (h : Hp) :
    Pure Try.prog 16 [mps o P ws, .int .i64 a, .int .i64 b] h (lst (.agg 2) ((leastM P ws a b).map Pa.v)) := by
  unfold leastM
  cases hr : rightM P ws with
  | false =>
    rw [if_neg (by simp)]
    exact least_not o hr hl a b h
  | true =>
    obtain ⟨n, l, R⟩ := (rightM_iff P ws).1 hr
    have := least_pure o R hl a b h
    have e1 : ws.map Wy.we = l := by rw [R.eq, we_wy]
    have e2 := R.pl
    rw [e1, e2]
    rw [e2] at this
    by_cases hc : 0 ≤ a ∧ a < (n : Int) ∧ 0 ≤ b ∧ b < (n : Int)
    · rw [if_pos hc] at this
      rw [if_pos ⟨rfl, hc⟩]
      exact this
    · rw [if_neg hc] at this
      rw [if_neg (fun h => hc h.2)]
      exact this
theorem leastM_can (P : Int) (ws : List Wy) (a b : Int) : Can (leastM P ws a b) := by
  unfold leastM
  split
  · exact (leastL_spec _ _ _).can
  · exact List.Pairwise.nil
theorem leastM_more {P : Int} {ws : List Wy} {w : Wy} {a b : Int} {p : Pa} (h0 : (newOf P (ws ++ [w])).2 = 0) (hp : p ∈ leastM P ws a b) : domi (leastM P (canonW (ws ++ [w])) a b) p := by
  unfold leastM at *
  split at hp
  · rename_i h1
    have hr : rightM P (canonW (ws ++ [w])) = true := (rightM_iff _ _).2 (newOf_right h0)
    rw [if_pos ⟨hr, h1.2⟩]
    refine more_ways (fun v hv => ?_) hp
    obtain ⟨u, hu, rfl⟩ := List.mem_map.1 hv
    exact List.mem_map.2 ⟨u, (canonW_mem _ _).2 (by simp [hu]), rfl⟩
  · cases hp

theorem alive22_pure (h : Hp) : Pure Try.prog 7 [] h (.bool true) := by
  refine pure_of (fun L => trivial) fun h' nx hh => acalls_walk L.corollarylaw22_alive_low fun hd => ?_
  simp only [List.length_cons, List.length_nil, Nat.reduceAdd, Nat.reduceSub, List.replicate_succ, List.replicate_zero, List.cons_append, List.nil_append, V.undef]
  have hnew : ∀ o h, Pure Try.prog 9 [.int .i64 2, .sl (.agg 4) o [.agg [.int .i64 0, .int .i64 1, .bool false, .int .i64 0], .agg [.int .i64 1, .int .i64 0, .bool false, .int .i64 1]]] h (.tup [.agg [.int .i64 2, .sl (.agg 4) .free (aliveL.map Wy.v)], .nilIface]) := fun o h => by
    have := new_pure o 2 aliveL (by decide) h
    rw [alive_new] at this
    exact this
  have hleast : ∀ h, Pure Try.prog 16 [mps .free 2 aliveL, .int .i64 0, .int .i64 0] h (.sl (.agg 2) .free [.agg [.bool false, .int .i64 0]]) := fun h => by
    have := least_pure .free alive_right (by decide) 0 0 h
    rw [if_pos (by decide)] at this
    have e : leastL aliveW (0 : Int).toNat (0 : Int).toNat = [Pa.nought] := alive_least
    rw [e] at this
    exact this
  have q2 : (((2 : Nat) : Int) == (2 : Int)) = true := by decide
  have q1 : (((1 : Nat) : Int) == (1 : Int)) = true := by decide
  have q0 : ((0 : Int) == (0 : Int)) = true := by decide
  (repeat' (first | (with_reducible first | refine lwp_seq ?_ | refine lwp_ops ?_ | refine seqQ_normal ?_ | refine lops_done ?_ | refine blockQ_normal ?_ | refine lwp_block ?_ | refine lwp_skip ?_ | refine lwp_ret ?_ | refine seqQ_ret ?_ | refine blockQ_ret ?_ | refine roundM_ret ?_ | refine lwp_exit ?_ | refine seqQ_exit ?_ | refine roundM_exit ?_ | refine blockQ_exit ?_ | refine blockQ_other (by decide) ?_) | (with_reducible refine lops_id ?_; (first | refine lops_go2 rfl (by simp only [aliveL, Wy.v, q0, q1, q2, go_sem, reduceIte, Nat.reduceAdd, Nat.reduceSub, Nat.reduceLT, Nat.reduceLeDiff, reduceCtorEq, Nat.reduceEqDiff, Int.reduceToNat]; try omega) ?_ | refine lops_pure (hnew _ _) rfl (has_refl _) ?_ | refine lops_pure (hleast _) rfl (has_refl _) ?_ | ((first | refine lops_guardT rfl ?_ | refine lops_guardF rfl ?_); with_reducible first | refine condG_t ?_ | refine condG_f ?_ | refine condG_s (fun _ => ?_) (fun _ => ?_)) | refine lops_guard_no rfl ?_) <;> try simp only [aliveL, Wy.v, q0, q1, q2, go_sem, reduceIte, Nat.reduceAdd, Nat.reduceSub, Nat.reduceLT, Nat.reduceLeDiff, reduceCtorEq, Nat.reduceEqDiff, Int.reduceToNat]) | (with_reducible refine cond_id ?_; refine lwp_condB rfl ?_; with_reducible first | refine condG_t ?_ | refine condG_f ?_ | refine condG_s (fun _ => ?_) (fun _ => ?_)) | (with_reducible refine draw_id ?_; refine lwp_draw rfl ?_) | (with_reducible refine dops_id ?_; (first | refine dops_go1 rfl (by simp only [aliveL, Wy.v, q0, q1, q2, go_sem, reduceIte, Nat.reduceAdd, Nat.reduceSub, Nat.reduceLT, Nat.reduceLeDiff, reduceCtorEq, Nat.reduceEqDiff, Int.reduceToNat]; try omega) ?_  | ((first | refine dops_guardT rfl ?_ | refine dops_guardF rfl ?_); with_reducible first | refine condG_t ?_ | refine condG_f ?_ | refine condG_s (fun _ => ?_) (fun _ => ?_)) | refine dops_guard_no rfl ?_ | refine dops_nil (drawQ_nil ?_) | refine dops_nil (drawQ_tl ?_)) <;> try simp only [aliveL, Wy.v, q0, q1, q2, go_sem, reduceIte, Nat.reduceAdd, Nat.reduceSub, Nat.reduceLT, Nat.reduceLeDiff, reduceCtorEq, Nat.reduceEqDiff, Int.reduceToNat])))
  refine ret_slot h' (by repeat (first | exact Hp.le_refl _ | refine le_of_fresh hd ?_ (by omega) _ | refine le_of_freshd hd ?_ (by omega))) ⟨?_, rfl⟩
  simp only [go_sem, reduceIte, Nat.reduceAdd, Nat.reduceSub, Nat.reduceLT, Nat.reduceLeDiff, reduceCtorEq, Nat.reduceEqDiff, Int.reduceToNat]

def largeM (P : Int) (ws : List Wy) : Bool := (decide (14 < P) && decide (P ≤ 200)) || decide (40 < (ws.length : Int))
theorem large_pure (o : Own) (P : Int) (ws : List Wy) (h : Hp) : Pure Try.prog 8 [mps o P ws] h (.bool (largeM P ws)) := by
  have hmf : (mps o P ws).fits (.agg 2) = true := by simp [mps, V.fits, V.leafy, wys]
  refine pure_of (fun L => trivial) fun h' nx hh => acalls_walk L.corollarylaw22_Large_low fun hd => ?_
  simp only [List.length_cons, List.length_nil, Nat.reduceAdd, Nat.reduceSub, List.replicate_succ, List.replicate_zero, List.cons_append, List.nil_append, V.undef]
  unfold largeM
  cases h1 : decide (14 < P) <;> cases h2 : decide (P ≤ 200)
  all_goals ((repeat' (first | (with_reducible first | refine lwp_seq ?_ | refine lwp_ops ?_ | refine seqQ_normal ?_ | refine lops_done ?_ | refine blockQ_normal ?_ | refine lwp_block ?_ | refine lwp_skip ?_ | refine lwp_ret ?_ | refine seqQ_ret ?_ | refine blockQ_ret ?_ | refine roundM_ret ?_ | refine lwp_exit ?_ | refine seqQ_exit ?_ | refine roundM_exit ?_ | refine blockQ_exit ?_ | refine blockQ_other (by decide) ?_) | (with_reducible refine lops_id ?_; (first | refine lops_go2 rfl (by simp only [hmf, h1, h2, List.length_map, go_sem, reduceIte, Nat.reduceAdd, Nat.reduceSub, Nat.reduceLT, Nat.reduceLeDiff, reduceCtorEq, Nat.reduceEqDiff, Int.reduceToNat]; try omega) ?_  | ((first | refine lops_guardT rfl ?_ | refine lops_guardF rfl ?_); with_reducible first | refine condG_t ?_ | refine condG_f ?_ | refine condG_s (fun _ => ?_) (fun _ => ?_)) | refine lops_guard_no rfl ?_) <;> try simp only [hmf, h1, h2, List.length_map, go_sem, reduceIte, Nat.reduceAdd, Nat.reduceSub, Nat.reduceLT, Nat.reduceLeDiff, reduceCtorEq, Nat.reduceEqDiff, Int.reduceToNat]) | (with_reducible refine cond_id ?_; refine lwp_condB rfl ?_; with_reducible first | refine condG_t ?_ | refine condG_f ?_ | refine condG_s (fun _ => ?_) (fun _ => ?_)) | (with_reducible refine draw_id ?_; refine lwp_draw rfl ?_) | (with_reducible refine dops_id ?_; (first | refine dops_go1 rfl (by simp only [hmf, h1, h2, List.length_map, go_sem, reduceIte, Nat.reduceAdd, Nat.reduceSub, Nat.reduceLT, Nat.reduceLeDiff, reduceCtorEq, Nat.reduceEqDiff, Int.reduceToNat]; try omega) ?_  | ((first | refine dops_guardT rfl ?_ | refine dops_guardF rfl ?_); with_reducible first | refine condG_t ?_ | refine condG_f ?_ | refine condG_s (fun _ => ?_) (fun _ => ?_)) | refine dops_guard_no rfl ?_ | refine dops_nil (drawQ_nil ?_) | refine dops_nil (drawQ_tl ?_)) <;> try simp only [hmf, h1, h2, List.length_map, go_sem, reduceIte, Nat.reduceAdd, Nat.reduceSub, Nat.reduceLT, Nat.reduceLeDiff, reduceCtorEq, Nat.reduceEqDiff, Int.reduceToNat]))))
  all_goals refine ret_slot h' (by repeat (first | exact Hp.le_refl _ | refine le_of_fresh hd ?_ (by omega) _ | refine le_of_freshd hd ?_ (by omega))) ⟨?_, rfl⟩
  all_goals simp only [List.length_map, Bool.false_or, Bool.true_or, go_sem, reduceIte, Nat.reduceAdd, Nat.reduceSub, Nat.reduceLT, Nat.reduceLeDiff, reduceCtorEq, Nat.reduceEqDiff, Int.reduceToNat]
theorem large_len {P : Int} {ws : List Wy} (h : largeM P ws = false) : ws.length ≤ 40 := by
  unfold largeM at h
  rw [Bool.or_eq_false_iff] at h
  have := of_decide_eq_false h.2
  omega
end Go.Proofs.Ytmpmngakheoacaa
