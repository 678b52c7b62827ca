/-
Contracts of slices.Concat and of package chain's Join. No conditions.
-/
import Derived.Test.YthcedfamidlbdaaO21
import Derived.Test.YthcedfamidlbdaaLbf
namespace Go.Proofs.Ythcedfamidlbdaa
set_option linter.unusedSimpArgs false
set_option linter.unusedVariables false
set_option linter.unusedSectionVars false
open Go.ChangeShapes Go.WideShapes Go.ChangeAt Go.RowKit
attribute [local go_sem] Option.some.injEq Prod.mk.injEq false_and and_false Bool.true_eq_false dRun dRest dbare dMerge nones if_true Bool.true_and dgoC dgoCRest fillV okAll nextAll LOper.ok LOper.next LOp.ok LOp.next LVal.ok LVal.out LArg.ev putV binOK pick_true pick_false pick_bool V.undef Sh.size addHp dokAll dnextAll LOper.dok LOper.dres LOp.dok LOp.dout dput conOK veqL leafEq List.take_succ_cons List.take_zero List.take_nil List.drop_succ_cons List.drop_zero List.drop_nil List.set_cons_succ List.set_cons_zero List.getD_cons_succ List.getD_cons_zero List.length_cons List.length_nil List.map_cons List.map_nil List.all_cons List.all_nil List.mem_cons List.not_mem_nil List.replicate_succ List.replicate_zero List.cons_append List.nil_append List.append_nil List.isEmpty_cons List.isEmpty_nil appOwn appHp appOK Option.getD_some Option.isSome_some Nat.add_eq Nat.zero_add Nat.add_zero true_and and_true and_self true_implies implies_true false_implies forall_const forall_eq forall_eq_or_imp ne_eq not_false_eq_true not_true_eq_false Bool.not_true Bool.not_false decide_true decide_false Bool.and_true Bool.true_and Bool.and_false Bool.false_and true_or or_true false_or or_false eq_self Bool.false_eq_true nxNe nxNe' tupOf mkFrom bval ogive cutOwn cutE_nil cutE_full cutE_tok cutE_free_nil cutE_free_cons selems Int.toNat_natCast Int.toNat_zero List.take_length Hp.set_app Hp.del_app goOps goRest LOper.plain LOp.isCall LOper.dplain LOp.isStop lops_nil gRun gRest bare gMerge V.gd_true V.gd_false pick_gd pick_gdn pick_and pick_or partOK_self loadPart_self storePart_self dgoOps dgoRest beq_true beq_false partOK_ll partOK_al partOK_aa loadPart_l loadPart_a storePart_la storePart_aa fits_leaf fits_agg leafy_bool leafy_int leafy_str leafy_nilPtr leafy_ptr leafy_ept leafy_sl leafy_rs leafy_nilMap leafy_map leafy_nilChan leafy_chan leafy_fn leafy_nilFn leafy_yld leafy_iface leafy_nilIface veq_aa veq_li veq_lb veq_ls cells_agg cells_leaf cell_agg cell_leaf veq_ptr1 veq_ptr2 veq_ptr3 veq_ptr4 veq_ptr5 veq_slice1 veq_slice2 veq_func1 veq_func2 veq_func3 veq_iface1 veq_iface2 veq_iface3 veq_map1 veq_map2 veq_map3 veq_chan1 veq_chan2 veq_chan3 conAt_add conAt_zero untaken wrHp Hp.turn delHp Option.isNone_some Option.isNone_none

theorem low_Concat_Tm : lowerFn Try.prog 42 = some (LB.Concat (.agg 2) 16 9 51) := by kernel_rfl
theorem low_Grow_Tm : lowerFn Try.prog 51 = some (LB.Grow (.agg 2) (.agg [.int .i64 0, .int .i64 0]) 16 9) := by kernel_rfl

theorem concat2_pure (own o1 o2 : Own) (a b : List Tm) (hl : a.length + b.length ≤ 1000000) (h : Hp) : Pure Try.prog 42 [.sl .leaf own [tms o1 a, tms o2 b]] h (lst (.agg 2) ((a ++ b).map Tm.v)) := by
  refine pure_of_loose (fun L => lst_names (fun L => namesL_map (Tm.names_v L) _) L) fun h' nx hh => ?_
  have hT : total [(o1, a.map Tm.v), (o2, b.map Tm.v)] = (a ++ b).map Tm.v := by simp [total]
  have c := concat_calls low_Concat_Tm low_Grow_Tm (by omega) own [(o1, a.map Tm.v), (o2, b.map Tm.v)] (by simp) (by rw [hT]; simp; omega) h' nx
  have c2 := ACalls.freezeA (k := .agg 2) (G := fun es => es = (a ++ b).map Tm.v) (c.mono fun v h'' _ _ hv => ⟨_, rfl, by rw [hT] at hv; exact hv⟩)
  refine ⟨c2.1, fun K cargs hlv hr hv => ((c2.mono (R' := fun v' h'' _ => v'.loose = lst (.agg 2) ((a ++ b).map Tm.v) ∧ h'.le h'') ?_).2 K cargs hlv hr hv)⟩
  rintro v h'' nx' hnx ⟨es, rfl, hf⟩
  exact ⟨hf.loose, hf.le (fun m b hm => hlv m (hr.lt m b hm))⟩

theorem join_pure (o1 o2 : Own) (a b : List Tm) (hl : a.length + b.length ≤ 1000000) (h : Hp) : Pure Try.prog 22 [tms o1 a, tms o2 b] h (lst (.agg 2) ((ofT (a ++ b)).map Tm.v)) := by
  refine pure_of (fun L => lst_names (fun L => namesL_map (Tm.names_v L) _) L) fun h' nx hh => acalls_walk L.chain_Join_low fun hd => ?_
  simp only [List.length_cons, List.length_nil, Nat.reduceAdd, Nat.reduceSub, List.replicate_succ, List.replicate_zero, List.cons_append, List.nil_append, V.undef]
  repeat (first | with_reducible refine lwp_seq ?_ | with_reducible refine lwp_block ?_ | with_reducible refine lwp_skip ?_ | with_reducible refine seqQ_normal ?_ | with_reducible refine blockQ_normal ?_ | with_reducible refine lwp_ops ?_ | (refine lops_go1 rfl (by simp only [ go_sem, reduceIte, Nat.reduceAdd, Nat.reduceSub, Nat.reduceLT, Nat.reduceLeDiff, reduceCtorEq, Nat.reduceEqDiff, Int.reduceToNat]; try omega) ?_; simp only [ go_sem, reduceIte, Nat.reduceAdd, Nat.reduceSub, Nat.reduceLT, Nat.reduceLeDiff, reduceCtorEq, Nat.reduceEqDiff, Int.reduceToNat]) | (with_reducible refine lops_done ?_))
  refine lops_pure (concat2_pure _ o1 o2 a b hl _) rfl (has_refl _) ?_
  obtain ⟨o3, ho3⟩ := lst_eq (.agg 2) ((a ++ b).map Tm.v)
  simp only [ho3, go_sem, reduceIte, Nat.reduceAdd, Nat.reduceSub, Nat.reduceLT, Nat.reduceLeDiff, reduceCtorEq, Nat.reduceEqDiff, Int.reduceToNat]
  repeat (first | with_reducible refine lwp_seq ?_ | with_reducible refine lwp_block ?_ | with_reducible refine lwp_skip ?_ | with_reducible refine seqQ_normal ?_ | with_reducible refine blockQ_normal ?_ | with_reducible refine lwp_ops ?_ | (refine lops_go1 rfl (by simp only [ go_sem, reduceIte, Nat.reduceAdd, Nat.reduceSub, Nat.reduceLT, Nat.reduceLeDiff, reduceCtorEq, Nat.reduceEqDiff, Int.reduceToNat]; try omega) ?_; simp only [ go_sem, reduceIte, Nat.reduceAdd, Nat.reduceSub, Nat.reduceLT, Nat.reduceLeDiff, reduceCtorEq, Nat.reduceEqDiff, Int.reduceToNat]) | (with_reducible refine lops_done ?_))
  refine lops_pure (chainOf_pure o3 (a ++ b) (by simp; omega) _) rfl (has_refl _) ?_
  simp only [go_sem, reduceIte, Nat.reduceAdd, Nat.reduceSub, Nat.reduceLT, Nat.reduceLeDiff, reduceCtorEq, Nat.reduceEqDiff, Int.reduceToNat]
  repeat (first | with_reducible refine lwp_seq ?_ | with_reducible refine lwp_block ?_ | with_reducible refine lwp_skip ?_ | with_reducible refine seqQ_normal ?_ | with_reducible refine blockQ_normal ?_ | with_reducible refine lwp_ops ?_ | (refine lops_go1 rfl (by simp only [ go_sem, reduceIte, Nat.reduceAdd, Nat.reduceSub, Nat.reduceLT, Nat.reduceLeDiff, reduceCtorEq, Nat.reduceEqDiff, Int.reduceToNat]; try omega) ?_; simp only [ go_sem, reduceIte, Nat.reduceAdd, Nat.reduceSub, Nat.reduceLT, Nat.reduceLeDiff, reduceCtorEq, Nat.reduceEqDiff, Int.reduceToNat]) | (with_reducible refine lops_done ?_))
  refine lwp_ret (ret_slot h' ?_ ⟨rfl, rfl⟩)
  exact (by repeat (first | exact Hp.le_refl _ | refine le_of_fresh hd ?_ (by omega) _ | refine le_of_freshd hd ?_ (by omega)))

end Go.Proofs.Ythcedfamidlbdaa
