/-
corollarylaw21.ChainOf returns true for every input, and leaves its arguments as they were. Conditions: none.
-/
import Derived.Test.YthcedfamidlbdaaN21
import Derived.Test.YthcedfamidlbdaaM21
namespace Go.Proofs.Ythcedfamidlbdaa
set_option linter.unusedSimpArgs false
set_option linter.unusedVariables false
set_option linter.unusedSectionVars false
open Go.ChangeShapes Go.WideShapes Go.ChangeAt Go.RowKit
theorem nxNf {a k : Nat} : (a = a + 1 + (k + 1)) = False := natNe (by omega)
theorem nxNf' {a k : Nat} : (a + 1 + (k + 1) = a) = False := natNe (by omega)
theorem nxFl {a j k : Nat} : a + (j + 1) + (k + 1) = a + (j + k + 2) := by omega
attribute [local go_sem] Option.some.injEq Prod.mk.injEq false_and and_false Bool.true_eq_false dRun dRest dbare dMerge nones if_true Bool.true_and dgoC dgoCRest fillV okAll nextAll LOper.ok LOper.next LOp.ok LOp.next LVal.ok LVal.out LArg.ev putV binOK pick_true pick_false pick_bool V.undef Sh.size addHp dokAll dnextAll LOper.dok LOper.dres LOp.dok LOp.dout dput conOK veqL leafEq List.take_succ_cons List.take_zero List.take_nil List.drop_succ_cons List.drop_zero List.drop_nil List.set_cons_succ List.set_cons_zero List.getD_cons_succ List.getD_cons_zero List.length_cons List.length_nil List.map_cons List.map_nil List.all_cons List.all_nil List.mem_cons List.not_mem_nil List.replicate_succ List.replicate_zero List.cons_append List.nil_append List.append_nil List.isEmpty_cons List.isEmpty_nil appOwn appHp appOK Option.getD_some Option.isSome_some Nat.add_eq Nat.zero_add Nat.add_zero true_and and_true and_self true_implies implies_true false_implies forall_const forall_eq forall_eq_or_imp ne_eq not_false_eq_true not_true_eq_false Bool.not_true Bool.not_false decide_true decide_false Bool.and_true Bool.true_and Bool.and_false Bool.false_and true_or or_true false_or or_false eq_self Bool.false_eq_true nxNe nxNe' tupOf mkFrom bval ogive cutOwn cutE_nil cutE_full cutE_tok cutE_free_nil cutE_free_cons selems Int.toNat_natCast Int.toNat_zero List.take_length Hp.set_app Hp.del_app goOps goRest LOper.plain LOp.isCall LOper.dplain LOp.isStop lops_nil gRun gRest bare gMerge V.gd_true V.gd_false pick_gd pick_gdn pick_and pick_or partOK_self loadPart_self storePart_self dgoOps dgoRest beq_true beq_false partOK_ll partOK_al partOK_aa loadPart_l loadPart_a storePart_la storePart_aa fits_leaf fits_agg leafy_bool leafy_int leafy_str leafy_nilPtr leafy_ptr leafy_ept leafy_sl leafy_rs leafy_nilMap leafy_map leafy_nilChan leafy_chan leafy_fn leafy_nilFn leafy_yld leafy_iface leafy_nilIface veq_aa veq_li veq_lb veq_ls cells_agg cells_leaf cell_agg cell_leaf veq_ptr1 veq_ptr2 veq_ptr3 veq_ptr4 veq_ptr5 veq_slice1 veq_slice2 veq_func1 veq_func2 veq_func3 veq_iface1 veq_iface2 veq_iface3 veq_map1 veq_map2 veq_map3 veq_chan1 veq_chan2 veq_chan3 conAt_add conAt_zero untaken wrHp Hp.turn delHp Option.isNone_some Option.isNone_none
attribute [local go_sem] nxNf nxNf'

theorem rsame_pure (own own' : Own) (a b : List Tm) (ha : a.length ≤ 1000000000) (h : Hp) :
    Pure Try.prog 18 [tms own a, tms own' b] h (.bool (decide (a = b))) := by
  refine pure_of (fun L => trivial) fun h' nx hh => acalls_walk L.corollaryref21_Same_low fun hd => ?_
  simp only [List.length_cons, List.length_nil, Nat.reduceAdd, Nat.reduceSub, List.replicate_succ, List.replicate_zero, List.cons_append, List.nil_append, V.undef]
  repeat (first | with_reducible refine lwp_seq ?_ | with_reducible refine lwp_block ?_ | with_reducible refine lwp_skip ?_ | with_reducible refine seqQ_normal ?_ | with_reducible refine blockQ_normal ?_ | with_reducible refine lwp_ops ?_ | (refine lops_go1 rfl (by simp only [tms, List.length_map, go_sem, reduceIte, Nat.reduceAdd, Nat.reduceSub, Nat.reduceLT, Nat.reduceLeDiff, reduceCtorEq, Nat.reduceEqDiff, Int.reduceToNat]; try omega) ?_; simp only [tms, List.length_map, go_sem, reduceIte, Nat.reduceAdd, Nat.reduceSub, Nat.reduceLT, Nat.reduceLeDiff, reduceCtorEq, Nat.reduceEqDiff, Int.reduceToNat]) | (with_reducible refine lops_done ?_))
  refine lwp_cond _ rfl (fun hc => ?_) (fun hc => ?_)
  · repeat (first | with_reducible refine lwp_seq ?_ | with_reducible refine lwp_block ?_ | with_reducible refine lwp_skip ?_ | with_reducible refine seqQ_normal ?_ | with_reducible refine blockQ_normal ?_ | with_reducible refine lwp_ops ?_ | (refine lops_go1 rfl (by simp only [ go_sem, reduceIte, Nat.reduceAdd, Nat.reduceSub, Nat.reduceLT, Nat.reduceLeDiff, reduceCtorEq, Nat.reduceEqDiff, Int.reduceToNat]; try omega) ?_; simp only [ go_sem, reduceIte, Nat.reduceAdd, Nat.reduceSub, Nat.reduceLT, Nat.reduceLeDiff, reduceCtorEq, Nat.reduceEqDiff, Int.reduceToNat]) | (with_reducible refine lops_done ?_))
    refine lwp_ret ?_
    repeat (first | with_reducible refine seqQ_ret ?_ | with_reducible refine blockQ_ret ?_ | with_reducible refine roundQ_ret ?_ | with_reducible refine roundM_ret ?_)
    refine ret_slot h' (Hp.le_refl _) ⟨?_, rfl⟩
    have : a ≠ b := by rintro rfl; simp at hc
    simp only [this, go_sem, reduceIte, Nat.reduceAdd, Nat.reduceSub, Nat.reduceLT, Nat.reduceLeDiff, reduceCtorEq, Nat.reduceEqDiff, Int.reduceToNat]
  have hab : a.length = b.length := by
    have : ((a.length : Int)) = b.length := by simpa using hc
    omega
  repeat (first | with_reducible refine lwp_seq ?_ | with_reducible refine lwp_block ?_ | with_reducible refine lwp_skip ?_ | with_reducible refine seqQ_normal ?_ | with_reducible refine blockQ_normal ?_ | with_reducible refine lwp_ops ?_ | (refine lops_go1 rfl (by simp only [ go_sem, reduceIte, Nat.reduceAdd, Nat.reduceSub, Nat.reduceLT, Nat.reduceLeDiff, reduceCtorEq, Nat.reduceEqDiff, Int.reduceToNat]; try omega) ?_; simp only [ go_sem, reduceIte, Nat.reduceAdd, Nat.reduceSub, Nat.reduceLT, Nat.reduceLeDiff, reduceCtorEq, Nat.reduceEqDiff, Int.reduceToNat]) | (with_reducible refine lops_done ?_))
  refine lwp_loopM (fun i : Nat => mkFrom 26 0 [(0, tms own a), (1, tms own' b), (5, .int .i64 i)]) (fun i h2 nx2 => i ≤ a.length ∧ a.take i = b.take i ∧ h2 = h') (fun i => a.length - i) 0 ⟨Nat.zero_le _, rfl, rfl⟩ ?_ ?_
  · simp only [WkL, mkFrom, Int.natCast_add, Int.natCast_one, Int.natCast_zero, tms, go_sem, reduceIte, Nat.reduceAdd, Nat.reduceSub, Nat.reduceLT, Nat.reduceLeDiff, reduceCtorEq, Nat.reduceEqDiff, Int.reduceToNat]
  · rintro i h2 nx2 ⟨hi, hno, rfl⟩
    generalize hQ : roundM _ _ _ _ _ = Q0
    simp only [mkFrom, go_sem, reduceIte, Nat.reduceAdd, Nat.reduceSub, Nat.reduceLT, Nat.reduceLeDiff, reduceCtorEq, Nat.reduceEqDiff, Int.reduceToNat]
    repeat (first | with_reducible refine lwp_seq ?_ | with_reducible refine lwp_block ?_ | with_reducible refine lwp_skip ?_ | with_reducible refine seqQ_normal ?_ | with_reducible refine blockQ_normal ?_ | with_reducible refine lwp_ops ?_ | (refine lops_go1 rfl (by simp only [tms, List.length_map, go_sem, reduceIte, Nat.reduceAdd, Nat.reduceSub, Nat.reduceLT, Nat.reduceLeDiff, reduceCtorEq, Nat.reduceEqDiff, Int.reduceToNat]; try omega) ?_; simp only [tms, List.length_map, go_sem, reduceIte, Nat.reduceAdd, Nat.reduceSub, Nat.reduceLT, Nat.reduceLeDiff, reduceCtorEq, Nat.reduceEqDiff, Int.reduceToNat]) | (with_reducible refine lops_done ?_))
    refine lwp_cond _ rfl (fun hc => ?_) (fun hc => ?_)
    · have hlt : i < a.length := by simpa using hc
      have hlt' : i < b.length := by omega
      have hg := getD_map' Tm.v a i hlt
      have hg' := getD_map' Tm.v b i hlt'
      repeat (first | with_reducible refine lwp_seq ?_ | with_reducible refine lwp_block ?_ | with_reducible refine lwp_skip ?_ | with_reducible refine seqQ_normal ?_ | with_reducible refine blockQ_normal ?_ | with_reducible refine lwp_ops ?_ | (refine lops_go1 rfl (by simp only [ go_sem, reduceIte, Nat.reduceAdd, Nat.reduceSub, Nat.reduceLT, Nat.reduceLeDiff, reduceCtorEq, Nat.reduceEqDiff, Int.reduceToNat]; try omega) ?_; simp only [ go_sem, reduceIte, Nat.reduceAdd, Nat.reduceSub, Nat.reduceLT, Nat.reduceLeDiff, reduceCtorEq, Nat.reduceEqDiff, Int.reduceToNat]) | (with_reducible refine lops_done ?_))
      refine lwp_draw rfl ?_
      refine dops_go1 rfl (by simp only [tms, hg, hg', veq_tm, Tm.fits_v, Int.toNat_natCast, List.length_map, go_sem, reduceIte, Nat.reduceAdd, Nat.reduceSub, Nat.reduceLT, Nat.reduceLeDiff, reduceCtorEq, Nat.reduceEqDiff, Int.reduceToNat]; try omega) ?_
      simp only [tms, hg, hg', veq_tm, Tm.fits_v, Int.toNat_natCast, List.length_map, go_sem, reduceIte, Nat.reduceAdd, Nat.reduceSub, Nat.reduceLT, Nat.reduceLeDiff, reduceCtorEq, Nat.reduceEqDiff, Int.reduceToNat]
      refine dops_nil (drawQ_nil ?_)
      simp only [go_sem, reduceIte, Nat.reduceAdd, Nat.reduceSub, Nat.reduceLT, Nat.reduceLeDiff, reduceCtorEq, Nat.reduceEqDiff, Int.reduceToNat]
      refine seqQ_normal ?_
      rw [← hQ]
      refine lwp_cond _ rfl (fun hc => ?_) (fun hc => ?_)
      · repeat (first | with_reducible refine lwp_seq ?_ | with_reducible refine lwp_block ?_ | with_reducible refine lwp_skip ?_ | with_reducible refine seqQ_normal ?_ | with_reducible refine blockQ_normal ?_ | with_reducible refine lwp_ops ?_ | (refine lops_go1 rfl (by simp only [ go_sem, reduceIte, Nat.reduceAdd, Nat.reduceSub, Nat.reduceLT, Nat.reduceLeDiff, reduceCtorEq, Nat.reduceEqDiff, Int.reduceToNat]; try omega) ?_; simp only [ go_sem, reduceIte, Nat.reduceAdd, Nat.reduceSub, Nat.reduceLT, Nat.reduceLeDiff, reduceCtorEq, Nat.reduceEqDiff, Int.reduceToNat]) | (with_reducible refine lops_done ?_))
        refine lwp_ret ?_
        repeat (first | with_reducible refine seqQ_ret ?_ | with_reducible refine blockQ_ret ?_ | with_reducible refine roundQ_ret ?_ | with_reducible refine roundM_ret ?_)
        refine ret_slot h2 (Hp.le_refl _) ⟨?_, rfl⟩
        have hne : a[i] ≠ b[i] := by simpa using hc
        have : a ≠ b := by rintro rfl; exact hne rfl
        simp only [this, go_sem, reduceIte, Nat.reduceAdd, Nat.reduceSub, Nat.reduceLT, Nat.reduceLeDiff, reduceCtorEq, Nat.reduceEqDiff, Int.reduceToNat]
      · repeat (first | with_reducible refine lwp_seq ?_ | with_reducible refine lwp_block ?_ | with_reducible refine lwp_skip ?_ | with_reducible refine seqQ_normal ?_ | with_reducible refine blockQ_normal ?_ | with_reducible refine lwp_ops ?_ | (refine lops_go1 rfl (by simp only [ go_sem, reduceIte, Nat.reduceAdd, Nat.reduceSub, Nat.reduceLT, Nat.reduceLeDiff, reduceCtorEq, Nat.reduceEqDiff, Int.reduceToNat]; try omega) ?_; simp only [ go_sem, reduceIte, Nat.reduceAdd, Nat.reduceSub, Nat.reduceLT, Nat.reduceLeDiff, reduceCtorEq, Nat.reduceEqDiff, Int.reduceToNat]) | (with_reducible refine lops_done ?_))
        have he : a[i] = b[i] := by simpa using hc
        rw [wrap_in (by omega) (by omega)]
        refine roundM_normal (i + 1) (by omega) ⟨by omega, ?_, rfl⟩ ?_
        · rw [List.take_succ_eq_append_getElem hlt, List.take_succ_eq_append_getElem hlt', hno, he]
        · simp only [WkL, mkFrom, Int.natCast_add, Int.natCast_one, Int.natCast_zero, tms, go_sem, reduceIte, Nat.reduceAdd, Nat.reduceSub, Nat.reduceLT, Nat.reduceLeDiff, reduceCtorEq, Nat.reduceEqDiff, Int.reduceToNat]
    · have hge : i = a.length := by have : ¬ i < a.length := by simpa using hc
                                    omega
      rw [← hQ]
      refine lwp_exit ?_
      repeat (first | with_reducible refine seqQ_exit ?_ | with_reducible refine roundQ_exit ?_ | with_reducible refine roundM_exit ?_ | with_reducible refine blockQ_other (by decide) ?_ | with_reducible refine blockQ_exit ?_ | with_reducible refine seqQ_normal ?_)
      repeat (first | with_reducible refine lwp_seq ?_ | with_reducible refine lwp_block ?_ | with_reducible refine lwp_skip ?_ | with_reducible refine seqQ_normal ?_ | with_reducible refine blockQ_normal ?_ | with_reducible refine lwp_ops ?_ | (refine lops_go1 rfl (by simp only [ go_sem, reduceIte, Nat.reduceAdd, Nat.reduceSub, Nat.reduceLT, Nat.reduceLeDiff, reduceCtorEq, Nat.reduceEqDiff, Int.reduceToNat]; try omega) ?_; simp only [ go_sem, reduceIte, Nat.reduceAdd, Nat.reduceSub, Nat.reduceLT, Nat.reduceLeDiff, reduceCtorEq, Nat.reduceEqDiff, Int.reduceToNat]) | (with_reducible refine lops_done ?_))
      refine lwp_ret (ret_slot h2 (Hp.le_refl _) ⟨?_, rfl⟩)
      have : a = b := by
        rw [hge, List.take_length] at hno
        rw [hno, hab, List.take_length]
      simp only [this, go_sem, reduceIte, Nat.reduceAdd, Nat.reduceSub, Nat.reduceLT, Nat.reduceLeDiff, reduceCtorEq, Nat.reduceEqDiff, Int.reduceToNat]

theorem is_pure (own own' : Own) (a b : List Tm) (ha : a.length ≤ 1000000) (h : Hp) : Pure Try.prog 15 [tms own a, tms own' b] h (.bool (decide (a = b))) := by
  refine pure_of (fun L => trivial) fun h' nx hh => acalls_walk L.corollarylaw21_Is_low fun hd => ?_
  simp only [List.length_cons, List.length_nil, Nat.reduceAdd, Nat.reduceSub, List.replicate_succ, List.replicate_zero, List.cons_append, List.nil_append, V.undef]
  repeat (first | with_reducible refine lwp_seq ?_ | with_reducible refine lwp_block ?_ | with_reducible refine lwp_skip ?_ | with_reducible refine seqQ_normal ?_ | with_reducible refine blockQ_normal ?_ | with_reducible refine lwp_ops ?_ | (refine lops_go1 rfl (by simp only [ go_sem, reduceIte, Nat.reduceAdd, Nat.reduceSub, Nat.reduceLT, Nat.reduceLeDiff, reduceCtorEq, Nat.reduceEqDiff, Int.reduceToNat]; try omega) ?_; simp only [ go_sem, reduceIte, Nat.reduceAdd, Nat.reduceSub, Nat.reduceLT, Nat.reduceLeDiff, reduceCtorEq, Nat.reduceEqDiff, Int.reduceToNat]) | (with_reducible refine lops_done ?_))
  refine lops_pure (document_pure own a _ ha) rfl (has_refl _) ?_
  obtain ⟨o2, ho2⟩ := lst_eq (.agg 2) (a.map Tm.v)
  rw [ho2]
  simp only [go_sem, reduceIte, Nat.reduceAdd, Nat.reduceSub, Nat.reduceLT, Nat.reduceLeDiff, reduceCtorEq, Nat.reduceEqDiff, Int.reduceToNat]
  repeat (first | with_reducible refine lwp_seq ?_ | with_reducible refine lwp_block ?_ | with_reducible refine lwp_skip ?_ | with_reducible refine seqQ_normal ?_ | with_reducible refine blockQ_normal ?_ | with_reducible refine lwp_ops ?_ | (refine lops_go1 rfl (by simp only [ go_sem, reduceIte, Nat.reduceAdd, Nat.reduceSub, Nat.reduceLT, Nat.reduceLeDiff, reduceCtorEq, Nat.reduceEqDiff, Int.reduceToNat]; try omega) ?_; simp only [ go_sem, reduceIte, Nat.reduceAdd, Nat.reduceSub, Nat.reduceLT, Nat.reduceLeDiff, reduceCtorEq, Nat.reduceEqDiff, Int.reduceToNat]) | (with_reducible refine lops_done ?_))
  refine lops_pure (rsame_pure o2 own' a b (by omega) _) rfl (has_refl _) ?_
  simp only [go_sem, reduceIte, Nat.reduceAdd, Nat.reduceSub, Nat.reduceLT, Nat.reduceLeDiff, reduceCtorEq, Nat.reduceEqDiff, Int.reduceToNat]
  repeat (first | with_reducible refine lwp_seq ?_ | with_reducible refine lwp_block ?_ | with_reducible refine lwp_skip ?_ | with_reducible refine seqQ_normal ?_ | with_reducible refine blockQ_normal ?_ | with_reducible refine lwp_ops ?_ | (refine lops_go1 rfl (by simp only [ go_sem, reduceIte, Nat.reduceAdd, Nat.reduceSub, Nat.reduceLT, Nat.reduceLeDiff, reduceCtorEq, Nat.reduceEqDiff, Int.reduceToNat]; try omega) ?_; simp only [ go_sem, reduceIte, Nat.reduceAdd, Nat.reduceSub, Nat.reduceLT, Nat.reduceLeDiff, reduceCtorEq, Nat.reduceEqDiff, Int.reduceToNat]) | (with_reducible refine lops_done ?_))
  exact lwp_ret (ret_slot h' (Hp.le_refl _) ⟨rfl, rfl⟩)

theorem cright_pure (own : Own) (a : List Tm) (ha : a.length ≤ 1000000) (h : Hp) : Pure Try.prog 17 [tms own a] h (.bool (decide (a = ofT a))) := by
  refine pure_of (fun L => trivial) fun h' nx hh => acalls_walk L.chain_Right_low fun hd => ?_
  simp only [List.length_cons, List.length_nil, Nat.reduceAdd, Nat.reduceSub, List.replicate_succ, List.replicate_zero, List.cons_append, List.nil_append, V.undef]
  repeat (first | with_reducible refine lwp_seq ?_ | with_reducible refine lwp_block ?_ | with_reducible refine lwp_skip ?_ | with_reducible refine seqQ_normal ?_ | with_reducible refine blockQ_normal ?_ | with_reducible refine lwp_ops ?_ | (refine lops_go1 rfl (by simp only [ go_sem, reduceIte, Nat.reduceAdd, Nat.reduceSub, Nat.reduceLT, Nat.reduceLeDiff, reduceCtorEq, Nat.reduceEqDiff, Int.reduceToNat]; try omega) ?_; simp only [ go_sem, reduceIte, Nat.reduceAdd, Nat.reduceSub, Nat.reduceLT, Nat.reduceLeDiff, reduceCtorEq, Nat.reduceEqDiff, Int.reduceToNat]) | (with_reducible refine lops_done ?_))
  refine lops_pure (chainOf_pure own a ha _) rfl (has_refl _) ?_
  obtain ⟨o2, ho2⟩ := lst_eq (.agg 2) ((ofT a).map Tm.v)
  rw [ho2]
  simp only [go_sem, reduceIte, Nat.reduceAdd, Nat.reduceSub, Nat.reduceLT, Nat.reduceLeDiff, reduceCtorEq, Nat.reduceEqDiff, Int.reduceToNat]
  repeat (first | with_reducible refine lwp_seq ?_ | with_reducible refine lwp_block ?_ | with_reducible refine lwp_skip ?_ | with_reducible refine seqQ_normal ?_ | with_reducible refine blockQ_normal ?_ | with_reducible refine lwp_ops ?_ | (refine lops_go1 rfl (by simp only [ go_sem, reduceIte, Nat.reduceAdd, Nat.reduceSub, Nat.reduceLT, Nat.reduceLeDiff, reduceCtorEq, Nat.reduceEqDiff, Int.reduceToNat]; try omega) ?_; simp only [ go_sem, reduceIte, Nat.reduceAdd, Nat.reduceSub, Nat.reduceLT, Nat.reduceLeDiff, reduceCtorEq, Nat.reduceEqDiff, Int.reduceToNat]) | (with_reducible refine lops_done ?_))
  refine lops_pure (equal_lib Tm.v Tm.fits_v low_Equal_Tm veq_tm own o2 a (ofT a) (by omega) _) rfl (has_refl _) ?_
  simp only [go_sem, reduceIte, Nat.reduceAdd, Nat.reduceSub, Nat.reduceLT, Nat.reduceLeDiff, reduceCtorEq, Nat.reduceEqDiff, Int.reduceToNat]
  repeat (first | with_reducible refine lwp_seq ?_ | with_reducible refine lwp_block ?_ | with_reducible refine lwp_skip ?_ | with_reducible refine seqQ_normal ?_ | with_reducible refine blockQ_normal ?_ | with_reducible refine lwp_ops ?_ | (refine lops_go1 rfl (by simp only [ go_sem, reduceIte, Nat.reduceAdd, Nat.reduceSub, Nat.reduceLT, Nat.reduceLeDiff, reduceCtorEq, Nat.reduceEqDiff, Int.reduceToNat]; try omega) ?_; simp only [ go_sem, reduceIte, Nat.reduceAdd, Nat.reduceSub, Nat.reduceLT, Nat.reduceLeDiff, reduceCtorEq, Nat.reduceEqDiff, Int.reduceToNat]) | (with_reducible refine lops_done ?_))
  exact lwp_ret (ret_slot h' (Hp.le_refl _) ⟨rfl, rfl⟩)

theorem fresh_clone_tms (own : Own) (l : List Tm) (hn : own ≠ .nil) (ha : l.length ≤ 1000000) (h : Hp) : Fresh Try.prog 39 [tms own l] h (.agg 2) (l.map Tm.v) :=
  fresh_of (fun L => namesL_map (Tm.names_v L) _) fun h' nx _ => (clone_calls low_Clone_Tm (by omega) own (l.map Tm.v) (by simp; omega) (fun e => absurd e hn) h' nx).mono fun v h'' nx' _ hv => by
    rcases hv with ⟨e, _⟩ | ⟨_, id, hid, rfl, rfl⟩
    · exact absurd e hn
    · exact ⟨id, hid, rfl, rfl⟩

theorem put_pure (own : Own) (l : List Tm) (t : Tm) (hown : own = .nil → l = []) (ha : l.length ≤ 1000) (h : Hp) : Pure Try.prog 19 [tms own l, t.v] h (lst (.agg 2) ((ofT (l ++ [t])).map Tm.v)) := by
  refine pure_of (fun L => lst_names (fun L => namesL_map (Tm.names_v L) _) L) fun h' nx hh => acalls_walk L.chain_Put_low fun hd => ?_
  simp only [List.length_cons, List.length_nil, Nat.reduceAdd, Nat.reduceSub, List.replicate_succ, List.replicate_zero, List.cons_append, List.nil_append, V.undef]
  repeat (first | with_reducible refine lwp_seq ?_ | with_reducible refine lwp_block ?_ | with_reducible refine lwp_skip ?_ | with_reducible refine seqQ_normal ?_ | with_reducible refine blockQ_normal ?_ | with_reducible refine lwp_ops ?_ | (refine lops_go1 rfl (by simp only [Tm.fits_v, go_sem, reduceIte, Nat.reduceAdd, Nat.reduceSub, Nat.reduceLT, Nat.reduceLeDiff, reduceCtorEq, Nat.reduceEqDiff, Int.reduceToNat]; try omega) ?_; simp only [Tm.fits_v, go_sem, reduceIte, Nat.reduceAdd, Nat.reduceSub, Nat.reduceLT, Nat.reduceLeDiff, reduceCtorEq, Nat.reduceEqDiff, Int.reduceToNat]) | (with_reducible refine lops_done ?_))
  refine lwp_draw rfl ?_
  refine dops_go1 rfl (by simp only [Tm.fits_v, go_sem, reduceIte, Nat.reduceAdd, Nat.reduceSub, Nat.reduceLT, Nat.reduceLeDiff, reduceCtorEq, Nat.reduceEqDiff, Int.reduceToNat]; try omega) ?_
  simp only [Tm.fits_v, go_sem, reduceIte, Nat.reduceAdd, Nat.reduceSub, Nat.reduceLT, Nat.reduceLeDiff, reduceCtorEq, Nat.reduceEqDiff, Int.reduceToNat]
  by_cases ho : own = .nil
  · subst ho
    have hl := hown rfl
    subst hl
    refine dops_pure (clone_pure low_Clone_Tm (by omega) .nil [] (by simp) (fun _ => rfl) (fun L => trivial) Hp.none) rfl (none_has _) ?_
    refine dops_go1 rfl (by simp only [Tm.fits_v, V.loose, go_sem, reduceIte, Nat.reduceAdd, Nat.reduceSub, Nat.reduceLT, Nat.reduceLeDiff, reduceCtorEq, Nat.reduceEqDiff, Int.reduceToNat]; try omega) ?_
    simp only [Tm.fits_v, V.loose, go_sem, reduceIte, Nat.reduceAdd, Nat.reduceSub, Nat.reduceLT, Nat.reduceLeDiff, reduceCtorEq, Nat.reduceEqDiff, Int.reduceToNat]
    refine dops_pure (chainOf_pure (.tok (nx + 1 + 4)) [t] (by simp) Hp.none) rfl (none_has _) ?_
    refine dops_go1 rfl (by simp only [Tm.fits_v, go_sem, reduceIte, Nat.reduceAdd, Nat.reduceSub, Nat.reduceLT, Nat.reduceLeDiff, reduceCtorEq, Nat.reduceEqDiff, Int.reduceToNat]; try omega) ?_
    simp only [Tm.fits_v, go_sem, reduceIte, Nat.reduceAdd, Nat.reduceSub, Nat.reduceLT, Nat.reduceLeDiff, reduceCtorEq, Nat.reduceEqDiff, Int.reduceToNat]
    refine dops_nil (drawQ_nil ?_)
    simp only [go_sem, reduceIte, Nat.reduceAdd, Nat.reduceSub, Nat.reduceLT, Nat.reduceLeDiff, reduceCtorEq, Nat.reduceEqDiff, Int.reduceToNat]
    refine seqQ_normal (lwp_ret (ret_slot h' ?_ ⟨rfl, rfl⟩))
    exact (by repeat (first | exact Hp.le_refl _ | refine le_of_fresh hd ?_ (by omega) _ | refine le_of_freshd hd ?_ (by omega)))
  · refine dops_fresh (fresh_clone_tms own l ho (by omega) Hp.none) rfl (none_has _) ?_
    refine dops_go1 rfl (by simp only [Tm.fits_v, List.length_map, go_sem, reduceIte, Nat.reduceAdd, Nat.reduceSub, Nat.reduceLT, Nat.reduceLeDiff, reduceCtorEq, Nat.reduceEqDiff, Int.reduceToNat]; try omega) ?_
    simp only [Tm.fits_v, List.length_map, go_sem, reduceIte, Nat.reduceAdd, Nat.reduceSub, Nat.reduceLT, Nat.reduceLeDiff, reduceCtorEq, Nat.reduceEqDiff, Int.reduceToNat]
    have e : List.map Tm.v l ++ [t.v] = List.map Tm.v (l ++ [t]) := by simp
    rw [e]
    refine dops_pure (chainOf_pure (.tok (nx + 1 + 4)) (l ++ [t]) (by simp; omega) Hp.none) rfl (none_has _) ?_
    refine dops_go1 rfl (by simp only [Tm.fits_v, go_sem, reduceIte, Nat.reduceAdd, Nat.reduceSub, Nat.reduceLT, Nat.reduceLeDiff, reduceCtorEq, Nat.reduceEqDiff, Int.reduceToNat]; try omega) ?_
    simp only [Tm.fits_v, go_sem, reduceIte, Nat.reduceAdd, Nat.reduceSub, Nat.reduceLT, Nat.reduceLeDiff, reduceCtorEq, Nat.reduceEqDiff, Int.reduceToNat]
    refine dops_nil (drawQ_nil ?_)
    simp only [go_sem, reduceIte, Nat.reduceAdd, Nat.reduceSub, Nat.reduceLT, Nat.reduceLeDiff, reduceCtorEq, Nat.reduceEqDiff, Int.reduceToNat]
    refine seqQ_normal (lwp_ret (ret_slot h' ?_ ⟨rfl, rfl⟩))
    exact (by repeat (first | exact Hp.le_refl _ | refine le_of_fresh hd ?_ (by omega) _ | refine le_of_freshd hd ?_ (by omega)))
theorem chainOf_law (own : Own) (l : List Tm) (t : Tm) : Pure Try.prog 4 [tms own l, t.v] Hp.none (.bool true) := by
  refine pure_of (fun L => trivial) fun h' nx hh => acalls_walk L.corollarylaw21_ChainOf_low fun hd => ?_
  simp only [List.length_cons, List.length_nil, Nat.reduceAdd, Nat.reduceSub, List.replicate_succ, List.replicate_zero, List.cons_append, List.nil_append, V.undef]
  repeat (first | with_reducible refine lwp_seq ?_ | with_reducible refine lwp_block ?_ | with_reducible refine lwp_skip ?_ | with_reducible refine seqQ_normal ?_ | with_reducible refine blockQ_normal ?_ | with_reducible refine lwp_ops ?_ | (refine lops_go1 rfl (by simp only [t.fits_v, go_sem, reduceIte, Nat.reduceAdd, Nat.reduceSub, Nat.reduceLT, Nat.reduceLeDiff, reduceCtorEq, Nat.reduceEqDiff, Int.reduceToNat]; try omega) ?_; simp only [t.fits_v, go_sem, reduceIte, Nat.reduceAdd, Nat.reduceSub, Nat.reduceLT, Nat.reduceLeDiff, reduceCtorEq, Nat.reduceEqDiff, Int.reduceToNat]) | (with_reducible refine lops_done ?_))
  refine lops_pure (alive_pure _) rfl (has_refl _) ?_
  simp only [ go_sem, reduceIte, Nat.reduceAdd, Nat.reduceSub, Nat.reduceLT, Nat.reduceLeDiff, reduceCtorEq, Nat.reduceEqDiff, Int.reduceToNat]
  repeat (first | with_reducible refine lwp_seq ?_ | with_reducible refine lwp_block ?_ | with_reducible refine lwp_skip ?_ | with_reducible refine seqQ_normal ?_ | with_reducible refine blockQ_normal ?_ | with_reducible refine lwp_ops ?_ | (refine lops_go1 rfl (by simp only [ go_sem, reduceIte, Nat.reduceAdd, Nat.reduceSub, Nat.reduceLT, Nat.reduceLeDiff, reduceCtorEq, Nat.reduceEqDiff, Int.reduceToNat]; try omega) ?_; simp only [ go_sem, reduceIte, Nat.reduceAdd, Nat.reduceSub, Nat.reduceLT, Nat.reduceLeDiff, reduceCtorEq, Nat.reduceEqDiff, Int.reduceToNat]) | (with_reducible refine lops_done ?_))
  refine lwp_cond _ rfl (fun hc => ?_) (fun hc => ?_)
  · cases hc
  repeat (first | with_reducible refine lwp_seq ?_ | with_reducible refine lwp_block ?_ | with_reducible refine lwp_skip ?_ | with_reducible refine seqQ_normal ?_ | with_reducible refine blockQ_normal ?_ | with_reducible refine lwp_ops ?_ | (refine lops_go1 rfl (by simp only [tms, List.length_map, go_sem, reduceIte, Nat.reduceAdd, Nat.reduceSub, Nat.reduceLT, Nat.reduceLeDiff, reduceCtorEq, Nat.reduceEqDiff, Int.reduceToNat]; try omega) ?_; simp only [tms, List.length_map, go_sem, reduceIte, Nat.reduceAdd, Nat.reduceSub, Nat.reduceLT, Nat.reduceLeDiff, reduceCtorEq, Nat.reduceEqDiff, Int.reduceToNat]) | (with_reducible refine lops_done ?_))
  refine lwp_cond _ rfl (fun hc => ?_) (fun hc => ?_)
  · repeat (first | with_reducible refine lwp_seq ?_ | with_reducible refine lwp_block ?_ | with_reducible refine lwp_skip ?_ | with_reducible refine seqQ_normal ?_ | with_reducible refine blockQ_normal ?_ | with_reducible refine lwp_ops ?_ | (refine lops_go1 rfl (by simp only [ go_sem, reduceIte, Nat.reduceAdd, Nat.reduceSub, Nat.reduceLT, Nat.reduceLeDiff, reduceCtorEq, Nat.reduceEqDiff, Int.reduceToNat]; try omega) ?_; simp only [ go_sem, reduceIte, Nat.reduceAdd, Nat.reduceSub, Nat.reduceLT, Nat.reduceLeDiff, reduceCtorEq, Nat.reduceEqDiff, Int.reduceToNat]) | (with_reducible refine lops_done ?_))
    refine lwp_ret ?_
    repeat (first | with_reducible refine seqQ_ret ?_ | with_reducible refine blockQ_ret ?_ | with_reducible refine roundQ_ret ?_ | with_reducible refine roundM_ret ?_)
    exact ret_slot h' (by repeat (first | exact Hp.le_refl _ | refine le_of_fresh hd ?_ (by omega) _ | refine le_of_freshd hd ?_ (by omega))) ⟨rfl, rfl⟩
  have hl : l.length ≤ 60 := by
    have : ¬ ((60 : Int) < l.length) := by simpa using hc
    omega
  have e : List.map Tm.v l ++ [t.v] = List.map Tm.v (l ++ [t]) := by simp
  repeat (first | with_reducible refine lwp_seq ?_ | with_reducible refine lwp_block ?_ | with_reducible refine lwp_skip ?_ | with_reducible refine seqQ_normal ?_ | with_reducible refine blockQ_normal ?_ | with_reducible refine lwp_ops ?_ | (refine lops_go1 rfl (by simp only [ go_sem, reduceIte, Nat.reduceAdd, Nat.reduceSub, Nat.reduceLT, Nat.reduceLeDiff, reduceCtorEq, Nat.reduceEqDiff, Int.reduceToNat]; try omega) ?_; simp only [ go_sem, reduceIte, Nat.reduceAdd, Nat.reduceSub, Nat.reduceLT, Nat.reduceLeDiff, reduceCtorEq, Nat.reduceEqDiff, Int.reduceToNat]) | (with_reducible refine lops_done ?_))
  refine lops_pure (document_pure own l _ (by omega)) rfl (has_refl _) ?_
  simp only [go_sem, reduceIte, Nat.reduceAdd, Nat.reduceSub, Nat.reduceLT, Nat.reduceLeDiff, reduceCtorEq, Nat.reduceEqDiff, Int.reduceToNat]
  repeat (first | with_reducible refine lwp_seq ?_ | with_reducible refine lwp_block ?_ | with_reducible refine lwp_skip ?_ | with_reducible refine seqQ_normal ?_ | with_reducible refine blockQ_normal ?_ | with_reducible refine lwp_ops ?_ | (refine lops_go1 rfl (by simp only [selems, List.length_map, go_sem, reduceIte, Nat.reduceAdd, Nat.reduceSub, Nat.reduceLT, Nat.reduceLeDiff, reduceCtorEq, Nat.reduceEqDiff, Int.reduceToNat]; try omega) ?_; simp only [selems, List.length_map, go_sem, reduceIte, Nat.reduceAdd, Nat.reduceSub, Nat.reduceLT, Nat.reduceLeDiff, reduceCtorEq, Nat.reduceEqDiff, Int.reduceToNat]) | (with_reducible refine lops_done ?_))
  obtain ⟨o2, ho2⟩ := lst_eq (.agg 2) (l.map Tm.v)
  rw [ho2]
  refine lops_pure (rof_pure o2 l (by omega) _) rfl (has_refl _) ?_
  simp only [go_sem, reduceIte, Nat.reduceAdd, Nat.reduceSub, Nat.reduceLT, Nat.reduceLeDiff, reduceCtorEq, Nat.reduceEqDiff, Int.reduceToNat]
  repeat (first | with_reducible refine lwp_seq ?_ | with_reducible refine lwp_block ?_ | with_reducible refine lwp_skip ?_ | with_reducible refine seqQ_normal ?_ | with_reducible refine blockQ_normal ?_ | with_reducible refine lwp_ops ?_ | (refine lops_go1 rfl (by simp only [ go_sem, reduceIte, Nat.reduceAdd, Nat.reduceSub, Nat.reduceLT, Nat.reduceLeDiff, reduceCtorEq, Nat.reduceEqDiff, Int.reduceToNat]; try omega) ?_; simp only [ go_sem, reduceIte, Nat.reduceAdd, Nat.reduceSub, Nat.reduceLT, Nat.reduceLeDiff, reduceCtorEq, Nat.reduceEqDiff, Int.reduceToNat]) | (with_reducible refine lops_done ?_))
  obtain ⟨o3, ho3⟩ := lst_eq (.agg 2) ((refTo l l.length).map Tm.v)
  rw [ho3]
  refine lwp_draw rfl ?_
  refine dops_go1 rfl (by simp only [t.fits_v, List.length_map, go_sem, reduceIte, Nat.reduceAdd, Nat.reduceSub, Nat.reduceLT, Nat.reduceLeDiff, reduceCtorEq, Nat.reduceEqDiff, Int.reduceToNat]; try omega) ?_
  simp only [t.fits_v, List.length_map, go_sem, reduceIte, Nat.reduceAdd, Nat.reduceSub, Nat.reduceLT, Nat.reduceLeDiff, reduceCtorEq, Nat.reduceEqDiff, Int.reduceToNat]
  refine dops_pure (rtime_pure t Hp.none) rfl (none_has _) ?_
  refine dops_go1 rfl (by simp only [t.fits_v, List.length_map, List.length_append, go_sem, reduceIte, Nat.reduceAdd, Nat.reduceSub, Nat.reduceLT, Nat.reduceLeDiff, reduceCtorEq, Nat.reduceEqDiff, Int.reduceToNat]; try omega) ?_
  simp only [t.fits_v, List.length_map, List.length_append, go_sem, reduceIte, Nat.reduceAdd, Nat.reduceSub, Nat.reduceLT, Nat.reduceLeDiff, reduceCtorEq, Nat.reduceEqDiff, Int.reduceToNat]
  rw [e]
  refine dops_pure (rof_pure _ (l ++ [t]) (by simp; omega) Hp.none) rfl (none_has _) ?_
  refine dops_go1 rfl (by simp only [t.fits_v, List.length_map, go_sem, reduceIte, Nat.reduceAdd, Nat.reduceSub, Nat.reduceLT, Nat.reduceLeDiff, reduceCtorEq, Nat.reduceEqDiff, Int.reduceToNat]; try omega) ?_
  simp only [t.fits_v, List.length_map, go_sem, reduceIte, Nat.reduceAdd, Nat.reduceSub, Nat.reduceLT, Nat.reduceLeDiff, reduceCtorEq, Nat.reduceEqDiff, Int.reduceToNat]
  refine dops_nil (drawQ_nil ?_)
  obtain ⟨o4, ho4⟩ := lst_eq (.agg 2) ((refTo (l ++ [t]) (l ++ [t]).length).map Tm.v)
  simp only [ho4, go_sem, reduceIte, Nat.reduceAdd, Nat.reduceSub, Nat.reduceLT, Nat.reduceLeDiff, reduceCtorEq, Nat.reduceEqDiff, Int.reduceToNat]
  refine seqQ_normal ?_
  repeat (first | with_reducible refine lwp_seq ?_ | with_reducible refine lwp_block ?_ | with_reducible refine lwp_skip ?_ | with_reducible refine seqQ_normal ?_ | with_reducible refine blockQ_normal ?_ | with_reducible refine lwp_ops ?_ | (refine lops_go1 rfl (by simp only [ go_sem, reduceIte, Nat.reduceAdd, Nat.reduceSub, Nat.reduceLT, Nat.reduceLeDiff, reduceCtorEq, Nat.reduceEqDiff, Int.reduceToNat]; try omega) ?_; simp only [ go_sem, reduceIte, Nat.reduceAdd, Nat.reduceSub, Nat.reduceLT, Nat.reduceLeDiff, reduceCtorEq, Nat.reduceEqDiff, Int.reduceToNat]) | (with_reducible refine lops_done ?_))
  refine lops_pure (chainOf_pure _ l (by omega) _) rfl (has_refl _) ?_
  obtain ⟨o5, ho5⟩ := lst_eq (.agg 2) ((ofT l).map Tm.v)
  simp only [ho5, go_sem, reduceIte, Nat.reduceAdd, Nat.reduceSub, Nat.reduceLT, Nat.reduceLeDiff, reduceCtorEq, Nat.reduceEqDiff, Int.reduceToNat]
  repeat (first | with_reducible refine lwp_seq ?_ | with_reducible refine lwp_block ?_ | with_reducible refine lwp_skip ?_ | with_reducible refine seqQ_normal ?_ | with_reducible refine blockQ_normal ?_ | with_reducible refine lwp_ops ?_ | (refine lops_go1 rfl (by simp only [ go_sem, reduceIte, Nat.reduceAdd, Nat.reduceSub, Nat.reduceLT, Nat.reduceLeDiff, reduceCtorEq, Nat.reduceEqDiff, Int.reduceToNat]; try omega) ?_; simp only [ go_sem, reduceIte, Nat.reduceAdd, Nat.reduceSub, Nat.reduceLT, Nat.reduceLeDiff, reduceCtorEq, Nat.reduceEqDiff, Int.reduceToNat]) | (with_reducible refine lops_done ?_))
  refine lops_pure (is_pure o5 o3 (ofT l) (refTo l l.length) (Nat.le_trans (ofT_len l) (by omega)) _) rfl (has_refl _) ?_
  have d1 : decide (ofT l = refTo l l.length) = true := by simp [ofT_eq]
  simp only [d1, go_sem, reduceIte, Nat.reduceAdd, Nat.reduceSub, Nat.reduceLT, Nat.reduceLeDiff, reduceCtorEq, Nat.reduceEqDiff, Int.reduceToNat]
  repeat (first | with_reducible refine lwp_seq ?_ | with_reducible refine lwp_block ?_ | with_reducible refine lwp_skip ?_ | with_reducible refine seqQ_normal ?_ | with_reducible refine blockQ_normal ?_ | with_reducible refine lwp_ops ?_ | (refine lops_go1 rfl (by simp only [ go_sem, reduceIte, Nat.reduceAdd, Nat.reduceSub, Nat.reduceLT, Nat.reduceLeDiff, reduceCtorEq, Nat.reduceEqDiff, Int.reduceToNat]; try omega) ?_; simp only [ go_sem, reduceIte, Nat.reduceAdd, Nat.reduceSub, Nat.reduceLT, Nat.reduceLeDiff, reduceCtorEq, Nat.reduceEqDiff, Int.reduceToNat]) | (with_reducible refine lops_done ?_))
  repeat (first | with_reducible refine lwp_seq ?_ | with_reducible refine lwp_block ?_ | with_reducible refine lwp_skip ?_ | with_reducible refine seqQ_normal ?_ | with_reducible refine blockQ_normal ?_ | with_reducible refine lwp_ops ?_ | (refine lops_go1 rfl (by simp only [ go_sem, reduceIte, Nat.reduceAdd, Nat.reduceSub, Nat.reduceLT, Nat.reduceLeDiff, reduceCtorEq, Nat.reduceEqDiff, Int.reduceToNat]; try omega) ?_; simp only [ go_sem, reduceIte, Nat.reduceAdd, Nat.reduceSub, Nat.reduceLT, Nat.reduceLeDiff, reduceCtorEq, Nat.reduceEqDiff, Int.reduceToNat]) | (with_reducible refine lops_done ?_) | (with_reducible refine lops_guard rfl (fun _ => ?_) (fun h => absurd rfl h)) | (with_reducible refine lops_guard rfl (fun h => by cases h) (fun _ => ?_)))
  refine lops_pure (cright_pure _ l (by omega) _) rfl (has_refl _) ?_
  simp only [go_sem, reduceIte, Nat.reduceAdd, Nat.reduceSub, Nat.reduceLT, Nat.reduceLeDiff, reduceCtorEq, Nat.reduceEqDiff, Int.reduceToNat]
  repeat (first | with_reducible refine lwp_seq ?_ | with_reducible refine lwp_block ?_ | with_reducible refine lwp_skip ?_ | with_reducible refine seqQ_normal ?_ | with_reducible refine blockQ_normal ?_ | with_reducible refine lwp_ops ?_ | (refine lops_go1 rfl (by simp only [ go_sem, reduceIte, Nat.reduceAdd, Nat.reduceSub, Nat.reduceLT, Nat.reduceLeDiff, reduceCtorEq, Nat.reduceEqDiff, Int.reduceToNat]; try omega) ?_; simp only [ go_sem, reduceIte, Nat.reduceAdd, Nat.reduceSub, Nat.reduceLT, Nat.reduceLeDiff, reduceCtorEq, Nat.reduceEqDiff, Int.reduceToNat]) | (with_reducible refine lops_done ?_) | (with_reducible refine lops_guard rfl (fun _ => ?_) (fun h => absurd rfl h)) | (with_reducible refine lops_guard rfl (fun h => by cases h) (fun _ => ?_)))
  have d2 : decide (l = refTo l l.length) = decide (l = ofT l) := by simp [ofT_eq]
  refine lops_pure (rsame_pure _ o3 l (refTo l l.length) (by omega) _) rfl (has_refl _) ?_
  simp only [d2, go_sem, reduceIte, Nat.reduceAdd, Nat.reduceSub, Nat.reduceLT, Nat.reduceLeDiff, reduceCtorEq, Nat.reduceEqDiff, Int.reduceToNat]
  repeat (first | with_reducible refine lwp_seq ?_ | with_reducible refine lwp_block ?_ | with_reducible refine lwp_skip ?_ | with_reducible refine seqQ_normal ?_ | with_reducible refine blockQ_normal ?_ | with_reducible refine lwp_ops ?_ | (refine lops_go1 rfl (by simp only [beq_self_eq_true, t.fits_v, nxFl, go_sem, reduceIte, Nat.reduceAdd, Nat.reduceSub, Nat.reduceLT, Nat.reduceLeDiff, reduceCtorEq, Nat.reduceEqDiff, Int.reduceToNat]; try omega) ?_; simp only [beq_self_eq_true, t.fits_v, nxFl, go_sem, reduceIte, Nat.reduceAdd, Nat.reduceSub, Nat.reduceLT, Nat.reduceLeDiff, reduceCtorEq, Nat.reduceEqDiff, Int.reduceToNat]) | (with_reducible refine lops_done ?_) | (with_reducible refine lops_guard rfl (fun _ => ?_) (fun h => absurd rfl h)) | (with_reducible refine lops_guard rfl (fun h => by cases h) (fun _ => ?_)))
  refine lops_pure (put_pure (.tok (nx + 2)) l t (fun h => by cases h) (by omega) _) rfl (has_refl _) ?_
  obtain ⟨o6, ho6⟩ := lst_eq (.agg 2) ((ofT (l ++ [t])).map Tm.v)
  simp only [ho6, go_sem, reduceIte, Nat.reduceAdd, Nat.reduceSub, Nat.reduceLT, Nat.reduceLeDiff, reduceCtorEq, Nat.reduceEqDiff, Int.reduceToNat]
  repeat (first | with_reducible refine lwp_seq ?_ | with_reducible refine lwp_block ?_ | with_reducible refine lwp_skip ?_ | with_reducible refine seqQ_normal ?_ | with_reducible refine blockQ_normal ?_ | with_reducible refine lwp_ops ?_ | (refine lops_go1 rfl (by simp only [ go_sem, reduceIte, Nat.reduceAdd, Nat.reduceSub, Nat.reduceLT, Nat.reduceLeDiff, reduceCtorEq, Nat.reduceEqDiff, Int.reduceToNat]; try omega) ?_; simp only [ go_sem, reduceIte, Nat.reduceAdd, Nat.reduceSub, Nat.reduceLT, Nat.reduceLeDiff, reduceCtorEq, Nat.reduceEqDiff, Int.reduceToNat]) | (with_reducible refine lops_done ?_) | (with_reducible refine lops_guard rfl (fun _ => ?_) (fun h => absurd rfl h)) | (with_reducible refine lops_guard rfl (fun h => by cases h) (fun _ => ?_)))
  have d3 : decide (ofT (l ++ [t]) = refTo (l ++ [t]) (l ++ [t]).length) = true := by simp [ofT_eq]
  refine lops_pure (is_pure o6 o4 (ofT (l ++ [t])) (refTo (l ++ [t]) (l ++ [t]).length) (Nat.le_trans (ofT_len _) (by simp; omega)) _) rfl (has_refl _) ?_
  simp only [d3, go_sem, reduceIte, Nat.reduceAdd, Nat.reduceSub, Nat.reduceLT, Nat.reduceLeDiff, reduceCtorEq, Nat.reduceEqDiff, Int.reduceToNat]
  repeat (first | with_reducible refine lwp_seq ?_ | with_reducible refine lwp_block ?_ | with_reducible refine lwp_skip ?_ | with_reducible refine seqQ_normal ?_ | with_reducible refine blockQ_normal ?_ | with_reducible refine lwp_ops ?_ | (refine lops_go1 rfl (by simp only [ go_sem, reduceIte, Nat.reduceAdd, Nat.reduceSub, Nat.reduceLT, Nat.reduceLeDiff, reduceCtorEq, Nat.reduceEqDiff, Int.reduceToNat]; try omega) ?_; simp only [ go_sem, reduceIte, Nat.reduceAdd, Nat.reduceSub, Nat.reduceLT, Nat.reduceLeDiff, reduceCtorEq, Nat.reduceEqDiff, Int.reduceToNat]) | (with_reducible refine lops_done ?_) | (with_reducible refine lops_guard rfl (fun _ => ?_) (fun h => absurd rfl h)) | (with_reducible refine lops_guard rfl (fun h => by cases h) (fun _ => ?_)))
  have d4 : decide (l = l) = true := by simp
  refine lops_pure (is_pure (.tok (nx + 2)) o2 l l (by omega) _) rfl (has_refl _) ?_
  simp only [d4, go_sem, reduceIte, Nat.reduceAdd, Nat.reduceSub, Nat.reduceLT, Nat.reduceLeDiff, reduceCtorEq, Nat.reduceEqDiff, Int.reduceToNat]
  repeat (first | with_reducible refine lwp_seq ?_ | with_reducible refine lwp_block ?_ | with_reducible refine lwp_skip ?_ | with_reducible refine seqQ_normal ?_ | with_reducible refine blockQ_normal ?_ | with_reducible refine lwp_ops ?_ | (refine lops_go1 rfl (by simp only [ go_sem, reduceIte, Nat.reduceAdd, Nat.reduceSub, Nat.reduceLT, Nat.reduceLeDiff, reduceCtorEq, Nat.reduceEqDiff, Int.reduceToNat]; try omega) ?_; simp only [ go_sem, reduceIte, Nat.reduceAdd, Nat.reduceSub, Nat.reduceLT, Nat.reduceLeDiff, reduceCtorEq, Nat.reduceEqDiff, Int.reduceToNat]) | (with_reducible refine lops_done ?_) | (with_reducible refine lops_guard rfl (fun _ => ?_) (fun h => absurd rfl h)) | (with_reducible refine lops_guard rfl (fun h => by cases h) (fun _ => ?_)))
  refine lwp_ret ?_
  repeat (first | with_reducible refine seqQ_ret ?_ | with_reducible refine blockQ_ret ?_ | with_reducible refine roundQ_ret ?_ | with_reducible refine roundM_ret ?_)
  exact ret_slot h' (by repeat (first | exact Hp.le_refl _ | refine le_of_fresh hd ?_ (by omega) _ | refine le_of_freshd hd ?_ (by omega))) ⟨rfl, rfl⟩


set_option maxRecDepth 100000 in
theorem chainOf_lifted (os : Os) (started : os.Started) (H : Type) (enc : TypeId × Value → H) :
    ReturnsInHanded {} Try.checked os 4 .any (Rows.chainOfSpec.pre6 enc Try.prog Try.f4 Rows.chainOfRow.domain false) (Rows.chainOfSpec.post enc Try.prog Try.f4 false true false false) := by
  refine law_lifted (C := Try.checked) (tb := 4) own started (by kernel_rfl) Try.func4
    (ChangeSpec.witness6 (enc := enc) (C := Try.checked) false ⟨#[], #[.slice none 0 0, .agg #[.int .i64 0, .int .i64 0]], []⟩ 8 (by kernel_rfl) (by kernel_rfl) (by kernel_rfl) (by kernel_rfl))
    rfl (fun ds hds => by match ds, hds with | [_, _], _ => rfl) rfl Try.underlying4 laidOut (fun t ht => ?_) ?_
  · simp only [Try.params4, List.mem_cons, List.not_mem_nil, or_false] at ht
    rcases ht with rfl | rfl <;> exact ⟨by kernel_rfl, of_decide_eq_true (by kernel_rfl)⟩
  · intro W base args ds p hval hA _ _
    refine law_contract (P := Try.prog) (congrArg Array.toList Try.params4) (by kernel_rfl) (fun xs hxs => ?_) W base args ds p hval hA
    match xs, hxs with
    | [x0, x1], ⟨h0, h1, _⟩ =>
      obtain ⟨ow, l, rfl⟩ := arg_tms (by kernel_rfl) (by kernel_rfl) h0
      obtain ⟨t, rfl⟩ := arg_tm (by kernel_rfl) (by kernel_rfl) h1
      exact chainOf_law ow l t

theorem chainOf_holds : Rows.ChainOfSaid :=
  OpenClaim.holds_of_wide 4 Try.f4 rfl rfl rfl rfl rfl rfl rfl ⟨rfl, rfl, rfl, rfl, rfl⟩ rfl rfl rfl rfl rfl (by kernel_rfl) Try.func4 (by kernel_rfl)
    (of_decide_eq_true (by kernel_rfl)) (by unfold Func.isWrapper; first | (rw [if_pos (by decide +kernel)]; kernel_rfl) | (rw [if_neg (by decide +kernel)]; exact ⟨rfl, rfl⟩))
    (fun os started H enc _ => chainOf_lifted os started H enc)


end Go.Proofs.Ythcedfamidlbdaa
