/-
Contracts of package chain: the antichain of times; the law's fixed fact. No conditions.
-/
import Derived.Test.YthcedfamidlbdaaU21
import Derived.Test.YthcedfamidlbdaaLbe
import Derived.Test.YthcedfamidlbdaaSh
namespace Go.Proofs.Ythcedfamidlbdaa
set_option linter.unusedSimpArgs false
set_option linter.unusedVariables false
set_option linter.unusedSectionVars false
open Go.RowKit Go.Sort
attribute [local go_sem] Option.some.injEq Prod.mk.injEq false_and and_false Bool.true_eq_false dRun dRest dbare dMerge nones if_true Bool.true_and dgoC dgoCRest fillV okAll nextAll LOper.ok LOper.next LOp.ok LOp.next LVal.ok LVal.out LArg.ev putV binOK pick_true pick_false pick_bool V.undef Sh.size addHp dokAll dnextAll LOper.dok LOper.dres LOp.dok LOp.dout dput conOK veqL leafEq List.take_succ_cons List.take_zero List.take_nil List.drop_succ_cons List.drop_zero List.drop_nil List.set_cons_succ List.set_cons_zero List.getD_cons_succ List.getD_cons_zero List.length_cons List.length_nil List.map_cons List.map_nil List.all_cons List.all_nil List.mem_cons List.not_mem_nil List.replicate_succ List.replicate_zero List.cons_append List.nil_append List.append_nil List.isEmpty_cons List.isEmpty_nil appOwn appHp appOK Option.getD_some Option.isSome_some Nat.add_eq Nat.zero_add Nat.add_zero true_and and_true and_self true_implies implies_true false_implies forall_const forall_eq forall_eq_or_imp ne_eq not_false_eq_true not_true_eq_false Bool.not_true Bool.not_false decide_true decide_false Bool.and_true Bool.true_and Bool.and_false Bool.false_and true_or or_true false_or or_false eq_self Bool.false_eq_true nxNe nxNe' tupOf mkFrom bval ogive cutOwn cutE_nil cutE_full cutE_tok cutE_free_nil cutE_free_cons selems Int.toNat_natCast Int.toNat_zero List.take_length Hp.set_app Hp.del_app goOps goRest LOper.plain LOp.isCall LOper.dplain LOp.isStop lops_nil gRun gRest bare gMerge V.gd_true V.gd_false pick_gd pick_gdn pick_and pick_or partOK_self loadPart_self storePart_self dgoOps dgoRest beq_true beq_false partOK_ll partOK_al partOK_aa loadPart_l loadPart_a storePart_la storePart_aa fits_leaf fits_agg leafy_bool leafy_int leafy_str leafy_nilPtr leafy_ptr leafy_ept leafy_sl leafy_rs leafy_nilMap leafy_map leafy_nilChan leafy_chan leafy_fn leafy_nilFn leafy_yld leafy_iface leafy_nilIface veq_aa veq_li veq_lb veq_ls cells_agg cells_leaf cell_agg cell_leaf veq_ptr1 veq_ptr2 veq_ptr3 veq_ptr4 veq_ptr5 veq_slice1 veq_slice2 veq_func1 veq_func2 veq_func3 veq_iface1 veq_iface2 veq_iface3 veq_map1 veq_map2 veq_map3 veq_chan1 veq_chan2 veq_chan3 conAt_add conAt_zero untaken wrHp Hp.turn delHp Option.isNone_some Option.isNone_none

theorem Tm.fits_v (t : Tm) : t.v.fits (.agg 2) = true := by simp [Tm.v, V.fits, V.leafy]
theorem low_SortedFunc_Tm : lowerFn Try.prog 35 = some (LB.SortedFunc (.agg 2) 46 47) := by kernel_rfl
theorem low_Collect_Tm : lowerFn Try.prog 46 = some (LB.Collect (.agg 2) 54) := by kernel_rfl
theorem low_AppendSeq_Tm : lowerFn Try.prog 54 = some (LB.AppendSeq (.agg 2) (.agg [.int .i64 0, .int .i64 0]) 16) := by kernel_rfl
theorem low_Values_Tm : lowerFn Try.prog 36 = some (LB.Values (.agg 2) 48) := by kernel_rfl
theorem low_ValuesIt_Tm : lowerFn Try.prog 48 = some (LB.ValuesIt (.agg 2) (.agg [.int .i64 0, .int .i64 0])) := by kernel_rfl
theorem low_Equal_Tm : lowerFn Try.prog 38 = some (LB.Equal (.agg 2) (.plain (.agg 2) [.int, .int])) := by kernel_rfl
theorem low_Clone_Tm : lowerFn Try.prog 39 = some (LB.Clone (.agg 2) 16) := by kernel_rfl
theorem low_CmpInt : lowerFn Try.prog 50 = some (LB.CmpInt 57) := by kernel_rfl
theorem low_NaN : lowerFn Try.prog 57 = some LB.NaNInt := by kernel_rfl
theorem low_OrInt : lowerFn Try.prog 49 = some LB.OrInt := by kernel_rfl

/-- How times stand to each other. -/
def cmpT (a b : Tm) : Int := orI [cmpI a.e b.e, cmpI a.r b.r]
theorem cmpT_pure (a b : Tm) : Pure Try.prog 37 [a.v, b.v] Hp.none (.int .i64 (cmpT a b)) := by
  refine pure_of (fun L => trivial) fun h' nx hh => acalls_walk L.stamp_Compare_low fun hd => ?_
  simp only [List.length_cons, List.length_nil, Nat.reduceAdd, Nat.reduceSub, List.replicate_succ, List.replicate_zero, List.cons_append, List.nil_append, V.undef]
  repeat (first | with_reducible refine lwp_seq ?_ | with_reducible refine lwp_block ?_ | with_reducible refine lwp_skip ?_ | with_reducible refine seqQ_normal ?_ | with_reducible refine blockQ_normal ?_ | with_reducible refine lwp_ops ?_ | (refine lops_go1 rfl (by simp only [Tm.v, go_sem, reduceIte, Nat.reduceAdd, Nat.reduceSub, Nat.reduceLT, Nat.reduceLeDiff, reduceCtorEq, Nat.reduceEqDiff, Int.reduceToNat]; try omega) ?_; simp only [Tm.v, go_sem, reduceIte, Nat.reduceAdd, Nat.reduceSub, Nat.reduceLT, Nat.reduceLeDiff, reduceCtorEq, Nat.reduceEqDiff, Int.reduceToNat]) | (with_reducible refine lops_done ?_))
  refine lwp_draw rfl ?_
  refine dops_go1 rfl (by simp only [Tm.v, go_sem, reduceIte, Nat.reduceAdd, Nat.reduceSub, Nat.reduceLT, Nat.reduceLeDiff, reduceCtorEq, Nat.reduceEqDiff, Int.reduceToNat]; try omega) ?_
  simp only [Tm.v, go_sem, reduceIte, Nat.reduceAdd, Nat.reduceSub, Nat.reduceLT, Nat.reduceLeDiff, reduceCtorEq, Nat.reduceEqDiff, Int.reduceToNat]
  refine dops_pure (cmpInt_lib low_CmpInt low_NaN a.e b.e Hp.none) rfl (none_has _) ?_
  refine dops_go1 rfl (by simp only [Tm.v, go_sem, reduceIte, Nat.reduceAdd, Nat.reduceSub, Nat.reduceLT, Nat.reduceLeDiff, reduceCtorEq, Nat.reduceEqDiff, Int.reduceToNat]; try omega) ?_
  simp only [Tm.v, go_sem, reduceIte, Nat.reduceAdd, Nat.reduceSub, Nat.reduceLT, Nat.reduceLeDiff, reduceCtorEq, Nat.reduceEqDiff, Int.reduceToNat]
  refine dops_pure (cmpInt_lib low_CmpInt low_NaN a.r b.r Hp.none) rfl (none_has _) ?_
  refine dops_go1 rfl (by simp only [Tm.v, go_sem, reduceIte, Nat.reduceAdd, Nat.reduceSub, Nat.reduceLT, Nat.reduceLeDiff, reduceCtorEq, Nat.reduceEqDiff, Int.reduceToNat]; try omega) ?_
  simp only [Tm.v, go_sem, reduceIte, Nat.reduceAdd, Nat.reduceSub, Nat.reduceLT, Nat.reduceLeDiff, reduceCtorEq, Nat.reduceEqDiff, Int.reduceToNat]
  refine dops_pure (orInt_lib low_OrInt _ [cmpI a.e b.e, cmpI a.r b.r] (by simp) Hp.none) rfl (none_has _) ?_
  refine dops_go1 rfl (by simp only [Tm.v, go_sem, reduceIte, Nat.reduceAdd, Nat.reduceSub, Nat.reduceLT, Nat.reduceLeDiff, reduceCtorEq, Nat.reduceEqDiff, Int.reduceToNat]; try omega) ?_
  simp only [Tm.v, go_sem, reduceIte, Nat.reduceAdd, Nat.reduceSub, Nat.reduceLT, Nat.reduceLeDiff, reduceCtorEq, Nat.reduceEqDiff, Int.reduceToNat]
  refine dops_nil (drawQ_nil ?_)
  simp only [go_sem, reduceIte, Nat.reduceAdd, Nat.reduceSub, Nat.reduceLT, Nat.reduceLeDiff, reduceCtorEq, Nat.reduceEqDiff, Int.reduceToNat]
  refine seqQ_normal (lwp_ret (ret_slot h' ?_ ⟨rfl, rfl⟩))
  exact (by repeat (first | exact Hp.le_refl _ | refine le_of_fresh hd ?_ (by omega) _ | refine le_of_freshd hd ?_ (by omega)))

theorem cmpI_ord : (∀ a b, cmpI a b < 0 ↔ a < b) ∧ ∀ a b, cmpI a b = 0 ↔ a = b := by
  constructor <;> intro a b <;> unfold cmpI <;> (repeat' split) <;> omega
theorem cmpT_lt (a b : Tm) : (cmpT a b < 0) ↔ (a.e < b.e ∨ (a.e = b.e ∧ a.r < b.r)) := by
  have h1 := cmpI_ord.1 a.e b.e
  have h2 := cmpI_ord.2 a.e b.e
  have h3 := cmpI_ord.1 a.r b.r
  unfold cmpT orI
  split
  · rename_i h0
    have he := h2.1 h0
    unfold orI
    split
    · rename_i h4
      have := (cmpI_ord.2 a.r b.r).1 h4
      unfold orI
      omega
    · omega
  · rename_i h0
    have : a.e ≠ b.e := fun h => h0 (h2.2 h)
    omega
theorem ltOf_cmpT (a b : Tm) : ltOf cmpT a b = decide (a.e < b.e ∨ (a.e = b.e ∧ a.r < b.r)) := by
  unfold ltOf
  rw [Bool.eq_iff_iff]
  simp [cmpT_lt]
theorem swo_cmpT : SWO (ltOf cmpT) := by
  refine ⟨fun x => ?_, fun x y z => ?_, fun x y z => ?_⟩ <;> simp only [ltOf_cmpT, decide_eq_true_eq, decide_eq_false_iff_not] <;> omega
theorem tot_cmpT (x y : Tm) (h1 : ltOf cmpT x y = false) (h2 : ltOf cmpT y x = false) : x = y := by
  simp only [ltOf_cmpT, decide_eq_false_iff_not] at h1 h2
  cases x; cases y
  simp only [Tm.mk.injEq] at *
  omega

theorem sortedTm_pure (own : Own) (l : List Tm) (hl : l.length ≤ 1000000) :
    Pure Try.prog 35 [.fn (.func 48) [] [.ept .leaf [(tms own l).loose] 0 0], .fn (.func 37) [] []] Hp.none (lst (.agg 2) ((sortOf cmpT l).map Tm.v)) := by
  have hs : ∃ own', (tms own l).loose = tms own' l := by cases own <;> exact ⟨_, rfl⟩
  obtain ⟨own', hs⟩ := hs
  rw [hs]
  exact sortedFunc_pure Tm.v sortTm Tm.fits_v (fun x L => x.names_v L) (by intro w; exact Try.isAgg24 w) (by intro w; exact Try.sizeOf24 w) (by kernel_rfl) low_SortedFunc_Tm low_Collect_Tm low_AppendSeq_Tm rfl (by omega) rfl _ _ Hp.none l
    (valuesIt_lib Tm.v Tm.fits_v low_ValuesIt_Tm rfl own' l (by omega)) (by omega) cmpT swo_cmpT tot_cmpT _ [] (fun x y => by simpa using cmpT_pure x y)

/-- The antichain of times, as package chain makes it. -/
def ofGo : List Tm → List Tm → List Tm
  | out, [] => out
  | out, t :: l => ofGo (if t.ok && !(out.any fun x => x.le t) then out ++ [t] else out) l
def ofT (l : List Tm) : List Tm := ofGo [] (sortOf cmpT l)
theorem ofGo_len (out l : List Tm) : (ofGo out l).length ≤ out.length + l.length := by
  induction l generalizing out with
  | nil => simp [ofGo]
  | cons t l ih =>
    unfold ofGo
    refine Nat.le_trans (ih _) ?_
    split <;> simp <;> omega
theorem ofT_len (l : List Tm) : (ofT l).length ≤ l.length := by
  have := ofGo_len [] (sortOf cmpT l)
  simpa [ofT, (sortOf_perm cmpT l).length_eq] using this

theorem ofGo_snoc (out l : List Tm) (t : Tm) : ofGo out (l ++ [t]) = if (t.ok && !((ofGo out l).any fun x => x.le t)) = true then ofGo out l ++ [t] else ofGo out l := by
  induction l generalizing out with
  | nil => simp [ofGo]
  | cons x l ih => simp only [List.cons_append, ofGo]; exact ih _

theorem chainOf_pure (own : Own) (l : List Tm) (hl : l.length ≤ 1000000) (h : Hp) : Pure Try.prog 16 [tms own l] h (lst (.agg 2) ((ofT l).map Tm.v)) := by
  refine pure_of_loose (fun L => lst_names (fun L => namesL_map (Tm.names_v L) _) L) fun h' nx hh => acalls_walk L.chain_Of_low fun hd => ?_
  simp only [List.length_cons, List.length_nil, Nat.reduceAdd, Nat.reduceSub, List.replicate_succ, List.replicate_zero, List.cons_append, List.nil_append, V.undef]
  repeat (first | with_reducible refine lwp_seq ?_ | with_reducible refine lwp_block ?_ | with_reducible refine lwp_skip ?_ | with_reducible refine seqQ_normal ?_ | with_reducible refine blockQ_normal ?_ | with_reducible refine lwp_ops ?_ | (refine lops_go1 rfl (by simp only [ go_sem, reduceIte, Nat.reduceAdd, Nat.reduceSub, Nat.reduceLT, Nat.reduceLeDiff, reduceCtorEq, Nat.reduceEqDiff, Int.reduceToNat]; try omega) ?_; simp only [ go_sem, reduceIte, Nat.reduceAdd, Nat.reduceSub, Nat.reduceLT, Nat.reduceLeDiff, reduceCtorEq, Nat.reduceEqDiff, Int.reduceToNat]) | (with_reducible refine lops_done ?_))
  refine lops_pure (values_lib low_Values_Tm own (l.map Tm.v) (fun L => namesL_map (Tm.names_v L) _) Hp.none) rfl (none_has _) ?_
  simp only [go_sem, reduceIte, Nat.reduceAdd, Nat.reduceSub, Nat.reduceLT, Nat.reduceLeDiff, reduceCtorEq, Nat.reduceEqDiff, Int.reduceToNat]
  refine lops_pure (sortedTm_pure own l hl) rfl (none_has _) ?_
  simp only [go_sem, reduceIte, Nat.reduceAdd, Nat.reduceSub, Nat.reduceLT, Nat.reduceLeDiff, reduceCtorEq, Nat.reduceEqDiff, Int.reduceToNat]
  obtain ⟨S, hS⟩ : ∃ S, S = sortOf cmpT l := ⟨_, rfl⟩
  have hSl : S.length = l.length := by rw [hS]; exact (sortOf_perm cmpT l).length_eq
  rw [← hS]
  obtain ⟨ow, how⟩ := lst_eq (.agg 2) (S.map Tm.v)
  rw [how]
  repeat (first | with_reducible refine lwp_seq ?_ | with_reducible refine lwp_block ?_ | with_reducible refine lwp_skip ?_ | with_reducible refine seqQ_normal ?_ | with_reducible refine blockQ_normal ?_ | with_reducible refine lwp_ops ?_ | (refine lops_go1 rfl (by simp only [List.length_map, go_sem, reduceIte, Nat.reduceAdd, Nat.reduceSub, Nat.reduceLT, Nat.reduceLeDiff, reduceCtorEq, Nat.reduceEqDiff, Int.reduceToNat]; try omega) ?_; simp only [List.length_map, go_sem, reduceIte, Nat.reduceAdd, Nat.reduceSub, Nat.reduceLT, Nat.reduceLeDiff, reduceCtorEq, Nat.reduceEqDiff, Int.reduceToNat]) | (with_reducible refine lops_done ?_))
  obtain ⟨C, hC⟩ : ∃ C : Nat × Own → Hp → Nat → Prop, ∀ i o hp nx1, C (i, o) hp nx1 ↔ (i ≤ S.length ∧ h'.le hp ∧ nx ≤ nx1 ∧ DomB hp nx1 ∧ ((o = .nil ∧ ofGo [] (S.take i) = []) ∨ ∃ id, nx ≤ id ∧ o = .tok id ∧ hp id = some .tip ∧ ofGo [] (S.take i) ≠ [])) := ⟨fun p hp nx1 => (p.1 ≤ S.length ∧ h'.le hp ∧ nx ≤ nx1 ∧ DomB hp nx1 ∧ ((p.2 = .nil ∧ ofGo [] (S.take p.1) = []) ∨ ∃ id, nx ≤ id ∧ p.2 = .tok id ∧ hp id = some .tip ∧ ofGo [] (S.take p.1) ≠ [])), fun _ _ _ _ => Iff.rfl⟩
  refine lwp_loopM (fun p => mkFrom 28 0 [(3, tms p.2 (ofGo [] (S.take p.1))), (8, .sl (.agg 2) ow (S.map Tm.v)), (9, .int .i64 S.length), (10, .int .i64 p.1)]) C (fun p => S.length - p.1) (0, .nil) ((hC _ _ _ _).2 ⟨Nat.zero_le _, Hp.le_refl _, Nat.le_refl _, hd, .inl ⟨rfl, by simp [ofGo]⟩⟩) ?_ ?_
  · simp only [WkL, mkFrom, Int.natCast_add, Int.natCast_one, Int.natCast_zero, ofGo, tms, go_sem, reduceIte, Nat.reduceAdd, Nat.reduceSub, Nat.reduceLT, Nat.reduceLeDiff, reduceCtorEq, Nat.reduceEqDiff, Int.reduceToNat]
  · rintro ⟨i, o⟩ hp nx1 hCi
    obtain ⟨hi, hle, hnx, hdm, hown⟩ := (hC _ _ _ _).1 hCi
    simp only [mkFrom, go_sem, reduceIte, Nat.reduceAdd, Nat.reduceSub, Nat.reduceLT, Nat.reduceLeDiff, reduceCtorEq, Nat.reduceEqDiff, Int.reduceToNat]
    repeat (first | with_reducible refine lwp_seq ?_ | with_reducible refine lwp_block ?_ | with_reducible refine lwp_skip ?_ | with_reducible refine seqQ_normal ?_ | with_reducible refine blockQ_normal ?_ | with_reducible refine lwp_ops ?_ | (refine lops_go1 rfl (by simp only [ go_sem, reduceIte, Nat.reduceAdd, Nat.reduceSub, Nat.reduceLT, Nat.reduceLeDiff, reduceCtorEq, Nat.reduceEqDiff, Int.reduceToNat]; try omega) ?_; simp only [ go_sem, reduceIte, Nat.reduceAdd, Nat.reduceSub, Nat.reduceLT, Nat.reduceLeDiff, reduceCtorEq, Nat.reduceEqDiff, Int.reduceToNat]) | (with_reducible refine lops_done ?_))
    refine lwp_cond _ rfl (fun hc => ?_) (fun hc => ?_)
    · have hlt : i < S.length := by simpa using hc
      have hg := getD_map' Tm.v S i hlt
      have htk : S.take (i + 1) = S.take i ++ [S[i]] := List.take_succ_eq_append_getElem hlt
      have hlen : (ofGo [] (S.take i)).length ≤ 1000000 := Nat.le_trans (ofGo_len _ _) (by simp; omega)
      repeat (first | with_reducible refine lwp_seq ?_ | with_reducible refine lwp_block ?_ | with_reducible refine lwp_skip ?_ | with_reducible refine seqQ_normal ?_ | with_reducible refine blockQ_normal ?_ | with_reducible refine lwp_ops ?_ | (refine lops_go1 rfl (by simp only [hg, List.length_map, Int.toNat_natCast, Tm.fits_v, go_sem, reduceIte, Nat.reduceAdd, Nat.reduceSub, Nat.reduceLT, Nat.reduceLeDiff, reduceCtorEq, Nat.reduceEqDiff, Int.reduceToNat]; try omega) ?_; simp only [hg, List.length_map, Int.toNat_natCast, Tm.fits_v, go_sem, reduceIte, Nat.reduceAdd, Nat.reduceSub, Nat.reduceLT, Nat.reduceLeDiff, reduceCtorEq, Nat.reduceEqDiff, Int.reduceToNat]) | (with_reducible refine lops_done ?_))
      refine lops_pure (right_pure S[i] _) rfl (has_refl _) ?_
      simp only [ go_sem, reduceIte, Nat.reduceAdd, Nat.reduceSub, Nat.reduceLT, Nat.reduceLeDiff, reduceCtorEq, Nat.reduceEqDiff, Int.reduceToNat]
      repeat (first | with_reducible refine lwp_seq ?_ | with_reducible refine lwp_block ?_ | with_reducible refine lwp_skip ?_ | with_reducible refine seqQ_normal ?_ | with_reducible refine blockQ_normal ?_ | with_reducible refine lwp_ops ?_ | (refine lops_go1 rfl (by simp only [ go_sem, reduceIte, Nat.reduceAdd, Nat.reduceSub, Nat.reduceLT, Nat.reduceLeDiff, reduceCtorEq, Nat.reduceEqDiff, Int.reduceToNat]; try omega) ?_; simp only [ go_sem, reduceIte, Nat.reduceAdd, Nat.reduceSub, Nat.reduceLT, Nat.reduceLeDiff, reduceCtorEq, Nat.reduceEqDiff, Int.reduceToNat]) | (with_reducible refine lops_done ?_))
      refine lops_gd (S[i].ok) rfl rfl ?sl ?h1 ?h2
      case h1 =>
        intro hgd
        simp only [Tm.fits_v, go_sem, reduceIte, Nat.reduceAdd, Nat.reduceSub, Nat.reduceLT, Nat.reduceLeDiff, reduceCtorEq, Nat.reduceEqDiff, Int.reduceToNat]
        repeat (first | with_reducible refine lwp_seq ?_ | with_reducible refine lwp_block ?_ | with_reducible refine lwp_skip ?_ | with_reducible refine seqQ_normal ?_ | with_reducible refine blockQ_normal ?_ | with_reducible refine lwp_ops ?_ | (refine lops_go1 rfl (by simp only [Tm.fits_v, go_sem, reduceIte, Nat.reduceAdd, Nat.reduceSub, Nat.reduceLT, Nat.reduceLeDiff, reduceCtorEq, Nat.reduceEqDiff, Int.reduceToNat]; try omega) ?_; simp only [Tm.fits_v, go_sem, reduceIte, Nat.reduceAdd, Nat.reduceSub, Nat.reduceLT, Nat.reduceLeDiff, reduceCtorEq, Nat.reduceEqDiff, Int.reduceToNat]) | (with_reducible refine lops_done ?_))
        refine lops_pure (reaches_pure o (ofGo [] (S.take i)) S[i] _ hlen) rfl (has_refl _) ?_
        simp only [go_sem, reduceIte, Nat.reduceAdd, Nat.reduceSub, Nat.reduceLT, Nat.reduceLeDiff, reduceCtorEq, Nat.reduceEqDiff, Int.reduceToNat]
        repeat (first | with_reducible refine lwp_seq ?_ | with_reducible refine lwp_block ?_ | with_reducible refine lwp_skip ?_ | with_reducible refine seqQ_normal ?_ | with_reducible refine blockQ_normal ?_ | with_reducible refine lwp_ops ?_ | (refine lops_go1 rfl (by simp only [ go_sem, reduceIte, Nat.reduceAdd, Nat.reduceSub, Nat.reduceLT, Nat.reduceLeDiff, reduceCtorEq, Nat.reduceEqDiff, Int.reduceToNat]; try omega) ?_; simp only [ go_sem, reduceIte, Nat.reduceAdd, Nat.reduceSub, Nat.reduceLT, Nat.reduceLeDiff, reduceCtorEq, Nat.reduceEqDiff, Int.reduceToNat]) | (with_reducible refine lops_done ?_))
        exact rfl
      simp only [go_sem, reduceIte, Nat.reduceAdd, Nat.reduceSub, Nat.reduceLT, Nat.reduceLeDiff, reduceCtorEq, Nat.reduceEqDiff, Int.reduceToNat]
      repeat (first | with_reducible refine lwp_seq ?_ | with_reducible refine lwp_block ?_ | with_reducible refine lwp_skip ?_ | with_reducible refine seqQ_normal ?_ | with_reducible refine blockQ_normal ?_ | with_reducible refine lwp_ops ?_ | (refine lops_go1 rfl (by simp only [ go_sem, reduceIte, Nat.reduceAdd, Nat.reduceSub, Nat.reduceLT, Nat.reduceLeDiff, reduceCtorEq, Nat.reduceEqDiff, Int.reduceToNat]; try omega) ?_; simp only [ go_sem, reduceIte, Nat.reduceAdd, Nat.reduceSub, Nat.reduceLT, Nat.reduceLeDiff, reduceCtorEq, Nat.reduceEqDiff, Int.reduceToNat]) | (with_reducible refine lops_done ?_))
      refine lwp_cond _ rfl (fun hc => ?_) (fun hc => ?_)
      · have hnew : ofGo [] (S.take (i + 1)) = ofGo [] (S.take i) ++ [S[i]] := by
          rw [htk, ofGo_snoc, if_pos]
          revert hc
          cases S[i].ok <;> simp
        rcases hown with ⟨rfl, hemp⟩ | ⟨id, hid, rfl, htip, hne⟩
        · rw [hemp] at hnew ⊢
          repeat (first | with_reducible refine lwp_seq ?_ | with_reducible refine lwp_block ?_ | with_reducible refine lwp_skip ?_ | with_reducible refine seqQ_normal ?_ | with_reducible refine blockQ_normal ?_ | with_reducible refine lwp_ops ?_ | (refine lops_go1 rfl (by simp only [tms, Tm.fits_v, selems, List.map_nil, go_sem, reduceIte, Nat.reduceAdd, Nat.reduceSub, Nat.reduceLT, Nat.reduceLeDiff, reduceCtorEq, Nat.reduceEqDiff, Int.reduceToNat]; try omega) ?_; simp only [tms, Tm.fits_v, selems, List.map_nil, go_sem, reduceIte, Nat.reduceAdd, Nat.reduceSub, Nat.reduceLT, Nat.reduceLeDiff, reduceCtorEq, Nat.reduceEqDiff, Int.reduceToNat]) | (with_reducible refine lops_done ?_))
          rw [wrap_in (by omega) (by omega)]
          refine roundM_normal (i + 1, .tok (nx1 + 3)) (by simp only; omega) ((hC _ _ _ _).2 ⟨by omega, ?_, by omega, ?_, .inr ⟨nx1 + 3, by omega, rfl, ?_, by rw [hnew]; simp⟩⟩) ?_
          · repeat (first | exact hle | refine le_set ?_ (DomB.none hd (by omega)) _ | refine le_del ?_ (DomB.none hd (by omega)))
          · repeat (first | exact DomB.up hdm (by omega) | refine DomB.set2 ?_ (by omega) _ | refine DomB.del ?_)
          · simp only [go_sem, reduceIte, Nat.reduceAdd, Nat.reduceSub, Nat.reduceLT, Nat.reduceLeDiff, reduceCtorEq, Nat.reduceEqDiff, Int.reduceToNat]
          · simp only [WkL, mkFrom, Int.natCast_add, Int.natCast_one, Int.natCast_zero, tms, hnew, List.map_nil, go_sem, reduceIte, Nat.reduceAdd, Nat.reduceSub, Nat.reduceLT, Nat.reduceLeDiff, reduceCtorEq, Nat.reduceEqDiff, Int.reduceToNat]
        · have hlt2 := hdm _ _ htip
          have f1 : (id = nx1) = False := by simp; omega
          have f2 : (id = nx1 + 2) = False := by simp; omega
          have hb1 : ((ofGo [] (S.take i)).length + 1) * 16 ≤ 140737488355328 := by omega
          repeat (first | with_reducible refine lwp_seq ?_ | with_reducible refine lwp_block ?_ | with_reducible refine lwp_skip ?_ | with_reducible refine seqQ_normal ?_ | with_reducible refine blockQ_normal ?_ | with_reducible refine lwp_ops ?_ | (refine lops_go1 rfl (by simp only [tms, Tm.fits_v, selems, List.length_map, hb1, f1, f2, htip, go_sem, reduceIte, Nat.reduceAdd, Nat.reduceSub, Nat.reduceLT, Nat.reduceLeDiff, reduceCtorEq, Nat.reduceEqDiff, Int.reduceToNat]; try omega) ?_; simp only [tms, Tm.fits_v, selems, List.length_map, hb1, f1, f2, htip, go_sem, reduceIte, Nat.reduceAdd, Nat.reduceSub, Nat.reduceLT, Nat.reduceLeDiff, reduceCtorEq, Nat.reduceEqDiff, Int.reduceToNat]) | (with_reducible refine lops_done ?_))
          rw [wrap_in (by omega) (by omega)]
          refine roundM_normal (i + 1, .tok (nx1 + 3)) (by simp only; omega) ((hC _ _ _ _).2 ⟨by omega, ?_, by omega, ?_, .inr ⟨nx1 + 3, by omega, rfl, ?_, by rw [hnew]; simp⟩⟩) ?_
          · repeat (first | exact hle | refine le_set ?_ (DomB.none hd (by omega)) _ | refine le_del ?_ (DomB.none hd (by omega)))
          · repeat (first | exact DomB.up hdm (by omega) | refine DomB.set2 ?_ (by omega) _ | refine DomB.del ?_)
          · simp only [go_sem, reduceIte, Nat.reduceAdd, Nat.reduceSub, Nat.reduceLT, Nat.reduceLeDiff, reduceCtorEq, Nat.reduceEqDiff, Int.reduceToNat]
          · simp only [WkL, mkFrom, Int.natCast_add, Int.natCast_one, Int.natCast_zero, tms, hnew, List.map_append, List.map_cons, List.map_nil, go_sem, reduceIte, Nat.reduceAdd, Nat.reduceSub, Nat.reduceLT, Nat.reduceLeDiff, reduceCtorEq, Nat.reduceEqDiff, Int.reduceToNat]
      · have hnew : ofGo [] (S.take (i + 1)) = ofGo [] (S.take i) := by
          rw [htk, ofGo_snoc, if_neg]
          revert hc
          cases S[i].ok <;> simp
        repeat (first | with_reducible refine lwp_seq ?_ | with_reducible refine lwp_block ?_ | with_reducible refine lwp_skip ?_ | with_reducible refine seqQ_normal ?_ | with_reducible refine blockQ_normal ?_ | with_reducible refine lwp_ops ?_ | (refine lops_go1 rfl (by simp only [ go_sem, reduceIte, Nat.reduceAdd, Nat.reduceSub, Nat.reduceLT, Nat.reduceLeDiff, reduceCtorEq, Nat.reduceEqDiff, Int.reduceToNat]; try omega) ?_; simp only [ go_sem, reduceIte, Nat.reduceAdd, Nat.reduceSub, Nat.reduceLT, Nat.reduceLeDiff, reduceCtorEq, Nat.reduceEqDiff, Int.reduceToNat]) | (with_reducible refine lops_done ?_))
        rw [wrap_in (by omega) (by omega)]
        refine roundM_normal (i + 1, o) (by simp only; omega) ((hC _ _ _ _).2 ⟨by omega, ?_, by omega, ?_, ?_⟩) ?_
        · repeat (first | exact hle | refine le_set ?_ (DomB.none hd (by omega)) _ | refine le_del ?_ (DomB.none hd (by omega)))
        · repeat (first | exact DomB.up hdm (by omega) | refine DomB.set2 ?_ (by omega) _ | refine DomB.del ?_)
        · rw [hnew]
          rcases hown with h1 | ⟨id, hid, h1, htip, hne⟩
          · exact .inl h1
          · have hlt2 := hdm _ _ htip
            have f1 : (id = nx1) = False := by simp; omega
            exact .inr ⟨id, hid, h1, by simp only [htip, f1, go_sem, reduceIte, Nat.reduceAdd, Nat.reduceSub, Nat.reduceLT, Nat.reduceLeDiff, reduceCtorEq, Nat.reduceEqDiff, Int.reduceToNat], hne⟩
        · simp only [WkL, mkFrom, Int.natCast_add, Int.natCast_one, Int.natCast_zero, tms, hnew, go_sem, reduceIte, Nat.reduceAdd, Nat.reduceSub, Nat.reduceLT, Nat.reduceLeDiff, reduceCtorEq, Nat.reduceEqDiff, Int.reduceToNat]
    · have hge : i = S.length := by have : ¬ i < S.length := by simpa using hc
                                    omega
      refine lwp_exit ?_
      repeat (first | with_reducible refine seqQ_exit ?_ | with_reducible refine roundQ_exit ?_ | with_reducible refine roundM_exit ?_ | with_reducible refine blockQ_other (by decide) ?_ | with_reducible refine blockQ_exit ?_ | with_reducible refine seqQ_normal ?_)
      repeat (first | with_reducible refine lwp_seq ?_ | with_reducible refine lwp_block ?_ | with_reducible refine lwp_skip ?_ | with_reducible refine seqQ_normal ?_ | with_reducible refine blockQ_normal ?_ | with_reducible refine lwp_ops ?_ | (refine lops_go1 rfl (by simp only [ go_sem, reduceIte, Nat.reduceAdd, Nat.reduceSub, Nat.reduceLT, Nat.reduceLeDiff, reduceCtorEq, Nat.reduceEqDiff, Int.reduceToNat]; try omega) ?_; simp only [ go_sem, reduceIte, Nat.reduceAdd, Nat.reduceSub, Nat.reduceLT, Nat.reduceLeDiff, reduceCtorEq, Nat.reduceEqDiff, Int.reduceToNat]) | (with_reducible refine lops_done ?_))
      refine lwp_ret (ret_slot hp (Hp.le_refl _) ⟨?_, hle⟩)
      simp only [go_sem, reduceIte, Nat.reduceAdd, Nat.reduceSub, Nat.reduceLT, Nat.reduceLeDiff, reduceCtorEq, Nat.reduceEqDiff, Int.reduceToNat]
      rw [hge, List.take_length] at hown ⊢
      rw [hS, show ofGo [] (sortOf cmpT l) = ofT l from rfl] at hown ⊢
      rcases hown with ⟨rfl, h1⟩ | ⟨id, hid, rfl, htip, hne⟩
      · rw [h1]; rfl
      · generalize ofT l = r at hne ⊢
        cases r with
        | nil => exact absurd rfl hne
        | cons x r => rfl

/-! ### The law's fixed fact -/
theorem at1_pure (a b : Int) (h : Hp) : Pure Try.prog 27 [.int .i64 a, .int .i64 b] h (Tm.v ⟨a, b⟩) := by
  refine pure_of (fun L => Tm.names_v L _) fun h' nx hh => acalls_walk L.corollarylaw21_alive_1_low fun hd => ?_
  simp only [List.length_cons, List.length_nil, Nat.reduceAdd, Nat.reduceSub, List.replicate_succ, List.replicate_zero, List.cons_append, List.nil_append, V.undef]
  repeat (first | with_reducible refine lwp_seq ?_ | with_reducible refine lwp_block ?_ | with_reducible refine lwp_skip ?_ | with_reducible refine seqQ_normal ?_ | with_reducible refine blockQ_normal ?_ | with_reducible refine lwp_ops ?_ | (refine lops_go1 rfl (by simp only [ go_sem, reduceIte, Nat.reduceAdd, Nat.reduceSub, Nat.reduceLT, Nat.reduceLeDiff, reduceCtorEq, Nat.reduceEqDiff, Int.reduceToNat]; try omega) ?_; simp only [ go_sem, reduceIte, Nat.reduceAdd, Nat.reduceSub, Nat.reduceLT, Nat.reduceLeDiff, reduceCtorEq, Nat.reduceEqDiff, Int.reduceToNat]) | (with_reducible refine lops_done ?_))
  refine lwp_ret (ret_cell (by simp only [go_sem, reduceIte, Nat.reduceAdd, Nat.reduceSub, Nat.reduceLT, Nat.reduceLeDiff, reduceCtorEq, Nat.reduceEqDiff, Int.reduceToNat]) h' (by repeat (first | exact Hp.le_refl _ | refine le_of_fresh hd ?_ (by omega) _ | refine le_of_freshd hd ?_ (by omega))) ⟨?_, rfl⟩)
  simp only [Tm.v, go_sem, reduceIte, Nat.reduceAdd, Nat.reduceSub, Nat.reduceLT, Nat.reduceLeDiff, reduceCtorEq, Nat.reduceEqDiff, Int.reduceToNat]

theorem alive_pure (h : Hp) : Pure Try.prog 7 [] h (.bool true) := by
  refine pure_of (fun L => trivial) fun h' nx hh => acalls_walk L.corollarylaw21_alive_low fun hd => ?_
  simp only [List.length_cons, List.length_nil, Nat.reduceAdd, Nat.reduceSub, List.replicate_succ, List.replicate_zero, List.cons_append, List.nil_append, V.undef]
  have hof : ofT [⟨2, 3⟩, ⟨2, 1⟩, ⟨1, 3⟩] = [⟨1, 3⟩, ⟨2, 1⟩] := by
    have hs : sortOf cmpT [⟨2, 3⟩, ⟨2, 1⟩, ⟨1, 3⟩] = [⟨1, 3⟩, ⟨2, 1⟩, ⟨2, 3⟩] := sorted_unique tot_cmpT _ _ ((sortOf_perm _ _).trans (by decide)) (sortOf_sorted swo_cmpT _) (by unfold SortedBy; decide)
    unfold ofT
    rw [hs]
    decide
  repeat (first | with_reducible refine lwp_seq ?_ | with_reducible refine lwp_block ?_ | with_reducible refine lwp_skip ?_ | with_reducible refine seqQ_normal ?_ | with_reducible refine blockQ_normal ?_ | with_reducible refine lwp_ops ?_ | (refine lops_go1 rfl (by simp only [ go_sem, reduceIte, Nat.reduceAdd, Nat.reduceSub, Nat.reduceLT, Nat.reduceLeDiff, reduceCtorEq, Nat.reduceEqDiff, Int.reduceToNat]; try omega) ?_; simp only [ go_sem, reduceIte, Nat.reduceAdd, Nat.reduceSub, Nat.reduceLT, Nat.reduceLeDiff, reduceCtorEq, Nat.reduceEqDiff, Int.reduceToNat]) | (with_reducible refine lops_done ?_))
  refine lops_purev rfl (at1_pure 2 3 h') rfl (has_refl _) ?_
  simp only [go_sem, reduceIte, Nat.reduceAdd, Nat.reduceSub, Nat.reduceLT, Nat.reduceLeDiff, reduceCtorEq, Nat.reduceEqDiff, Int.reduceToNat]
  repeat (first | with_reducible refine lwp_seq ?_ | with_reducible refine lwp_block ?_ | with_reducible refine lwp_skip ?_ | with_reducible refine seqQ_normal ?_ | with_reducible refine blockQ_normal ?_ | with_reducible refine lwp_ops ?_ | (refine lops_go1 rfl (by simp only [ go_sem, reduceIte, Nat.reduceAdd, Nat.reduceSub, Nat.reduceLT, Nat.reduceLeDiff, reduceCtorEq, Nat.reduceEqDiff, Int.reduceToNat]; try omega) ?_; simp only [ go_sem, reduceIte, Nat.reduceAdd, Nat.reduceSub, Nat.reduceLT, Nat.reduceLeDiff, reduceCtorEq, Nat.reduceEqDiff, Int.reduceToNat]) | (with_reducible refine lops_done ?_))
  refine lops_purev rfl (at1_pure 2 1 h') rfl (has_refl _) ?_
  simp only [go_sem, reduceIte, Nat.reduceAdd, Nat.reduceSub, Nat.reduceLT, Nat.reduceLeDiff, reduceCtorEq, Nat.reduceEqDiff, Int.reduceToNat]
  repeat (first | with_reducible refine lwp_seq ?_ | with_reducible refine lwp_block ?_ | with_reducible refine lwp_skip ?_ | with_reducible refine seqQ_normal ?_ | with_reducible refine blockQ_normal ?_ | with_reducible refine lwp_ops ?_ | (refine lops_go1 rfl (by simp only [ go_sem, reduceIte, Nat.reduceAdd, Nat.reduceSub, Nat.reduceLT, Nat.reduceLeDiff, reduceCtorEq, Nat.reduceEqDiff, Int.reduceToNat]; try omega) ?_; simp only [ go_sem, reduceIte, Nat.reduceAdd, Nat.reduceSub, Nat.reduceLT, Nat.reduceLeDiff, reduceCtorEq, Nat.reduceEqDiff, Int.reduceToNat]) | (with_reducible refine lops_done ?_))
  refine lops_purev rfl (at1_pure 1 3 h') rfl (has_refl _) ?_
  simp only [go_sem, reduceIte, Nat.reduceAdd, Nat.reduceSub, Nat.reduceLT, Nat.reduceLeDiff, reduceCtorEq, Nat.reduceEqDiff, Int.reduceToNat]
  repeat (first | with_reducible refine lwp_seq ?_ | with_reducible refine lwp_block ?_ | with_reducible refine lwp_skip ?_ | with_reducible refine seqQ_normal ?_ | with_reducible refine blockQ_normal ?_ | with_reducible refine lwp_ops ?_ | (refine lops_go1 rfl (by simp only [Tm.fits_v, go_sem, reduceIte, Nat.reduceAdd, Nat.reduceSub, Nat.reduceLT, Nat.reduceLeDiff, reduceCtorEq, Nat.reduceEqDiff, Int.reduceToNat]; try omega) ?_; simp only [Tm.fits_v, go_sem, reduceIte, Nat.reduceAdd, Nat.reduceSub, Nat.reduceLT, Nat.reduceLeDiff, reduceCtorEq, Nat.reduceEqDiff, Int.reduceToNat]) | (with_reducible refine lops_done ?_))
  refine lops_pure (chainOf_pure _ [⟨2, 3⟩, ⟨2, 1⟩, ⟨1, 3⟩] (by simp) _) rfl (has_refl _) ?_
  simp only [hof, List.map_cons, List.map_nil, lst_cons, go_sem, reduceIte, Nat.reduceAdd, Nat.reduceSub, Nat.reduceLT, Nat.reduceLeDiff, reduceCtorEq, Nat.reduceEqDiff, Int.reduceToNat]
  repeat (first | with_reducible refine lwp_seq ?_ | with_reducible refine lwp_block ?_ | with_reducible refine lwp_skip ?_ | with_reducible refine seqQ_normal ?_ | with_reducible refine blockQ_normal ?_ | with_reducible refine lwp_ops ?_ | (refine lops_go1 rfl (by simp only [ go_sem, reduceIte, Nat.reduceAdd, Nat.reduceSub, Nat.reduceLT, Nat.reduceLeDiff, reduceCtorEq, Nat.reduceEqDiff, Int.reduceToNat]; try omega) ?_; simp only [ go_sem, reduceIte, Nat.reduceAdd, Nat.reduceSub, Nat.reduceLT, Nat.reduceLeDiff, reduceCtorEq, Nat.reduceEqDiff, Int.reduceToNat]) | (with_reducible refine lops_done ?_))
  refine lwp_draw rfl ?_
  have e2 : (((2 : Nat) : Int) == 2) = true := rfl
  refine dops_goC (by simp only [e2, Tm.v, Int.toNat_one, go_sem, reduceIte, Nat.reduceAdd, Nat.reduceSub, Nat.reduceLT, Nat.reduceLeDiff, reduceCtorEq, Nat.reduceEqDiff, Int.reduceToNat]; try omega) ?_
  simp only [e2, Tm.v, Int.toNat_one, go_sem, reduceIte, Nat.reduceAdd, Nat.reduceSub, Nat.reduceLT, Nat.reduceLeDiff, reduceCtorEq, Nat.reduceEqDiff, Int.reduceToNat]
  refine dops_guard rfl (fun _ => ?_) (fun h => absurd rfl h)
  refine dops_purev rfl (at1_pure 1 3 Hp.none) rfl (none_has _) ?_
  refine dops_goC (by simp only [e2, Tm.v, Int.toNat_one, beq_self_eq_true, if_true, Bool.and_self, go_sem, reduceIte, Nat.reduceAdd, Nat.reduceSub, Nat.reduceLT, Nat.reduceLeDiff, reduceCtorEq, Nat.reduceEqDiff, Int.reduceToNat]; try omega) ?_
  simp only [e2, Tm.v, Int.toNat_one, beq_self_eq_true, if_true, Bool.and_self, go_sem, reduceIte, Nat.reduceAdd, Nat.reduceSub, Nat.reduceLT, Nat.reduceLeDiff, reduceCtorEq, Nat.reduceEqDiff, Int.reduceToNat]
  refine dops_guard rfl (fun _ => ?_) (fun h => absurd rfl h)
  refine dops_purev rfl (at1_pure 2 1 Hp.none) rfl (none_has _) ?_
  refine dops_goC (by simp only [e2, Tm.v, Int.toNat_one, beq_self_eq_true, if_true, Bool.and_self, go_sem, reduceIte, Nat.reduceAdd, Nat.reduceSub, Nat.reduceLT, Nat.reduceLeDiff, reduceCtorEq, Nat.reduceEqDiff, Int.reduceToNat]; try omega) ?_
  simp only [e2, Tm.v, Int.toNat_one, beq_self_eq_true, if_true, Bool.and_self, go_sem, reduceIte, Nat.reduceAdd, Nat.reduceSub, Nat.reduceLT, Nat.reduceLeDiff, reduceCtorEq, Nat.reduceEqDiff, Int.reduceToNat]
  refine dops_nil (drawQ_nil ?_)
  simp only [go_sem, reduceIte, Nat.reduceAdd, Nat.reduceSub, Nat.reduceLT, Nat.reduceLeDiff, reduceCtorEq, Nat.reduceEqDiff, Int.reduceToNat]
  refine seqQ_normal (lwp_ret (ret_slot h' ?_ ⟨rfl, rfl⟩))
  exact (by repeat (first | exact Hp.le_refl _ | refine le_of_fresh hd ?_ (by omega) _ | refine le_of_freshd hd ?_ (by omega)))

end Go.Proofs.Ythcedfamidlbdaa
