/-
Contracts: the document's antichain of times. No conditions.
-/
import Derived.Test.YthcedfamidlbdaaP21
namespace Go.Proofs.Ythcedfamidlbdaa
set_option linter.unusedSimpArgs false
set_option linter.unusedVariables false
set_option linter.unusedSectionVars false
open Go.RowKit
attribute [local go_sem] Option.some.injEq Prod.mk.injEq false_and and_false Bool.true_eq_false dRun dRest dbare dMerge nones if_true Bool.true_and dgoC dgoCRest fillV okAll nextAll LOper.ok LOper.next LOp.ok LOp.next LVal.ok LVal.out LArg.ev putV binOK pick_true pick_false pick_bool V.undef Sh.size addHp dokAll dnextAll LOper.dok LOper.dres LOp.dok LOp.dout dput conOK veqL leafEq List.take_succ_cons List.take_zero List.take_nil List.drop_succ_cons List.drop_zero List.drop_nil List.set_cons_succ List.set_cons_zero List.getD_cons_succ List.getD_cons_zero List.length_cons List.length_nil List.map_cons List.map_nil List.all_cons List.all_nil List.mem_cons List.not_mem_nil List.replicate_succ List.replicate_zero List.cons_append List.nil_append List.append_nil List.isEmpty_cons List.isEmpty_nil appOwn appHp appOK Option.getD_some Option.isSome_some Nat.add_eq Nat.zero_add Nat.add_zero true_and and_true and_self true_implies implies_true false_implies forall_const forall_eq forall_eq_or_imp ne_eq not_false_eq_true not_true_eq_false Bool.not_true Bool.not_false decide_true decide_false Bool.and_true Bool.true_and Bool.and_false Bool.false_and true_or or_true false_or or_false eq_self Bool.false_eq_true nxNe nxNe' tupOf mkFrom bval ogive cutOwn cutE_nil cutE_full cutE_tok cutE_free_nil cutE_free_cons selems Int.toNat_natCast Int.toNat_zero List.take_length Hp.set_app Hp.del_app goOps goRest LOper.plain LOp.isCall LOper.dplain LOp.isStop lops_nil gRun gRest bare gMerge V.gd_true V.gd_false pick_gd pick_gdn pick_and pick_or partOK_self loadPart_self storePart_self dgoOps dgoRest beq_true beq_false partOK_ll partOK_al partOK_aa loadPart_l loadPart_a storePart_la storePart_aa fits_leaf fits_agg leafy_bool leafy_int leafy_str leafy_nilPtr leafy_ptr leafy_ept leafy_sl leafy_rs leafy_nilMap leafy_map leafy_nilChan leafy_chan leafy_fn leafy_nilFn leafy_yld leafy_iface leafy_nilIface veq_aa veq_li veq_lb veq_ls cells_agg cells_leaf cell_agg cell_leaf veq_ptr1 veq_ptr2 veq_ptr3 veq_ptr4 veq_ptr5 veq_slice1 veq_slice2 veq_func1 veq_func2 veq_func3 veq_iface1 veq_iface2 veq_iface3 veq_map1 veq_map2 veq_map3 veq_chan1 veq_chan2 veq_chan3 conAt_add conAt_zero untaken wrHp Hp.turn delHp Option.isNone_some Option.isNone_none

/-- Is t kept, as far as the first k ones go? -/
def keepTo (l : List Tm) (i : Nat) (t : Tm) (k : Nat) : Bool := t.ok && !((List.range k).any fun k => match l[k]? with | some y => y.ok && y.le t && (decide (y ≠ t) || decide (k < i)) | none => false)
theorem keepTo_succ (l : List Tm) (i : Nat) (t : Tm) (k : Nat) (hk : k < l.length) : keepTo l i t (k + 1) = (keepTo l i t k && !(l[k].ok && l[k].le t && (decide (l[k] ≠ t) || decide (k < i)))) := by
  unfold keepTo
  rw [List.range_succ, List.any_append]
  simp only [List.any_cons, List.any_nil, Bool.or_false, List.getElem?_eq_getElem hk]
  cases t.ok <;> cases ((List.range k).any fun k => match l[k]? with | some y => y.ok && y.le t && (decide (y ≠ t) || decide (k < i)) | none => false) <;> simp
theorem veq_tm (a b : Tm) : veq (.plain (.agg 2) [.int, .int]) a.v b.v = some (decide (a = b)) := by
  have h1 : ((a.v).fits (.agg 2) && (b.v).fits (.agg 2)) = true := by rw [a.fits_v, b.fits_v]; rfl
  have h2 : decide (a = b) = (a.e == b.e && a.r == b.r) := by
    cases a; cases b
    rw [Bool.eq_iff_iff]
    simp
  rw [h2]
  simp only [veq, h1, if_true]
  simp [Tm.v, V.cells, veqL, leafEq]
theorem while_at {α : Type} (p : α → Bool) (l : List α) (n : Nat) (hn : n ≤ l.length) (h1 : ∀ x ∈ l.take n, p x = true) (h2 : ∀ (h : n < l.length), p l[n] = false) : l.takeWhile p = l.take n ∧ l.dropWhile p = l.drop n := by
  induction l generalizing n with
  | nil => simp at hn; subst hn; simp
  | cons a l ih =>
    cases n with
    | zero =>
      have := h2 (by simp)
      simp only [List.getElem_cons_zero] at this
      simp [List.takeWhile_cons, List.dropWhile_cons, this]
    | succ n =>
      have ha := h1 a (by simp)
      obtain ⟨q1, q2⟩ := ih n (by simpa using hn) (fun x hx => h1 x (by simp [hx])) (fun h => h2 (by simpa using h))
      simp [List.takeWhile_cons, List.dropWhile_cons, ha, q1, q2]
theorem refTo_len (l : List Tm) : ∀ i, (refTo l i).length ≤ i
  | 0 => by simp [refTo]
  | i + 1 => by
    have := refTo_len l i
    unfold refTo
    split
    · split
      · unfold insT
        have e : ∀ t : Tm, ((refTo l i).takeWhile (·.less t)).length + ((refTo l i).dropWhile (·.less t)).length = (refTo l i).length := fun t => by rw [← List.length_append, List.takeWhile_append_dropWhile]
        rename_i t _ _
        have := e t
        simp only [List.length_append, List.length_cons]
        omega
      · omega
    · omega

set_option maxHeartbeats 4000000 in
theorem rof_pure (own : Own) (l : List Tm) (hl : l.length ≤ 1000000) (h : Hp) : Pure Try.prog 14 [tms own l] h (lst (.agg 2) ((refTo l l.length).map Tm.v)) := by
  refine pure_of_loose (fun L => lst_names (fun L => namesL_map (Tm.names_v L) _) L) fun h' nx hh => acalls_walk L.corollaryref21_Of_low fun hd => ?_
  simp only [List.length_cons, List.length_nil, Nat.reduceAdd, Nat.reduceSub, List.replicate_succ, List.replicate_zero, List.cons_append, List.nil_append, V.undef]
  repeat (first | with_reducible refine lwp_seq ?_ | with_reducible refine lwp_block ?_ | with_reducible refine lwp_skip ?_ | with_reducible refine seqQ_normal ?_ | with_reducible refine blockQ_normal ?_ | with_reducible refine lwp_ops ?_ | (refine lops_go1 rfl (by simp only [ go_sem, reduceIte, Nat.reduceAdd, Nat.reduceSub, Nat.reduceLT, Nat.reduceLeDiff, reduceCtorEq, Nat.reduceEqDiff, Int.reduceToNat]; try omega) ?_; simp only [ go_sem, reduceIte, Nat.reduceAdd, Nat.reduceSub, Nat.reduceLT, Nat.reduceLeDiff, reduceCtorEq, Nat.reduceEqDiff, Int.reduceToNat]) | (with_reducible refine lops_done ?_))
  obtain ⟨C, hC⟩ : ∃ C : Nat × Own → Hp → Nat → Prop, ∀ i o hp nx1, C (i, o) hp nx1 ↔ (i ≤ l.length ∧ h'.le hp ∧ nx ≤ nx1 ∧ DomB hp nx1 ∧ ((o = .nil ∧ refTo l i = []) ∨ ∃ id, nx ≤ id ∧ o = .tok id ∧ hp id = some .tip ∧ refTo l i ≠ [])) := ⟨fun p hp nx1 => (p.1 ≤ l.length ∧ h'.le hp ∧ nx ≤ nx1 ∧ DomB hp nx1 ∧ ((p.2 = .nil ∧ refTo l p.1 = []) ∨ ∃ id, nx ≤ id ∧ p.2 = .tok id ∧ hp id = some .tip ∧ refTo l p.1 ≠ [])), fun _ _ _ _ => Iff.rfl⟩
  refine lwp_loopM (fun p => mkFrom 92 0 [(0, tms own l), (3, tms p.2 (refTo l p.1)), (4, .int .i64 p.1)]) C (fun p => l.length - p.1) (0, .nil) ((hC _ _ _ _).2 ⟨Nat.zero_le _, Hp.le_refl _, Nat.le_refl _, hd, .inl ⟨rfl, rfl⟩⟩) ?_ ?_
  · simp only [WkL, mkFrom, Int.natCast_add, Int.natCast_one, Int.natCast_zero, refTo, tms, go_sem, reduceIte, Nat.reduceAdd, Nat.reduceSub, Nat.reduceLT, Nat.reduceLeDiff, reduceCtorEq, Nat.reduceEqDiff, Int.reduceToNat]
  · rintro ⟨i, o⟩ hp nx1 hCi
    obtain ⟨hi, hle, hnx, hdm, hown⟩ := (hC _ _ _ _).1 hCi
    simp only [mkFrom, go_sem, reduceIte, Nat.reduceAdd, Nat.reduceSub, Nat.reduceLT, Nat.reduceLeDiff, reduceCtorEq, Nat.reduceEqDiff, Int.reduceToNat]
    repeat (first | with_reducible refine lwp_seq ?_ | with_reducible refine lwp_block ?_ | with_reducible refine lwp_skip ?_ | with_reducible refine seqQ_normal ?_ | with_reducible refine blockQ_normal ?_ | with_reducible refine lwp_ops ?_ | (refine lops_go1 rfl (by simp only [tms, List.length_map, go_sem, reduceIte, Nat.reduceAdd, Nat.reduceSub, Nat.reduceLT, Nat.reduceLeDiff, reduceCtorEq, Nat.reduceEqDiff, Int.reduceToNat]; try omega) ?_; simp only [tms, List.length_map, go_sem, reduceIte, Nat.reduceAdd, Nat.reduceSub, Nat.reduceLT, Nat.reduceLeDiff, reduceCtorEq, Nat.reduceEqDiff, Int.reduceToNat]) | (with_reducible refine lops_done ?_))
    refine lwp_cond _ rfl (fun hc => ?_) (fun hc => ?_)
    · have hlt : i < l.length := by simpa using hc
      have hg := getD_map' Tm.v l i hlt
      repeat (first | with_reducible refine lwp_seq ?_ | with_reducible refine lwp_block ?_ | with_reducible refine lwp_skip ?_ | with_reducible refine seqQ_normal ?_ | with_reducible refine blockQ_normal ?_ | with_reducible refine lwp_ops ?_ | (refine lops_go1 rfl (by simp only [tms, hg, List.length_map, Int.toNat_natCast, Tm.fits_v, go_sem, reduceIte, Nat.reduceAdd, Nat.reduceSub, Nat.reduceLT, Nat.reduceLeDiff, reduceCtorEq, Nat.reduceEqDiff, Int.reduceToNat]; try omega) ?_; simp only [tms, hg, List.length_map, Int.toNat_natCast, Tm.fits_v, go_sem, reduceIte, Nat.reduceAdd, Nat.reduceSub, Nat.reduceLT, Nat.reduceLeDiff, reduceCtorEq, Nat.reduceEqDiff, Int.reduceToNat]) | (with_reducible refine lops_done ?_))
      refine lops_pure (rright_pure l[i] _) rfl (has_refl _) ?_
      simp only [ go_sem, reduceIte, Nat.reduceAdd, Nat.reduceSub, Nat.reduceLT, Nat.reduceLeDiff, reduceCtorEq, Nat.reduceEqDiff, Int.reduceToNat]
      repeat (first | with_reducible refine lwp_seq ?_ | with_reducible refine lwp_block ?_ | with_reducible refine lwp_skip ?_ | with_reducible refine seqQ_normal ?_ | with_reducible refine blockQ_normal ?_ | with_reducible refine lwp_ops ?_ | (refine lops_go1 rfl (by simp only [ go_sem, reduceIte, Nat.reduceAdd, Nat.reduceSub, Nat.reduceLT, Nat.reduceLeDiff, reduceCtorEq, Nat.reduceEqDiff, Int.reduceToNat]; try omega) ?_; simp only [ go_sem, reduceIte, Nat.reduceAdd, Nat.reduceSub, Nat.reduceLT, Nat.reduceLeDiff, reduceCtorEq, Nat.reduceEqDiff, Int.reduceToNat]) | (with_reducible refine lops_done ?_))
      have hsucc : refTo l (i + 1) = if keepR l i l[i] = true then insT (refTo l i) l[i] else refTo l i := by
        conv => lhs; unfold refTo
        rw [List.getElem?_eq_getElem hlt]
      -- the inner loop
      refine lwp_loopM (fun k : Nat => mkFrom 92 0 [(0, tms own l), (3, tms o (refTo l i)), (4, .int .i64 i), (5, .bool (keepTo l i l[i] k)), (6, .int .i64 k)]) (fun k h2 nx2 => k ≤ l.length ∧ h2 = hp ∧ nx1 ≤ nx2) (fun k => l.length - k) 0 ⟨Nat.zero_le _, rfl, Nat.le_refl _⟩ ?_ ?_
      · simp only [WkL, mkFrom, Int.natCast_add, Int.natCast_one, Int.natCast_zero, tms, keepTo, List.range_zero, List.any_nil, go_sem, reduceIte, Nat.reduceAdd, Nat.reduceSub, Nat.reduceLT, Nat.reduceLeDiff, reduceCtorEq, Nat.reduceEqDiff, Int.reduceToNat]
      · rintro k h2 nx2 ⟨hk, rfl, hnx2⟩
        generalize hQ : roundM _ _ _ _ _ = Q0
        simp only [mkFrom, go_sem, reduceIte, Nat.reduceAdd, Nat.reduceSub, Nat.reduceLT, Nat.reduceLeDiff, reduceCtorEq, Nat.reduceEqDiff, Int.reduceToNat]
        repeat (first | with_reducible refine lwp_seq ?_ | with_reducible refine lwp_block ?_ | with_reducible refine lwp_skip ?_ | with_reducible refine seqQ_normal ?_ | with_reducible refine blockQ_normal ?_ | with_reducible refine lwp_ops ?_ | (refine lops_go1 rfl (by simp only [tms, List.length_map, go_sem, reduceIte, Nat.reduceAdd, Nat.reduceSub, Nat.reduceLT, Nat.reduceLeDiff, reduceCtorEq, Nat.reduceEqDiff, Int.reduceToNat]; try omega) ?_; simp only [tms, List.length_map, go_sem, reduceIte, Nat.reduceAdd, Nat.reduceSub, Nat.reduceLT, Nat.reduceLeDiff, reduceCtorEq, Nat.reduceEqDiff, Int.reduceToNat]) | (with_reducible refine lops_done ?_))
        refine lwp_cond _ rfl (fun hc2 => ?_) (fun hc2 => ?_)
        · have hltk : k < l.length := by simpa using hc2
          have hgk := getD_map' Tm.v l k hltk
          repeat (first | with_reducible refine lwp_seq ?_ | with_reducible refine lwp_block ?_ | with_reducible refine lwp_skip ?_ | with_reducible refine seqQ_normal ?_ | with_reducible refine blockQ_normal ?_ | with_reducible refine lwp_ops ?_ | (refine lops_go1 rfl (by simp only [ go_sem, reduceIte, Nat.reduceAdd, Nat.reduceSub, Nat.reduceLT, Nat.reduceLeDiff, reduceCtorEq, Nat.reduceEqDiff, Int.reduceToNat]; try omega) ?_; simp only [ go_sem, reduceIte, Nat.reduceAdd, Nat.reduceSub, Nat.reduceLT, Nat.reduceLeDiff, reduceCtorEq, Nat.reduceEqDiff, Int.reduceToNat]) | (with_reducible refine lops_done ?_))
          refine lwp_draw rfl ?_
          refine dops_go1 rfl (by simp only [tms, hgk, List.length_map, Int.toNat_natCast, Tm.fits_v, go_sem, reduceIte, Nat.reduceAdd, Nat.reduceSub, Nat.reduceLT, Nat.reduceLeDiff, reduceCtorEq, Nat.reduceEqDiff, Int.reduceToNat]; try omega) ?_
          simp only [tms, hgk, List.length_map, Int.toNat_natCast, Tm.fits_v, go_sem, reduceIte, Nat.reduceAdd, Nat.reduceSub, Nat.reduceLT, Nat.reduceLeDiff, reduceCtorEq, Nat.reduceEqDiff, Int.reduceToNat]
          refine dops_pure (rright_pure l[k] Hp.none) rfl (none_has _) ?_
          refine dops_go1 rfl (by simp only [Tm.fits_v, go_sem, reduceIte, Nat.reduceAdd, Nat.reduceSub, Nat.reduceLT, Nat.reduceLeDiff, reduceCtorEq, Nat.reduceEqDiff, Int.reduceToNat]; try omega) ?_
          simp only [Tm.fits_v, go_sem, reduceIte, Nat.reduceAdd, Nat.reduceSub, Nat.reduceLT, Nat.reduceLeDiff, reduceCtorEq, Nat.reduceEqDiff, Int.reduceToNat]
          refine dops_gd (true) _ rfl rfl ?sla ?h1a ?h2a
          case h1a =>
            intro hgc hgd
            simp only [tms, hgk, hg, List.length_map, Int.toNat_natCast, Tm.fits_v, go_sem, reduceIte, Nat.reduceAdd, Nat.reduceSub, Nat.reduceLT, Nat.reduceLeDiff, reduceCtorEq, Nat.reduceEqDiff, Int.reduceToNat]
            refine dops_go1 rfl (by simp only [tms, hgk, hg, List.length_map, Int.toNat_natCast, Tm.fits_v, go_sem, reduceIte, Nat.reduceAdd, Nat.reduceSub, Nat.reduceLT, Nat.reduceLeDiff, reduceCtorEq, Nat.reduceEqDiff, Int.reduceToNat]; try omega) ?_
            simp only [tms, hgk, hg, List.length_map, Int.toNat_natCast, Tm.fits_v, go_sem, reduceIte, Nat.reduceAdd, Nat.reduceSub, Nat.reduceLT, Nat.reduceLeDiff, reduceCtorEq, Nat.reduceEqDiff, Int.reduceToNat]
            refine dops_pure (ratMost_pure l[k] l[i] Hp.none) rfl (none_has _) ?_
            refine dops_nil ⟨?_, ?_, ?_⟩ <;> exact rfl
          simp only [go_sem, reduceIte, Nat.reduceAdd, Nat.reduceSub, Nat.reduceLT, Nat.reduceLeDiff, reduceCtorEq, Nat.reduceEqDiff, Int.reduceToNat]
          refine dops_go1 rfl (by simp only [ go_sem, reduceIte, Nat.reduceAdd, Nat.reduceSub, Nat.reduceLT, Nat.reduceLeDiff, reduceCtorEq, Nat.reduceEqDiff, Int.reduceToNat]; try omega) ?_
          simp only [ go_sem, reduceIte, Nat.reduceAdd, Nat.reduceSub, Nat.reduceLT, Nat.reduceLeDiff, reduceCtorEq, Nat.reduceEqDiff, Int.reduceToNat]
          refine dops_gd (true) _ rfl rfl ?slb ?h1b ?h2b
          case h1b =>
            intro hgc hgd
            simp only [tms, hgk, hg, List.length_map, Int.toNat_natCast, Tm.fits_v, veq_tm, go_sem, reduceIte, Nat.reduceAdd, Nat.reduceSub, Nat.reduceLT, Nat.reduceLeDiff, reduceCtorEq, Nat.reduceEqDiff, Int.reduceToNat]
            refine dops_go1 rfl (by simp only [tms, hgk, hg, List.length_map, Int.toNat_natCast, Tm.fits_v, veq_tm, go_sem, reduceIte, Nat.reduceAdd, Nat.reduceSub, Nat.reduceLT, Nat.reduceLeDiff, reduceCtorEq, Nat.reduceEqDiff, Int.reduceToNat]; try omega) ?_
            simp only [tms, hgk, hg, List.length_map, Int.toNat_natCast, Tm.fits_v, veq_tm, go_sem, reduceIte, Nat.reduceAdd, Nat.reduceSub, Nat.reduceLT, Nat.reduceLeDiff, reduceCtorEq, Nat.reduceEqDiff, Int.reduceToNat]
            refine dops_nil ⟨?_, ?_, ?_⟩ <;> exact rfl
          simp only [go_sem, reduceIte, Nat.reduceAdd, Nat.reduceSub, Nat.reduceLT, Nat.reduceLeDiff, reduceCtorEq, Nat.reduceEqDiff, Int.reduceToNat]
          refine dops_gd (_) _ rfl rfl ?slc ?h1c ?h2c
          case h1c =>
            intro hgc hgd
            simp only [ go_sem, reduceIte, Nat.reduceAdd, Nat.reduceSub, Nat.reduceLT, Nat.reduceLeDiff, reduceCtorEq, Nat.reduceEqDiff, Int.reduceToNat]
            refine dops_go1 rfl (by simp only [ go_sem, reduceIte, Nat.reduceAdd, Nat.reduceSub, Nat.reduceLT, Nat.reduceLeDiff, reduceCtorEq, Nat.reduceEqDiff, Int.reduceToNat]; try omega) ?_
            simp only [ go_sem, reduceIte, Nat.reduceAdd, Nat.reduceSub, Nat.reduceLT, Nat.reduceLeDiff, reduceCtorEq, Nat.reduceEqDiff, Int.reduceToNat]
            refine dops_nil ⟨?_, ?_, ?_⟩ <;> exact rfl
          simp only [go_sem, reduceIte, Nat.reduceAdd, Nat.reduceSub, Nat.reduceLT, Nat.reduceLeDiff, reduceCtorEq, Nat.reduceEqDiff, Int.reduceToNat]
          refine dops_gd (true) _ rfl rfl ?sld ?h1d ?h2d
          case h1d =>
            intro hgc hgd
            simp only [hgd, go_sem, reduceIte, Nat.reduceAdd, Nat.reduceSub, Nat.reduceLT, Nat.reduceLeDiff, reduceCtorEq, Nat.reduceEqDiff, Int.reduceToNat]
            refine dops_go1 rfl (by simp only [hgd, go_sem, reduceIte, Nat.reduceAdd, Nat.reduceSub, Nat.reduceLT, Nat.reduceLeDiff, reduceCtorEq, Nat.reduceEqDiff, Int.reduceToNat]; try omega) ?_
            simp only [hgd, go_sem, reduceIte, Nat.reduceAdd, Nat.reduceSub, Nat.reduceLT, Nat.reduceLeDiff, reduceCtorEq, Nat.reduceEqDiff, Int.reduceToNat]
            refine dops_nil ⟨?_, ?_, ?_⟩ <;> exact rfl
          simp only [go_sem, reduceIte, Nat.reduceAdd, Nat.reduceSub, Nat.reduceLT, Nat.reduceLeDiff, reduceCtorEq, Nat.reduceEqDiff, Int.reduceToNat]
          refine dops_go1 rfl (by simp only [ go_sem, reduceIte, Nat.reduceAdd, Nat.reduceSub, Nat.reduceLT, Nat.reduceLeDiff, reduceCtorEq, Nat.reduceEqDiff, Int.reduceToNat]; try omega) ?_
          simp only [ go_sem, reduceIte, Nat.reduceAdd, Nat.reduceSub, Nat.reduceLT, Nat.reduceLeDiff, reduceCtorEq, Nat.reduceEqDiff, Int.reduceToNat]
          refine dops_nil (drawQ_nil ?_)
          simp only [go_sem, reduceIte, Nat.reduceAdd, Nat.reduceSub, Nat.reduceLT, Nat.reduceLeDiff, reduceCtorEq, Nat.reduceEqDiff, Int.reduceToNat]
          refine seqQ_normal ?_
          have h3 : decide ((k : Int) < i) = decide (k < i) := by simp
          refine lwp_cond _ rfl (fun hc3 => ?_) (fun hc3 => ?_)
          · repeat (first | with_reducible refine lwp_seq ?_ | with_reducible refine lwp_block ?_ | with_reducible refine lwp_skip ?_ | with_reducible refine seqQ_normal ?_ | with_reducible refine blockQ_normal ?_ | with_reducible refine lwp_ops ?_ | (refine lops_go1 rfl (by simp only [ go_sem, reduceIte, Nat.reduceAdd, Nat.reduceSub, Nat.reduceLT, Nat.reduceLeDiff, reduceCtorEq, Nat.reduceEqDiff, Int.reduceToNat]; try omega) ?_; simp only [ go_sem, reduceIte, Nat.reduceAdd, Nat.reduceSub, Nat.reduceLT, Nat.reduceLeDiff, reduceCtorEq, Nat.reduceEqDiff, Int.reduceToNat]) | (with_reducible refine lops_done ?_))
            rw [wrap_in (by omega) (by omega)]
            rw [← hQ]
            refine roundM_normal (k + 1) (by omega) ⟨by omega, rfl, by omega⟩ ?_
            have hkeep : keepTo l i l[i] (k + 1) = false := by
              rw [keepTo_succ l i l[i] k hltk]
              revert hc3
              rw [h3]
              by_cases he : l[k] = l[i] <;> by_cases hki : k < i <;> cases l[k].ok <;> cases l[k].le l[i] <;> simp [he, hki]
            simp only [WkL, mkFrom, Int.natCast_add, Int.natCast_one, Int.natCast_zero, tms, hkeep, go_sem, reduceIte, Nat.reduceAdd, Nat.reduceSub, Nat.reduceLT, Nat.reduceLeDiff, reduceCtorEq, Nat.reduceEqDiff, Int.reduceToNat]
          · repeat (first | with_reducible refine lwp_seq ?_ | with_reducible refine lwp_block ?_ | with_reducible refine lwp_skip ?_ | with_reducible refine seqQ_normal ?_ | with_reducible refine blockQ_normal ?_ | with_reducible refine lwp_ops ?_ | (refine lops_go1 rfl (by simp only [ go_sem, reduceIte, Nat.reduceAdd, Nat.reduceSub, Nat.reduceLT, Nat.reduceLeDiff, reduceCtorEq, Nat.reduceEqDiff, Int.reduceToNat]; try omega) ?_; simp only [ go_sem, reduceIte, Nat.reduceAdd, Nat.reduceSub, Nat.reduceLT, Nat.reduceLeDiff, reduceCtorEq, Nat.reduceEqDiff, Int.reduceToNat]) | (with_reducible refine lops_done ?_))
            rw [wrap_in (by omega) (by omega)]
            rw [← hQ]
            refine roundM_normal (k + 1) (by omega) ⟨by omega, rfl, by omega⟩ ?_
            have hkeep : keepTo l i l[i] (k + 1) = keepTo l i l[i] k := by
              rw [keepTo_succ l i l[i] k hltk]
              revert hc3
              rw [h3]
              by_cases he : l[k] = l[i] <;> by_cases hki : k < i <;> cases l[k].ok <;> cases l[k].le l[i] <;> simp [he, hki]
            simp only [WkL, mkFrom, Int.natCast_add, Int.natCast_one, Int.natCast_zero, tms, hkeep, go_sem, reduceIte, Nat.reduceAdd, Nat.reduceSub, Nat.reduceLT, Nat.reduceLeDiff, reduceCtorEq, Nat.reduceEqDiff, Int.reduceToNat]
        · have hge : k = l.length := by have : ¬ k < l.length := by simpa using hc2
                                        omega
          rw [← hQ]
          refine lwp_exit ?_
          repeat (first | with_reducible refine seqQ_exit ?_ | with_reducible refine roundQ_exit ?_ | with_reducible refine roundM_exit ?_ | with_reducible refine blockQ_other (by decide) ?_ | with_reducible refine blockQ_exit ?_ | with_reducible refine seqQ_normal ?_)
          have hkr : keepTo l i l[i] k = keepR l i l[i] := by rw [hge]; rfl
          rw [hkr]
          clear hQ Q0
          generalize hQ : blockQ 1 _ = Q0
          repeat (first | with_reducible refine lwp_seq ?_ | with_reducible refine lwp_block ?_ | with_reducible refine lwp_skip ?_ | with_reducible refine seqQ_normal ?_ | with_reducible refine blockQ_normal ?_ | with_reducible refine lwp_ops ?_ | (refine lops_go1 rfl (by simp only [ go_sem, reduceIte, Nat.reduceAdd, Nat.reduceSub, Nat.reduceLT, Nat.reduceLeDiff, reduceCtorEq, Nat.reduceEqDiff, Int.reduceToNat]; try omega) ?_; simp only [ go_sem, reduceIte, Nat.reduceAdd, Nat.reduceSub, Nat.reduceLT, Nat.reduceLeDiff, reduceCtorEq, Nat.reduceEqDiff, Int.reduceToNat]) | (with_reducible refine lops_done ?_))
          refine lwp_cond _ rfl (fun hc3 => ?_) (fun hc3 => ?_)
          · have hkf : keepR l i l[i] = false := by simpa using hc3
            refine lwp_exit ?_
            repeat (first | with_reducible refine seqQ_exit ?_ | with_reducible refine roundQ_exit ?_ | with_reducible refine roundM_exit ?_ | with_reducible refine blockQ_other (by decide) ?_ | with_reducible refine blockQ_exit ?_ | with_reducible refine seqQ_normal ?_)
            rw [← hQ]
            repeat (first | with_reducible refine seqQ_exit ?_ | with_reducible refine roundQ_exit ?_ | with_reducible refine roundM_exit ?_ | with_reducible refine blockQ_other (by decide) ?_ | with_reducible refine blockQ_exit ?_ | with_reducible refine seqQ_normal ?_)
            repeat (first | with_reducible refine lwp_seq ?_ | with_reducible refine lwp_block ?_ | with_reducible refine lwp_skip ?_ | with_reducible refine seqQ_normal ?_ | with_reducible refine blockQ_normal ?_ | with_reducible refine lwp_ops ?_ | (refine lops_go1 rfl (by simp only [ go_sem, reduceIte, Nat.reduceAdd, Nat.reduceSub, Nat.reduceLT, Nat.reduceLeDiff, reduceCtorEq, Nat.reduceEqDiff, Int.reduceToNat]; try omega) ?_; simp only [ go_sem, reduceIte, Nat.reduceAdd, Nat.reduceSub, Nat.reduceLT, Nat.reduceLeDiff, reduceCtorEq, Nat.reduceEqDiff, Int.reduceToNat]) | (with_reducible refine lops_done ?_))
            rw [wrap_in (by omega) (by omega)]
            refine roundM_normal (i + 1, o) (by simp only; omega) ((hC _ _ _ _).2 ⟨by omega, hle, by omega, hdm.up (by omega), ?_⟩) ?_
            · rw [hsucc, hkf]; simpa using hown
            · simp only [hkf, Bool.false_eq_true, if_false] at hsucc
              simp only [WkL, mkFrom, Int.natCast_add, Int.natCast_one, Int.natCast_zero, tms, hsucc, go_sem, reduceIte, Nat.reduceAdd, Nat.reduceSub, Nat.reduceLT, Nat.reduceLeDiff, reduceCtorEq, Nat.reduceEqDiff, Int.reduceToNat]
          · have hkt : keepR l i l[i] = true := by simpa using hc3
            simp only [hkt, if_true] at hsucc
            repeat (first | with_reducible refine lwp_seq ?_ | with_reducible refine lwp_block ?_ | with_reducible refine lwp_skip ?_ | with_reducible refine seqQ_normal ?_ | with_reducible refine blockQ_normal ?_ | with_reducible refine lwp_ops ?_ | (refine lops_go1 rfl (by simp only [ go_sem, reduceIte, Nat.reduceAdd, Nat.reduceSub, Nat.reduceLT, Nat.reduceLeDiff, reduceCtorEq, Nat.reduceEqDiff, Int.reduceToNat]; try omega) ?_; simp only [ go_sem, reduceIte, Nat.reduceAdd, Nat.reduceSub, Nat.reduceLT, Nat.reduceLeDiff, reduceCtorEq, Nat.reduceEqDiff, Int.reduceToNat]) | (with_reducible refine lops_done ?_))
            -- the place
            refine lwp_loopM (fun a : Nat => mkFrom 92 0 [(0, tms own l), (3, tms o (refTo l i)), (4, .int .i64 i), (7, .int .i64 a)]) (fun a h2' nx3 => a ≤ (refTo l i).length ∧ (∀ x ∈ (refTo l i).take a, x.less l[i] = true) ∧ h2' = h2 ∧ nx1 ≤ nx3) (fun a => (refTo l i).length - a) 0 ⟨Nat.zero_le _, by simp, rfl, by omega⟩ ?_ ?_
            · simp only [WkL, mkFrom, Int.natCast_add, Int.natCast_one, Int.natCast_zero, tms, go_sem, reduceIte, Nat.reduceAdd, Nat.reduceSub, Nat.reduceLT, Nat.reduceLeDiff, reduceCtorEq, Nat.reduceEqDiff, Int.reduceToNat]
            · rintro a h3 nx3 ⟨ha, hless, rfl, hnx3⟩
              generalize hQ3 : roundM _ _ _ _ _ = Q3
              simp only [mkFrom, go_sem, reduceIte, Nat.reduceAdd, Nat.reduceSub, Nat.reduceLT, Nat.reduceLeDiff, reduceCtorEq, Nat.reduceEqDiff, Int.reduceToNat]
              repeat (first | with_reducible refine lwp_seq ?_ | with_reducible refine lwp_block ?_ | with_reducible refine lwp_skip ?_ | with_reducible refine seqQ_normal ?_ | with_reducible refine blockQ_normal ?_ | with_reducible refine lwp_ops ?_ | (refine lops_go1 rfl (by simp only [ go_sem, reduceIte, Nat.reduceAdd, Nat.reduceSub, Nat.reduceLT, Nat.reduceLeDiff, reduceCtorEq, Nat.reduceEqDiff, Int.reduceToNat]; try omega) ?_; simp only [ go_sem, reduceIte, Nat.reduceAdd, Nat.reduceSub, Nat.reduceLT, Nat.reduceLeDiff, reduceCtorEq, Nat.reduceEqDiff, Int.reduceToNat]) | (with_reducible refine lops_done ?_))
              refine lwp_draw rfl ?_
              have hlenO := refTo_len l i
              have fin : ∀ nx4, nx1 ≤ nx4 → (refTo l i).takeWhile (·.less l[i]) = (refTo l i).take a → (refTo l i).dropWhile (·.less l[i]) = (refTo l i).drop a → lwp Try.prog (.draw 15 L.corollaryref21_Of_r14 L.corollaryref21_Of_r14t) Q0 ⟨mkFrom 92 0 [(0, tms own l), (3, tms o (refTo l i)), (4, .int .i64 i), (7, .int .i64 a)], h3, nx4⟩ := by
                intro nx4 hnx4 w1 w2
                have hins : refTo l (i + 1) = (refTo l i).take a ++ l[i] :: (refTo l i).drop a := by rw [hsucc]; unfold insT; rw [w1, w2]
                simp only [mkFrom, go_sem, reduceIte, Nat.reduceAdd, Nat.reduceSub, Nat.reduceLT, Nat.reduceLeDiff, reduceCtorEq, Nat.reduceEqDiff, Int.reduceToNat]
                refine lwp_draw rfl ?_
                refine dops_go1 rfl (by simp only [hg, tms, List.length_map, List.length_take, List.length_drop, List.length_append, Int.toNat_natCast, Tm.fits_v, go_sem, reduceIte, Nat.reduceAdd, Nat.reduceSub, Nat.reduceLT, Nat.reduceLeDiff, reduceCtorEq, Nat.reduceEqDiff, Int.reduceToNat]; try omega) ?_
                simp only [hg, tms, List.length_map, List.length_take, List.length_drop, List.length_append, Int.toNat_natCast, Tm.fits_v, go_sem, reduceIte, Nat.reduceAdd, Nat.reduceSub, Nat.reduceLT, Nat.reduceLeDiff, reduceCtorEq, Nat.reduceEqDiff, Int.reduceToNat]
                have htk : (List.map Tm.v (refTo l i)).take (refTo l i).length = List.map Tm.v (refTo l i) := by
                  rw [List.take_of_length_le (by simp)]
                refine dops_nil (drawQ_tl ?_)
                simp only [go_sem, reduceIte, Nat.reduceAdd, Nat.reduceSub, Nat.reduceLT, Nat.reduceLeDiff, reduceCtorEq, Nat.reduceEqDiff, Int.reduceToNat]
                repeat (first | with_reducible refine lwp_seq ?_ | with_reducible refine lwp_block ?_ | with_reducible refine lwp_skip ?_ | with_reducible refine seqQ_normal ?_ | with_reducible refine blockQ_normal ?_ | with_reducible refine lwp_ops ?_ | (refine lops_go1 rfl (by simp only [ go_sem, reduceIte, Nat.reduceAdd, Nat.reduceSub, Nat.reduceLT, Nat.reduceLeDiff, reduceCtorEq, Nat.reduceEqDiff, Int.reduceToNat]; try omega) ?_; simp only [ go_sem, reduceIte, Nat.reduceAdd, Nat.reduceSub, Nat.reduceLT, Nat.reduceLeDiff, reduceCtorEq, Nat.reduceEqDiff, Int.reduceToNat]) | (with_reducible refine lops_done ?_))
                rw [← hQ]
                repeat (first | with_reducible refine lwp_seq ?_ | with_reducible refine lwp_block ?_ | with_reducible refine lwp_skip ?_ | with_reducible refine seqQ_normal ?_ | with_reducible refine blockQ_normal ?_ | with_reducible refine lwp_ops ?_ | (refine lops_go1 rfl (by simp only [ go_sem, reduceIte, Nat.reduceAdd, Nat.reduceSub, Nat.reduceLT, Nat.reduceLeDiff, reduceCtorEq, Nat.reduceEqDiff, Int.reduceToNat]; try omega) ?_; simp only [ go_sem, reduceIte, Nat.reduceAdd, Nat.reduceSub, Nat.reduceLT, Nat.reduceLeDiff, reduceCtorEq, Nat.reduceEqDiff, Int.reduceToNat]) | (with_reducible refine lops_done ?_))
                rw [wrap_in (by omega) (by omega)]
                refine roundM_normal (i + 1, .tok (nx4 + 14)) (by simp only; omega) ((hC _ _ _ _).2 ⟨by omega, ?_, by omega, ?_, .inr ⟨nx4 + 14, by omega, rfl, ?_, by rw [hins]; simp⟩⟩) ?_
                · repeat (first | exact hle | refine le_set ?_ (DomB.none hd (by omega)) _ | refine le_del ?_ (DomB.none hd (by omega)))
                · have hdm := hdm.up hnx4
                  repeat (first | exact DomB.up hdm (by omega) | refine DomB.set2 ?_ (by omega) _ | refine DomB.del ?_)
                · simp only [go_sem, reduceIte, Nat.reduceAdd, Nat.reduceSub, Nat.reduceLT, Nat.reduceLeDiff, reduceCtorEq, Nat.reduceEqDiff, Int.reduceToNat]
                · simp only [WkL, mkFrom, Int.natCast_add, Int.natCast_one, Int.natCast_zero, tms, hins, htk, List.map_append, List.map_cons, List.map_take, List.map_drop, List.append_assoc, go_sem, reduceIte, Nat.reduceAdd, Nat.reduceSub, Nat.reduceLT, Nat.reduceLeDiff, reduceCtorEq, Nat.reduceEqDiff, Int.reduceToNat]
              refine dops_go1 rfl (by simp only [tms, List.length_map, go_sem, reduceIte, Nat.reduceAdd, Nat.reduceSub, Nat.reduceLT, Nat.reduceLeDiff, reduceCtorEq, Nat.reduceEqDiff, Int.reduceToNat]; try omega) ?_
              simp only [tms, List.length_map, go_sem, reduceIte, Nat.reduceAdd, Nat.reduceSub, Nat.reduceLT, Nat.reduceLeDiff, reduceCtorEq, Nat.reduceEqDiff, Int.reduceToNat]
              by_cases hal : a < (refTo l i).length
              · have hal' : decide ((a : Int) < ((refTo l i).length : Int)) = true := by simpa using hal
                have hga := getD_map' Tm.v (refTo l i) a hal
                simp only [hal', go_sem, reduceIte, Nat.reduceAdd, Nat.reduceSub, Nat.reduceLT, Nat.reduceLeDiff, reduceCtorEq, Nat.reduceEqDiff, Int.reduceToNat]
                refine dops_goC (by simp only [hga, hg, tms, List.length_map, Int.toNat_natCast, Tm.fits_v, go_sem, reduceIte, Nat.reduceAdd, Nat.reduceSub, Nat.reduceLT, Nat.reduceLeDiff, reduceCtorEq, Nat.reduceEqDiff, Int.reduceToNat]; try omega) ?_
                simp only [hga, hg, tms, List.length_map, Int.toNat_natCast, Tm.fits_v, go_sem, reduceIte, Nat.reduceAdd, Nat.reduceSub, Nat.reduceLT, Nat.reduceLeDiff, reduceCtorEq, Nat.reduceEqDiff, Int.reduceToNat]
                refine dops_guard rfl (fun _ => ?_) (fun h => absurd rfl h)
                refine dops_pure (rless_pure (refTo l i)[a] l[i] Hp.none) rfl (none_has _) ?_
                refine dops_goC (by simp only [ go_sem, reduceIte, Nat.reduceAdd, Nat.reduceSub, Nat.reduceLT, Nat.reduceLeDiff, reduceCtorEq, Nat.reduceEqDiff, Int.reduceToNat]; try omega) ?_
                simp only [ go_sem, reduceIte, Nat.reduceAdd, Nat.reduceSub, Nat.reduceLT, Nat.reduceLeDiff, reduceCtorEq, Nat.reduceEqDiff, Int.reduceToNat]
                refine dops_nil (drawQ_nil ?_)
                simp only [go_sem, reduceIte, Nat.reduceAdd, Nat.reduceSub, Nat.reduceLT, Nat.reduceLeDiff, reduceCtorEq, Nat.reduceEqDiff, Int.reduceToNat]
                refine seqQ_normal ?_
                refine lwp_cond _ rfl (fun hc4 => ?_) (fun hc4 => ?_)
                · repeat (first | with_reducible refine lwp_seq ?_ | with_reducible refine lwp_block ?_ | with_reducible refine lwp_skip ?_ | with_reducible refine seqQ_normal ?_ | with_reducible refine blockQ_normal ?_ | with_reducible refine lwp_ops ?_ | (refine lops_go1 rfl (by simp only [ go_sem, reduceIte, Nat.reduceAdd, Nat.reduceSub, Nat.reduceLT, Nat.reduceLeDiff, reduceCtorEq, Nat.reduceEqDiff, Int.reduceToNat]; try omega) ?_; simp only [ go_sem, reduceIte, Nat.reduceAdd, Nat.reduceSub, Nat.reduceLT, Nat.reduceLeDiff, reduceCtorEq, Nat.reduceEqDiff, Int.reduceToNat]) | (with_reducible refine lops_done ?_))
                  rw [wrap_in (by omega) (by omega)]
                  rw [← hQ3]
                  refine roundM_normal (a + 1) (by omega) ⟨by omega, ?_, rfl, by omega⟩ ?_
                  · intro x hx
                    rw [List.take_succ_eq_append_getElem hal, List.mem_append, List.mem_singleton] at hx
                    rcases hx with hx | rfl
                    · exact hless x hx
                    · exact hc4
                  · simp only [WkL, mkFrom, Int.natCast_add, Int.natCast_one, Int.natCast_zero, tms, go_sem, reduceIte, Nat.reduceAdd, Nat.reduceSub, Nat.reduceLT, Nat.reduceLeDiff, reduceCtorEq, Nat.reduceEqDiff, Int.reduceToNat]
                · rw [← hQ3]
                  refine lwp_exit ?_
                  repeat (first | with_reducible refine seqQ_exit ?_ | with_reducible refine roundQ_exit ?_ | with_reducible refine roundM_exit ?_ | with_reducible refine blockQ_other (by decide) ?_ | with_reducible refine blockQ_exit ?_)
                  obtain ⟨w1, w2⟩ := while_at (fun x : Tm => x.less l[i]) (refTo l i) a ha hless (fun h => by simpa using hc4)
                  refine seqQ_wk _ (wk_mk ?_ (Hp.le_refl _) (Nat.le_refl _)) (fin _ (by omega) w1 w2)
                  simp only [WkL, mkFrom, Int.natCast_add, Int.natCast_one, Int.natCast_zero, tms, go_sem, reduceIte, Nat.reduceAdd, Nat.reduceSub, Nat.reduceLT, Nat.reduceLeDiff, reduceCtorEq, Nat.reduceEqDiff, Int.reduceToNat]
              · have hal' : decide ((a : Int) < ((refTo l i).length : Int)) = false := by simpa using hal
                simp only [hal', go_sem, reduceIte, Nat.reduceAdd, Nat.reduceSub, Nat.reduceLT, Nat.reduceLeDiff, reduceCtorEq, Nat.reduceEqDiff, Int.reduceToNat]
                refine dops_gd true _ rfl rfl [] (fun _ h => absurd h (by simp)) ?_
                simp only [go_sem, reduceIte, Nat.reduceAdd, Nat.reduceSub, Nat.reduceLT, Nat.reduceLeDiff, reduceCtorEq, Nat.reduceEqDiff, Int.reduceToNat]
                refine dops_go1 rfl (by simp only [ go_sem, reduceIte, Nat.reduceAdd, Nat.reduceSub, Nat.reduceLT, Nat.reduceLeDiff, reduceCtorEq, Nat.reduceEqDiff, Int.reduceToNat]; try omega) ?_
                simp only [ go_sem, reduceIte, Nat.reduceAdd, Nat.reduceSub, Nat.reduceLT, Nat.reduceLeDiff, reduceCtorEq, Nat.reduceEqDiff, Int.reduceToNat]
                refine dops_nil (drawQ_nil ?_)
                simp only [go_sem, reduceIte, Nat.reduceAdd, Nat.reduceSub, Nat.reduceLT, Nat.reduceLeDiff, reduceCtorEq, Nat.reduceEqDiff, Int.reduceToNat]
                refine seqQ_normal ?_
                refine lwp_cond _ rfl (fun hc4 => ?_) (fun hc4 => ?_)
                · cases hc4
                · rw [← hQ3]
                  refine lwp_exit ?_
                  repeat (first | with_reducible refine seqQ_exit ?_ | with_reducible refine roundQ_exit ?_ | with_reducible refine roundM_exit ?_ | with_reducible refine blockQ_other (by decide) ?_ | with_reducible refine blockQ_exit ?_)
                  obtain ⟨w1, w2⟩ := while_at (fun x : Tm => x.less l[i]) (refTo l i) a ha hless (fun h => absurd h hal)
                  refine seqQ_wk _ (wk_mk ?_ (Hp.le_refl _) (Nat.le_refl _)) (fin _ (by omega) w1 w2)
                  simp only [WkL, mkFrom, Int.natCast_add, Int.natCast_one, Int.natCast_zero, tms, go_sem, reduceIte, Nat.reduceAdd, Nat.reduceSub, Nat.reduceLT, Nat.reduceLeDiff, reduceCtorEq, Nat.reduceEqDiff, Int.reduceToNat]
    · have hge : i = l.length := by have : ¬ i < l.length := by simpa using hc
                                    omega
      refine lwp_exit ?_
      repeat (first | with_reducible refine seqQ_exit ?_ | with_reducible refine roundQ_exit ?_ | with_reducible refine roundM_exit ?_ | with_reducible refine blockQ_other (by decide) ?_ | with_reducible refine blockQ_exit ?_ | with_reducible refine seqQ_normal ?_)
      repeat (first | with_reducible refine lwp_seq ?_ | with_reducible refine lwp_block ?_ | with_reducible refine lwp_skip ?_ | with_reducible refine seqQ_normal ?_ | with_reducible refine blockQ_normal ?_ | with_reducible refine lwp_ops ?_ | (refine lops_go1 rfl (by simp only [ go_sem, reduceIte, Nat.reduceAdd, Nat.reduceSub, Nat.reduceLT, Nat.reduceLeDiff, reduceCtorEq, Nat.reduceEqDiff, Int.reduceToNat]; try omega) ?_; simp only [ go_sem, reduceIte, Nat.reduceAdd, Nat.reduceSub, Nat.reduceLT, Nat.reduceLeDiff, reduceCtorEq, Nat.reduceEqDiff, Int.reduceToNat]) | (with_reducible refine lops_done ?_))
      refine lwp_ret (ret_slot hp (Hp.le_refl _) ⟨?_, hle⟩)
      simp only [go_sem, reduceIte, Nat.reduceAdd, Nat.reduceSub, Nat.reduceLT, Nat.reduceLeDiff, reduceCtorEq, Nat.reduceEqDiff, Int.reduceToNat]
      rw [hge] at hown ⊢
      rcases hown with ⟨rfl, h1⟩ | ⟨id, hid, rfl, htip, hne⟩
      · rw [h1]; rfl
      · generalize refTo l l.length = r at hne ⊢
        cases r with
        | nil => exact absurd rfl hne
        | cons x r => rfl

end Go.Proofs.Ythcedfamidlbdaa
