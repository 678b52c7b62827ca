/-
Contracts of functions of Go's library: slices.AppendSeq, Collect, Equal, Clone, cmp.Compare and cmp.Or of int's. No program in sight. No conditions beyond those named.
-/
import Derived.Test.YthcedfamidlbdaaLbb
namespace Go.Proofs.Ythcedfamidlbdaa
set_option linter.unusedSimpArgs false
set_option linter.unusedVariables false
set_option linter.unusedSectionVars false
open Go.RowKit
attribute [local go_sem] Option.some.injEq Prod.mk.injEq false_and and_false Bool.true_eq_false dRun dRest dbare dMerge nones if_true Bool.true_and dgoC dgoCRest fillV okAll nextAll LOper.ok LOper.next LOp.ok LOp.next LVal.ok LVal.out LArg.ev putV binOK pick_true pick_false pick_bool V.undef Sh.size addHp dokAll dnextAll LOper.dok LOper.dres LOp.dok LOp.dout dput conOK veqL leafEq List.take_succ_cons List.take_zero List.take_nil List.drop_succ_cons List.drop_zero List.drop_nil List.set_cons_succ List.set_cons_zero List.getD_cons_succ List.getD_cons_zero List.length_cons List.length_nil List.map_cons List.map_nil List.all_cons List.all_nil List.mem_cons List.not_mem_nil List.replicate_succ List.replicate_zero List.cons_append List.nil_append List.append_nil List.isEmpty_cons List.isEmpty_nil appOwn appHp appOK Option.getD_some Option.isSome_some Nat.add_eq Nat.zero_add Nat.add_zero true_and and_true and_self true_implies implies_true false_implies forall_const forall_eq forall_eq_or_imp ne_eq not_false_eq_true not_true_eq_false Bool.not_true Bool.not_false decide_true decide_false Bool.and_true Bool.true_and Bool.and_false Bool.false_and true_or or_true false_or or_false eq_self Bool.false_eq_true nxNe nxNe' tupOf mkFrom bval ogive cutOwn cutE_nil cutE_full cutE_tok cutE_free_nil cutE_free_cons selems Int.toNat_natCast Int.toNat_zero List.take_length Hp.set_app Hp.del_app goOps goRest LOper.plain LOp.isCall LOper.dplain LOp.isStop lops_nil gRun gRest bare gMerge V.gd_true V.gd_false pick_gd pick_gdn pick_and pick_or partOK_self loadPart_self storePart_self dgoOps dgoRest beq_true beq_false partOK_ll partOK_al partOK_aa loadPart_l loadPart_a storePart_la storePart_aa fits_leaf fits_agg leafy_bool leafy_int leafy_str leafy_nilPtr leafy_ptr leafy_ept leafy_sl leafy_rs leafy_nilMap leafy_map leafy_nilChan leafy_chan leafy_fn leafy_nilFn leafy_yld leafy_iface leafy_nilIface veq_aa veq_li veq_lb veq_ls cells_agg cells_leaf cell_agg cell_leaf veq_ptr1 veq_ptr2 veq_ptr3 veq_ptr4 veq_ptr5 veq_slice1 veq_slice2 veq_func1 veq_func2 veq_func3 veq_iface1 veq_iface2 veq_iface3 veq_map1 veq_map2 veq_map3 veq_chan1 veq_chan2 veq_chan3 conAt_add conAt_zero untaken wrHp Hp.turn delHp Option.isNone_some Option.isNone_none

section
variable {P : Program} {k : Sh} {α : Type} (e : α → V) (hfit : ∀ x, (e x).fits k = true)
include hfit

theorem appendSeq_lib {f bs : Nat} {z : V} (hL : lowerFn P f = some (LB.AppendSeq k z bs)) (hz : z.fits k = true) (hbs : bs ≤ 140737) (g : Nat) (caps : List V) (hb : Hp) (xs : List α) (hit : Iter P g caps hb (xs.map fun x => [e x])) (hl : xs.length ≤ 100000000)
    (h' : Hp) (nx : Nat) (hh : hb.has h') :
    ACalls P f [.sl k .nil [], .fn (.func g) [] caps] h' nx fun v h'' _ => (xs = [] ∧ v = .sl k .nil [] ∧ h'' = h') ∨ (xs ≠ [] ∧ ∃ id, nx ≤ id ∧ v = .rs id k 0 xs.length ∧ h'' = h'.set id (.arr k (xs.map e))) := by
  refine acalls_walk hL fun hd => ?_
  simp only [List.length_cons, List.length_nil, Nat.reduceAdd, Nat.reduceSub, List.replicate_succ, List.replicate_zero, List.cons_append, List.nil_append, V.undef]
  repeat (first | with_reducible refine lwp_seq ?_ | with_reducible refine lwp_block ?_ | with_reducible refine lwp_skip ?_ | with_reducible refine seqQ_normal ?_ | with_reducible refine blockQ_normal ?_ | with_reducible refine lwp_ops ?_ | (refine lops_go1 rfl (by simp only [ go_sem, reduceIte, Nat.reduceAdd, Nat.reduceSub, Nat.reduceLT, Nat.reduceLeDiff, reduceCtorEq, Nat.reduceEqDiff, Int.reduceToNat]; try omega) ?_; simp only [ go_sem, reduceIte, Nat.reduceAdd, Nat.reduceSub, Nat.reduceLT, Nat.reduceLeDiff, reduceCtorEq, Nat.reduceEqDiff, Int.reduceToNat]) | (with_reducible refine lops_done ?_))
  have hnone : ∀ n, nx ≤ n → h' n = none := fun n hn => DomB.none hd hn
  obtain ⟨I, hI⟩ : ∃ I : Nat → Hp → Nat → Prop, ∀ i h nx1, I i h nx1 ↔ (h'.le h ∧ ∃ acc, h nx = some (.arr .leaf [acc]) ∧ ((i = 0 ∧ acc = .sl k .nil []) ∨ (0 < i ∧ ∃ id, nx ≤ id ∧ id ≠ nx ∧ id ≠ nx + 1 ∧ acc = .rs id k 0 i ∧ h id = some (.arr k ((xs.take i).map e))))) := ⟨_, fun _ _ _ => Iff.rfl⟩
  refine lwp_range_iter hit rfl (by simp) (DomB.set hd (by simp) (by simp) _) I (fun _ _ _ => False) ?_ ?_ ?_ (fun _ _ _ _ h => h.elim) (fun _ _ _ _ h => h.elim) ?_ ?_ ?_ (fun _ _ _ h => h.elim)
  · intro i h nx1 hi
    exact has_trans hh (le_has ((hI _ _ _).1 hi).1)
  · exact fun i h nx1 nx2 hi _ => (hI _ _ _).2 ((hI _ _ _).1 hi)
  · intro i h nx1 b hi
    obtain ⟨hle, acc, h1, h2⟩ := (hI _ _ _).1 hi
    refine (hI _ _ _).2 ⟨le_set hle (hnone _ (by simp)) b, acc, ?_, ?_⟩
    · simp only [Hp.set_app]
      rw [if_neg (by simp)]; exact h1
    · rcases h2 with h2 | ⟨hi, id, h3, h4, h5, h6, h7⟩
      · exact .inl h2
      · refine .inr ⟨hi, id, h3, h4, h5, h6, ?_⟩
        simp only [Hp.set_app]
        rw [if_neg h5]; exact h7
  · exact (hI _ _ _).2 ⟨le_set (Hp.le_refl _) (hnone _ (by simp)) _, .sl k .nil [], by simp [Hp.set_app], .inl ⟨rfl, rfl⟩⟩
  · intro i hi h nx1 X hii hnx hX hdm
    obtain ⟨hle, acc, h1, h2⟩ := (hI _ _ _).1 hii
    simp only at hnx hX
    have hi' : i < xs.length := by simpa using hi
    have hnx0 : nx < nx1 := by omega
    have e1 : (nx = nx1) = False := by simp; omega
    have e2 : (nx + 1 = nx1) = False := by simp; omega
    have e4 : (nx1 = nx + 1) = False := by simp; omega
    have e6 : (nx1 = nx) = False := by simp; omega
    have e7 : (nx = nx1 + 2) = False := by simp; omega
    have e8 : (nx + 1 = nx1 + 2) = False := by simp; omega
    have e9 : (nx = nx1 + 3) = False := by simp; omega
    have e10 : (nx + 1 = nx1 + 3) = False := by simp; omega
    have hx : (xs.map fun x => [e x])[i] = [e xs[i]] := by simp
    simp only [putAll, hx, List.set_cons_succ, List.set_cons_zero]
    repeat (first | with_reducible refine lwp_seq ?_ | with_reducible refine lwp_block ?_ | with_reducible refine lwp_skip ?_ | with_reducible refine seqQ_normal ?_ | with_reducible refine blockQ_normal ?_ | with_reducible refine lwp_ops ?_ | (refine lops_go1 rfl (by simp only [hz, hfit, e1, e2, e4, go_sem, reduceIte, Nat.reduceAdd, Nat.reduceSub, Nat.reduceLT, Nat.reduceLeDiff, reduceCtorEq, Nat.reduceEqDiff, Int.reduceToNat]; try omega) ?_; simp only [hz, hfit, e1, e2, e4, go_sem, reduceIte, Nat.reduceAdd, Nat.reduceSub, Nat.reduceLT, Nat.reduceLeDiff, reduceCtorEq, Nat.reduceEqDiff, Int.reduceToNat]) | (with_reducible refine lops_done ?_))
    refine asgR_normal (by simp only [e1, e2, e4, go_sem, reduceIte, Nat.reduceAdd, Nat.reduceSub, Nat.reduceLT, Nat.reduceLeDiff, reduceCtorEq, Nat.reduceEqDiff, Int.reduceToNat]; exact hX) fun X' => ?_
    simp only [go_sem, reduceIte, Nat.reduceAdd, Nat.reduceSub, Nat.reduceLT, Nat.reduceLeDiff, reduceCtorEq, Nat.reduceEqDiff, Int.reduceToNat]
    refine lwp_block (lwp_ops ?_)
    have hone : ∀ (h'' : Hp) (nx2 id : Nat), h'.le h'' → nx1 ≤ id → h'' nx = some (.arr .leaf [.rs id k 0 (i + 1)]) → h'' (nx + 1) = some X' → h'' id = some (.arr k ((xs.take (i + 1)).map e)) → ∀ sl, blockQ 1 (rangeR (nx + 1) X' (I (i + 1)) (fun _ _ _ => False)) .normal ⟨sl, h'', nx2⟩ := by
      intro h'' nx2 id q1 q2 q3 q4 q5 sl
      exact blockQ_normal (rangeR_normal q4 ((hI _ _ _).2 ⟨q1, _, q3, .inr ⟨by omega, id, by omega, by omega, by omega, rfl, q5⟩⟩))
    generalize hQ : blockQ 1 (rangeR (nx + 1) X' (I (i + 1)) (fun _ _ _ => False)) .normal = Qn at hone ⊢
    have hle2 : ∀ n b, nx1 ≤ n → ∀ {h2 : Hp}, h'.le h2 → h'.le (h2.set n b) := fun n b hn h2 q => le_set q (hnone n (by omega)) b
    have hle3 : ∀ n, nx ≤ n → ∀ {h2 : Hp}, h'.le h2 → ∀ b, h'.le (h2.set n b) := fun n hn h2 q b => le_set q (hnone n hn) b
    rcases h2 with ⟨rfl, rfl⟩ | ⟨hpos, id, h3, h4, h5, rfl, h7⟩
    · refine lops_take 3 rfl (by simp only [h1, hfit, hz, e1, e2, e4, e6, go_sem, reduceIte, Nat.reduceAdd, Nat.reduceSub, Nat.reduceLT, Nat.reduceLeDiff, reduceCtorEq, Nat.reduceEqDiff, Int.reduceToNat]) ?_
      simp only [h1, hfit, hz, e1, e2, e4, e6, go_sem, reduceIte, Nat.reduceAdd, Nat.reduceSub, Nat.reduceLT, Nat.reduceLeDiff, reduceCtorEq, Nat.reduceEqDiff, Int.reduceToNat]
      refine lops_append_nil rfl rfl (by simp) (by simp only [List.length_cons, List.length_nil]; omega) ?_
      refine lops_go1 rfl (by simp only [h1, hfit, hz, e1, e2, e4, e6, e7, e8, e9, e10, go_sem, reduceIte, Nat.reduceAdd, Nat.reduceSub, Nat.reduceLT, Nat.reduceLeDiff, reduceCtorEq, Nat.reduceEqDiff, Int.reduceToNat]; try omega) ?_
      simp only [h1, hfit, hz, e1, e2, e4, e6, e7, e8, e9, e10, go_sem, reduceIte, Nat.reduceAdd, Nat.reduceSub, Nat.reduceLT, Nat.reduceLeDiff, reduceCtorEq, Nat.reduceEqDiff, Int.reduceToNat]
      refine hone _ _ (nx1 + 3) ?_ (by omega) ?_ ?_ ?_ _
      · repeat (first | exact hle | refine hle3 _ (by omega) ?_ _)
      · simp only [h1, e1, e2, e4, e6, e7, e8, e9, e10, go_sem, reduceIte, Nat.reduceAdd, Nat.reduceSub, Nat.reduceLT, Nat.reduceLeDiff, reduceCtorEq, Nat.reduceEqDiff, Int.reduceToNat]
      · simp only [h1, e1, e2, e4, e6, e7, e8, e9, e10, go_sem, reduceIte, Nat.reduceAdd, Nat.reduceSub, Nat.reduceLT, Nat.reduceLeDiff, reduceCtorEq, Nat.reduceEqDiff, Int.reduceToNat]
      · have : xs.take (0 + 1) = [xs[0]] := by
          cases xs with
          | nil => simp at hi'
          | cons x l => simp
        rw [this]
        simp only [List.map_cons, List.map_nil, go_sem, reduceIte, Nat.reduceAdd, Nat.reduceSub, Nat.reduceLT, Nat.reduceLeDiff, reduceCtorEq, Nat.reduceEqDiff, Int.reduceToNat]
        have : (nx1 + 3 = nx) = False := by simp; omega
        simp only [this, go_sem, reduceIte, Nat.reduceAdd, Nat.reduceSub, Nat.reduceLT, Nat.reduceLeDiff, reduceCtorEq, Nat.reduceEqDiff, Int.reduceToNat]
    · have hid : id < nx1 := hdm _ _ h7
      have f1 : (id = nx1) = False := by simp; omega
      have f2 : (id = nx1 + 2) = False := by simp; omega
      have f3 : (id = nx) = False := by simp; omega
      have f4 : (id = nx + 1) = False := by simp; omega
      have f5 : (id = nx1 + 3) = False := by simp; omega
      have f6 : (nx = id) = False := by simp; omega
      have f7 : (nx + 1 = id) = False := by simp; omega
      have f8 : (nx1 + 3 = id) = False := by simp; omega
      have hlen : ((xs.take i).map e).length = i := by simp; omega
      have hb1 : (i + 1) * bs ≤ 140737488355328 := bound_mul (by omega) hbs
      refine lops_go1 rfl (by simp only [h1, h7, hlen, hb1, hfit, hz, e1, e2, e4, e6, e7, e8, e9, e10, f1, f2, f3, f4, f5, f6, f7, f8, go_sem, reduceIte, Nat.reduceAdd, Nat.reduceSub, Nat.reduceLT, Nat.reduceLeDiff, reduceCtorEq, Nat.reduceEqDiff, Int.reduceToNat]; try omega) ?_
      simp only [h1, h7, hlen, hb1, hfit, hz, e1, e2, e4, e6, e7, e8, e9, e10, f1, f2, f3, f4, f5, f6, f7, f8, go_sem, reduceIte, Nat.reduceAdd, Nat.reduceSub, Nat.reduceLT, Nat.reduceLeDiff, reduceCtorEq, Nat.reduceEqDiff, Int.reduceToNat]
      refine hone _ _ (nx1 + 3) ?_ (by omega) ?_ ?_ ?_ _
      · repeat (first | exact hle | refine hle3 _ (by omega) ?_ _ | refine le_del ?_ (hnone _ h3))
      · simp only [h1, e1, e2, e4, e6, e7, e8, e9, e10, go_sem, reduceIte, Nat.reduceAdd, Nat.reduceSub, Nat.reduceLT, Nat.reduceLeDiff, reduceCtorEq, Nat.reduceEqDiff, Int.reduceToNat]
      · simp only [h1, e1, e2, e4, e6, e7, e8, e9, e10, f6, f7, go_sem, reduceIte, Nat.reduceAdd, Nat.reduceSub, Nat.reduceLT, Nat.reduceLeDiff, reduceCtorEq, Nat.reduceEqDiff, Int.reduceToNat]
      · have : (nx1 + 3 = nx) = False := by simp; omega
        rw [List.take_succ_eq_append_getElem hi', List.map_append]
        simp only [this, List.map_cons, List.map_nil, go_sem, reduceIte, Nat.reduceAdd, Nat.reduceSub, Nat.reduceLT, Nat.reduceLeDiff, reduceCtorEq, Nat.reduceEqDiff, Int.reduceToNat]
  · intro h nx1 hii hnx hdm
    obtain ⟨hle, acc, h1, h2⟩ := (hI _ _ _).1 hii
    simp only at hnx
    have e1 : (nx = nx + 1) = False := by simp
    repeat (first | with_reducible refine lwp_seq ?_ | with_reducible refine lwp_block ?_ | with_reducible refine lwp_skip ?_ | with_reducible refine seqQ_normal ?_ | with_reducible refine blockQ_normal ?_ | with_reducible refine lwp_ops ?_ | (refine lops_go1 rfl (by simp only [h1, e1, go_sem, reduceIte, Nat.reduceAdd, Nat.reduceSub, Nat.reduceLT, Nat.reduceLeDiff, reduceCtorEq, Nat.reduceEqDiff, Int.reduceToNat]; try omega) ?_; simp only [h1, e1, go_sem, reduceIte, Nat.reduceAdd, Nat.reduceSub, Nat.reduceLT, Nat.reduceLeDiff, reduceCtorEq, Nat.reduceEqDiff, Int.reduceToNat]) | (with_reducible refine lops_done ?_))
    rcases h2 with ⟨h2, rfl⟩ | ⟨hpos, id, h3, h4, h5, rfl, h7⟩
    · refine lwp_ret (ret_slot h' ?_ (.inl ⟨?_, ?_, rfl⟩))
      · exact le_del hle (hnone _ (by simp))
      · cases xs with
        | nil => rfl
        | cons x l => simp at h2
      · simp only [go_sem, reduceIte, Nat.reduceAdd, Nat.reduceSub, Nat.reduceLT, Nat.reduceLeDiff, reduceCtorEq, Nat.reduceEqDiff, Int.reduceToNat]
    · have hne : xs ≠ [] := by rintro rfl; simp at hpos
      refine lwp_ret (ret_slot (h'.set id (.arr k (xs.map e))) ?_ (.inr ⟨hne, id, h3, ?_, rfl⟩))
      · refine set_le_of (le_del hle (hnone _ (by simp))) ?_
        simp only [Hp.del_app]
        rw [if_neg h5, h7]
        simp
      · simp only [List.length_map, go_sem, reduceIte, Nat.reduceAdd, Nat.reduceSub, Nat.reduceLT, Nat.reduceLeDiff, reduceCtorEq, Nat.reduceEqDiff, Int.reduceToNat]

theorem collect_lib {f f0 bs : Nat} {z : V} (hL : lowerFn P f = some (LB.Collect k f0)) (hL0 : lowerFn P f0 = some (LB.AppendSeq k z bs)) (hz : z.fits k = true) (hbs : bs ≤ 140737) (g : Nat) (caps : List V) (hb : Hp) (xs : List α) (hit : Iter P g caps hb (xs.map fun x => [e x])) (hl : xs.length ≤ 100000000)
    (h' : Hp) (nx : Nat) (hh : hb.has h') :
    ACalls P f [.fn (.func g) [] caps] h' nx fun v h'' _ => (xs = [] ∧ v = .sl k .nil [] ∧ h'' = h') ∨ (xs ≠ [] ∧ ∃ id, nx ≤ id ∧ v = .rs id k 0 xs.length ∧ h'' = h'.set id (.arr k (xs.map e))) := by
  refine acalls_walk hL fun hd => ?_
  simp only [List.length_cons, List.length_nil, Nat.reduceAdd, Nat.reduceSub, List.replicate_succ, List.replicate_zero, List.cons_append, List.nil_append, V.undef]
  repeat (first | with_reducible refine lwp_seq ?_ | with_reducible refine lwp_block ?_ | with_reducible refine lwp_skip ?_ | with_reducible refine seqQ_normal ?_ | with_reducible refine blockQ_normal ?_ | with_reducible refine lwp_ops ?_ | (refine lops_go1 rfl (by simp only [ go_sem, reduceIte, Nat.reduceAdd, Nat.reduceSub, Nat.reduceLT, Nat.reduceLeDiff, reduceCtorEq, Nat.reduceEqDiff, Int.reduceToNat]; try omega) ?_; simp only [ go_sem, reduceIte, Nat.reduceAdd, Nat.reduceSub, Nat.reduceLT, Nat.reduceLeDiff, reduceCtorEq, Nat.reduceEqDiff, Int.reduceToNat]) | (with_reducible refine lops_done ?_))
  refine lops_call ((appendSeq_lib e hfit hL0 hz hbs g caps hb xs hit hl _ _ hh).mono ?_)
  intro v h'' nx' hnx hv
  unfold callQ
  simp only [go_sem, reduceIte, Nat.reduceAdd, Nat.reduceSub, Nat.reduceLT, Nat.reduceLeDiff, reduceCtorEq, Nat.reduceEqDiff, Int.reduceToNat]
  repeat (first | with_reducible refine lwp_seq ?_ | with_reducible refine lwp_block ?_ | with_reducible refine lwp_skip ?_ | with_reducible refine seqQ_normal ?_ | with_reducible refine blockQ_normal ?_ | with_reducible refine lwp_ops ?_ | (refine lops_go1 rfl (by simp only [ go_sem, reduceIte, Nat.reduceAdd, Nat.reduceSub, Nat.reduceLT, Nat.reduceLeDiff, reduceCtorEq, Nat.reduceEqDiff, Int.reduceToNat]; try omega) ?_; simp only [ go_sem, reduceIte, Nat.reduceAdd, Nat.reduceSub, Nat.reduceLT, Nat.reduceLeDiff, reduceCtorEq, Nat.reduceEqDiff, Int.reduceToNat]) | (with_reducible refine lops_done ?_))
  exact lwp_ret (ret_slot h'' (Hp.le_refl _) hv)
end

end Go.Proofs.Ythcedfamidlbdaa
