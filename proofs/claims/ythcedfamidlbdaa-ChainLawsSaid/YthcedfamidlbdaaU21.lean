/-
Contracts of package chain that sort nothing, and of the law's Document. No conditions.
-/
import Derived.Test.YthcedfamidlbdaaT21
namespace Go.Proofs.Ythcedfamidlbdaa
set_option linter.unusedSimpArgs false
set_option linter.unusedVariables false
set_option linter.unusedSectionVars false
open Go.RowKit
attribute [local go_sem] okAll nextAll LOper.ok LOper.next LOp.ok LOp.next LVal.ok LVal.out LArg.ev putV binOK pick_true pick_false pick_bool V.fits V.leafy V.cells V.cell V.undef partOK loadPart storePart Sh.size Hp.set Hp.del addHp delHp dokAll dnextAll LOper.dok LOper.dres LOp.dok LOp.dout dput conOK conAt untaken wrHp Hp.turn veq veqL leafEq List.take_succ_cons List.take_zero List.take_nil List.drop_succ_cons List.drop_zero List.drop_nil List.set_cons_succ List.set_cons_zero List.getD_cons_succ List.getD_cons_zero List.length_cons List.length_nil List.map_cons List.map_nil List.all_cons List.all_nil List.mem_cons List.not_mem_nil List.replicate_succ List.replicate_zero List.cons_append List.nil_append List.append_nil List.isEmpty_cons List.isEmpty_nil appOwn appHp appOK Option.getD_some Option.isSome_some Nat.add_eq Nat.zero_add Nat.add_zero true_and and_true and_self true_implies implies_true false_implies forall_const forall_eq forall_eq_or_imp ne_eq not_false_eq_true not_true_eq_false Bool.not_true Bool.not_false decide_true decide_false Bool.and_true Bool.true_and Bool.and_false Bool.false_and true_or or_true false_or or_false eq_self Bool.false_eq_true nxNe nxNe' tupOf mkFrom bval ogive cutOwn cutE_nil cutE_full cutE_tok cutE_free_nil cutE_free_cons selems Int.toNat_natCast Int.toNat_zero List.take_length

theorem reaches1_pure (x t : Tm) (n : Nat) (h : Hp) (hn : h n = some (.arr (.agg 2) [t.v])) : Pure Try.prog 29 [x.v, .ptr n (.agg 2) 0 0] h (.bool (x.le t)) := by
  refine pure_of (fun L => trivial) fun h' nx hh => acalls_walk L.chain_Reaches_1_low fun hd => ?_
  simp only [List.length_cons, List.length_nil, Nat.reduceAdd, Nat.reduceSub, List.replicate_succ, List.replicate_zero, List.cons_append, List.nil_append, V.undef]
  have hn' := hh _ _ _ hn
  have hlt := hd _ _ hn'
  have hne : (n = nx) = False := by simp; omega
  have hne2 : (n = nx + 1) = False := by simp; omega
  refine lwp_seq (lwp_ops ?_)
  refine lops_take 2 rfl (by simp only [L.chain_Reaches_1_r0, Tm.v, go_sem, reduceIte, Nat.reduceAdd, Nat.reduceSub, Nat.reduceLT, Nat.reduceLeDiff, reduceCtorEq, Nat.reduceEqDiff, Int.reduceToNat]; try omega) ?_
  simp only [L.chain_Reaches_1_r0, Tm.v, go_sem, reduceIte, Nat.reduceAdd, Nat.reduceSub, Nat.reduceLT, Nat.reduceLeDiff, reduceCtorEq, Nat.reduceEqDiff, Int.reduceToNat]
  refine seqQ_normal (lwp_seq (lwp_ops ?_))
  simp only [Tm.v] at hn'
  refine lops_take 2 rfl (by simp only [L.chain_Reaches_1_r1, Tm.v, hn', hne, go_sem, reduceIte, Nat.reduceAdd, Nat.reduceSub, Nat.reduceLT, Nat.reduceLeDiff, reduceCtorEq, Nat.reduceEqDiff, Int.reduceToNat]; try omega) ?_
  simp only [L.chain_Reaches_1_r1, Tm.v, hn', hne, go_sem, reduceIte, Nat.reduceAdd, Nat.reduceSub, Nat.reduceLT, Nat.reduceLeDiff, reduceCtorEq, Nat.reduceEqDiff, Int.reduceToNat]
  refine lops_pure (atMost_pure x t _) (by simp only [Tm.v, go_sem, reduceIte, Nat.reduceAdd, Nat.reduceSub, Nat.reduceLT, Nat.reduceLeDiff, reduceCtorEq, Nat.reduceEqDiff, Int.reduceToNat]) (has_refl _) ?_
  simp only [go_sem, reduceIte, Nat.reduceAdd, Nat.reduceSub, Nat.reduceLT, Nat.reduceLeDiff, reduceCtorEq, Nat.reduceEqDiff, Int.reduceToNat]
  refine lops_take 1 rfl (by simp only [L.chain_Reaches_1_r1,  go_sem, reduceIte, Nat.reduceAdd, Nat.reduceSub, Nat.reduceLT, Nat.reduceLeDiff, reduceCtorEq, Nat.reduceEqDiff, Int.reduceToNat]; try omega) ?_
  simp only [L.chain_Reaches_1_r1,  go_sem, reduceIte, Nat.reduceAdd, Nat.reduceSub, Nat.reduceLT, Nat.reduceLeDiff, reduceCtorEq, Nat.reduceEqDiff, Int.reduceToNat]
  refine seqQ_normal (lwp_ret (ret_slot h' (le_of_fresh hd (Hp.le_refl _) (by omega) _) ⟨?_, rfl⟩))
  simp only [go_sem, reduceIte, Nat.reduceAdd, Nat.reduceSub, Nat.reduceLT, Nat.reduceLeDiff, reduceCtorEq, Nat.reduceEqDiff, Int.reduceToNat]

theorem reaches_pure (own : Own) (l : List Tm) (t : Tm) (h : Hp) (hl : l.length ≤ 1000000) : Pure Try.prog 9 [tms own l, t.v] h (.bool (l.any fun x => x.le t)) := by
  refine pure_of (fun L => trivial) fun h' nx hh => acalls_walk L.chain_Reaches_low fun hd => ?_
  simp only [List.length_cons, List.length_nil, Nat.reduceAdd, Nat.reduceSub, List.replicate_succ, List.replicate_zero, List.cons_append, List.nil_append, V.undef]
  refine lwp_seq (lwp_ops ?_)
  refine lops_take 2 rfl (by simp only [L.chain_Reaches_r0, Tm.v, go_sem, reduceIte, Nat.reduceAdd, Nat.reduceSub, Nat.reduceLT, Nat.reduceLeDiff, reduceCtorEq, Nat.reduceEqDiff, Int.reduceToNat]; try omega) ?_
  simp only [L.chain_Reaches_r0, Tm.v, go_sem, reduceIte, Nat.reduceAdd, Nat.reduceSub, Nat.reduceLT, Nat.reduceLeDiff, reduceCtorEq, Nat.reduceEqDiff, Int.reduceToNat]
  refine seqQ_normal (lwp_seq (lwp_ops ?_))
  refine lops_take 2 rfl (by simp only [L.chain_Reaches_r1, Tm.v, go_sem, reduceIte, Nat.reduceAdd, Nat.reduceSub, Nat.reduceLT, Nat.reduceLeDiff, reduceCtorEq, Nat.reduceEqDiff, Int.reduceToNat]; try omega) ?_
  simp only [L.chain_Reaches_r1, Tm.v, go_sem, reduceIte, Nat.reduceAdd, Nat.reduceSub, Nat.reduceLT, Nat.reduceLeDiff, reduceCtorEq, Nat.reduceEqDiff, Int.reduceToNat]
  refine lops_pure (containsFunc_pure (fun x => x.le t) own l _ _ _ (fun x => reaches1_pure x t nx _ (by simp [Tm.v, Hp.set])) hl) (by simp only [Tm.v, go_sem, reduceIte, Nat.reduceAdd, Nat.reduceSub, Nat.reduceLT, Nat.reduceLeDiff, reduceCtorEq, Nat.reduceEqDiff, Int.reduceToNat]) (has_refl _) ?_
  simp only [go_sem, reduceIte, Nat.reduceAdd, Nat.reduceSub, Nat.reduceLT, Nat.reduceLeDiff, reduceCtorEq, Nat.reduceEqDiff, Int.reduceToNat]
  refine lops_take 1 rfl (by simp only [L.chain_Reaches_r1,  go_sem, reduceIte, Nat.reduceAdd, Nat.reduceSub, Nat.reduceLT, Nat.reduceLeDiff, reduceCtorEq, Nat.reduceEqDiff, Int.reduceToNat]; try omega) ?_
  simp only [L.chain_Reaches_r1,  go_sem, reduceIte, Nat.reduceAdd, Nat.reduceSub, Nat.reduceLT, Nat.reduceLeDiff, reduceCtorEq, Nat.reduceEqDiff, Int.reduceToNat]
  refine seqQ_normal (lwp_ret (ret_slot h' (le_of_fresh hd (Hp.le_refl _) (by omega) _) ⟨?_, rfl⟩))
  simp only [go_sem, reduceIte, Nat.reduceAdd, Nat.reduceSub, Nat.reduceLT, Nat.reduceLeDiff, reduceCtorEq, Nat.reduceEqDiff, Int.reduceToNat]

theorem done1_pure (x : Tm) (m : Int) (n : Nat) (h : Hp) (hn : h n = some (.arr .leaf [.int .i64 m])) : Pure Try.prog 32 [x.v, .ptr n .leaf 0 0] h (.bool (decide (x.e ≤ m))) := by
  refine pure_of (fun L => trivial) fun h' nx hh => acalls_walk L.chain_Done_1_low fun hd => ?_
  simp only [List.length_cons, List.length_nil, Nat.reduceAdd, Nat.reduceSub, List.replicate_succ, List.replicate_zero, List.cons_append, List.nil_append, V.undef]
  have hn' := hh _ _ _ hn
  have hlt := hd _ _ hn'
  have hne : (n = nx) = False := by simp; omega
  refine lwp_seq (lwp_ops ?_)
  refine lops_take 2 rfl (by simp only [L.chain_Done_1_r0, Tm.v, go_sem, reduceIte, Nat.reduceAdd, Nat.reduceSub, Nat.reduceLT, Nat.reduceLeDiff, reduceCtorEq, Nat.reduceEqDiff, Int.reduceToNat]; try omega) ?_
  simp only [L.chain_Done_1_r0, Tm.v, go_sem, reduceIte, Nat.reduceAdd, Nat.reduceSub, Nat.reduceLT, Nat.reduceLeDiff, reduceCtorEq, Nat.reduceEqDiff, Int.reduceToNat]
  refine seqQ_normal (lwp_seq (lwp_ops ?_))
  refine lops_take 5 rfl (by simp only [L.chain_Done_1_r1, Tm.v, hn', hne, go_sem, reduceIte, Nat.reduceAdd, Nat.reduceSub, Nat.reduceLT, Nat.reduceLeDiff, reduceCtorEq, Nat.reduceEqDiff, Int.reduceToNat]; try omega) ?_
  simp only [L.chain_Done_1_r1, Tm.v, hn', hne, go_sem, reduceIte, Nat.reduceAdd, Nat.reduceSub, Nat.reduceLT, Nat.reduceLeDiff, reduceCtorEq, Nat.reduceEqDiff, Int.reduceToNat]
  refine seqQ_normal (lwp_ret (ret_slot h' (le_of_fresh hd (Hp.le_refl _) (by omega) _) ⟨?_, rfl⟩))
  simp only [go_sem, reduceIte, Nat.reduceAdd, Nat.reduceSub, Nat.reduceLT, Nat.reduceLeDiff, reduceCtorEq, Nat.reduceEqDiff, Int.reduceToNat]

theorem done_pure (own : Own) (l : List Tm) (m : Int) (h : Hp) (hl : l.length ≤ 1000000) : Pure Try.prog 12 [tms own l, .int .i64 m] h (.bool (!(l.any fun x => decide (x.e ≤ m)))) := by
  refine pure_of (fun L => trivial) fun h' nx hh => acalls_walk L.chain_Done_low fun hd => ?_
  simp only [List.length_cons, List.length_nil, Nat.reduceAdd, Nat.reduceSub, List.replicate_succ, List.replicate_zero, List.cons_append, List.nil_append, V.undef]
  refine lwp_seq (lwp_ops ?_)
  refine lops_take 2 rfl (by simp only [L.chain_Done_r0,  go_sem, reduceIte, Nat.reduceAdd, Nat.reduceSub, Nat.reduceLT, Nat.reduceLeDiff, reduceCtorEq, Nat.reduceEqDiff, Int.reduceToNat]; try omega) ?_
  simp only [L.chain_Done_r0,  go_sem, reduceIte, Nat.reduceAdd, Nat.reduceSub, Nat.reduceLT, Nat.reduceLeDiff, reduceCtorEq, Nat.reduceEqDiff, Int.reduceToNat]
  refine seqQ_normal (lwp_seq (lwp_ops ?_))
  refine lops_take 2 rfl (by simp only [L.chain_Done_r1,  go_sem, reduceIte, Nat.reduceAdd, Nat.reduceSub, Nat.reduceLT, Nat.reduceLeDiff, reduceCtorEq, Nat.reduceEqDiff, Int.reduceToNat]; try omega) ?_
  simp only [L.chain_Done_r1,  go_sem, reduceIte, Nat.reduceAdd, Nat.reduceSub, Nat.reduceLT, Nat.reduceLeDiff, reduceCtorEq, Nat.reduceEqDiff, Int.reduceToNat]
  refine lops_pure (containsFunc_pure (fun x => decide (x.e ≤ m)) own l _ _ _ (fun x => done1_pure x m nx _ (by simp [Hp.set])) hl) (by simp only [go_sem, reduceIte, Nat.reduceAdd, Nat.reduceSub, Nat.reduceLT, Nat.reduceLeDiff, reduceCtorEq, Nat.reduceEqDiff, Int.reduceToNat]) (has_refl _) ?_
  simp only [go_sem, reduceIte, Nat.reduceAdd, Nat.reduceSub, Nat.reduceLT, Nat.reduceLeDiff, reduceCtorEq, Nat.reduceEqDiff, Int.reduceToNat]
  refine lops_take 2 rfl (by simp only [L.chain_Done_r1,  go_sem, reduceIte, Nat.reduceAdd, Nat.reduceSub, Nat.reduceLT, Nat.reduceLeDiff, reduceCtorEq, Nat.reduceEqDiff, Int.reduceToNat]; try omega) ?_
  simp only [L.chain_Done_r1,  go_sem, reduceIte, Nat.reduceAdd, Nat.reduceSub, Nat.reduceLT, Nat.reduceLeDiff, reduceCtorEq, Nat.reduceEqDiff, Int.reduceToNat]
  refine seqQ_normal (lwp_ret (ret_slot h' (le_of_fresh hd (Hp.le_refl _) (by omega) _) ⟨?_, rfl⟩))
  simp only [go_sem, reduceIte, Nat.reduceAdd, Nat.reduceSub, Nat.reduceLT, Nat.reduceLeDiff, reduceCtorEq, Nat.reduceEqDiff, Int.reduceToNat]

theorem atMost1_pure (x : Tm) (own : Own) (a : List Tm) (n : Nat) (h : Hp) (hn : h n = some (.arr .leaf [tms own a])) (hl : a.length ≤ 1000000) : Pure Try.prog 41 [x.v, .ptr n .leaf 0 0] h (.bool (!(a.any fun y => y.le x))) := by
  refine pure_of (fun L => trivial) fun h' nx hh => acalls_walk L.chain_AtMost_1_low fun hd => ?_
  simp only [List.length_cons, List.length_nil, Nat.reduceAdd, Nat.reduceSub, List.replicate_succ, List.replicate_zero, List.cons_append, List.nil_append, V.undef]
  have hn' := hh _ _ _ hn
  have hlt := hd _ _ hn'
  have hne : (n = nx) = False := by simp; omega
  refine lwp_seq (lwp_ops ?_)
  refine lops_take 2 rfl (by simp only [L.chain_AtMost_1_r0, Tm.v, go_sem, reduceIte, Nat.reduceAdd, Nat.reduceSub, Nat.reduceLT, Nat.reduceLeDiff, reduceCtorEq, Nat.reduceEqDiff, Int.reduceToNat]; try omega) ?_
  simp only [L.chain_AtMost_1_r0, Tm.v, go_sem, reduceIte, Nat.reduceAdd, Nat.reduceSub, Nat.reduceLT, Nat.reduceLeDiff, reduceCtorEq, Nat.reduceEqDiff, Int.reduceToNat]
  refine seqQ_normal (lwp_seq (lwp_ops ?_))
  refine lops_take 2 rfl (by simp only [L.chain_AtMost_1_r1, Tm.v, hn', hne, go_sem, reduceIte, Nat.reduceAdd, Nat.reduceSub, Nat.reduceLT, Nat.reduceLeDiff, reduceCtorEq, Nat.reduceEqDiff, Int.reduceToNat]; try omega) ?_
  simp only [L.chain_AtMost_1_r1, Tm.v, hn', hne, go_sem, reduceIte, Nat.reduceAdd, Nat.reduceSub, Nat.reduceLT, Nat.reduceLeDiff, reduceCtorEq, Nat.reduceEqDiff, Int.reduceToNat]
  refine lops_pure (reaches_pure own a x _ hl) (by simp only [Tm.v, tms, go_sem, reduceIte, Nat.reduceAdd, Nat.reduceSub, Nat.reduceLT, Nat.reduceLeDiff, reduceCtorEq, Nat.reduceEqDiff, Int.reduceToNat]) (has_refl _) ?_
  simp only [go_sem, reduceIte, Nat.reduceAdd, Nat.reduceSub, Nat.reduceLT, Nat.reduceLeDiff, reduceCtorEq, Nat.reduceEqDiff, Int.reduceToNat]
  refine lops_take 2 rfl (by simp only [L.chain_AtMost_1_r1,  go_sem, reduceIte, Nat.reduceAdd, Nat.reduceSub, Nat.reduceLT, Nat.reduceLeDiff, reduceCtorEq, Nat.reduceEqDiff, Int.reduceToNat]; try omega) ?_
  simp only [L.chain_AtMost_1_r1,  go_sem, reduceIte, Nat.reduceAdd, Nat.reduceSub, Nat.reduceLT, Nat.reduceLeDiff, reduceCtorEq, Nat.reduceEqDiff, Int.reduceToNat]
  refine seqQ_normal (lwp_ret (ret_slot h' (le_of_fresh hd (Hp.le_refl _) (by omega) _) ⟨?_, rfl⟩))
  simp only [go_sem, reduceIte, Nat.reduceAdd, Nat.reduceSub, Nat.reduceLT, Nat.reduceLeDiff, reduceCtorEq, Nat.reduceEqDiff, Int.reduceToNat]

theorem chainAtMost_pure (own own' : Own) (a b : List Tm) (h : Hp) (ha : a.length ≤ 1000000) (hb : b.length ≤ 1000000) : Pure Try.prog 21 [tms own a, tms own' b] h (.bool (!(b.any fun x => !(a.any fun y => y.le x)))) := by
  refine pure_of (fun L => trivial) fun h' nx hh => acalls_walk L.chain_AtMost_low fun hd => ?_
  simp only [List.length_cons, List.length_nil, Nat.reduceAdd, Nat.reduceSub, List.replicate_succ, List.replicate_zero, List.cons_append, List.nil_append, V.undef]
  refine lwp_seq (lwp_ops ?_)
  refine lops_take 2 rfl (by simp only [L.chain_AtMost_r0, tms, go_sem, reduceIte, Nat.reduceAdd, Nat.reduceSub, Nat.reduceLT, Nat.reduceLeDiff, reduceCtorEq, Nat.reduceEqDiff, Int.reduceToNat]; try omega) ?_
  simp only [L.chain_AtMost_r0, tms, go_sem, reduceIte, Nat.reduceAdd, Nat.reduceSub, Nat.reduceLT, Nat.reduceLeDiff, reduceCtorEq, Nat.reduceEqDiff, Int.reduceToNat]
  refine seqQ_normal (lwp_seq (lwp_ops ?_))
  refine lops_take 2 rfl (by simp only [L.chain_AtMost_r1, tms, go_sem, reduceIte, Nat.reduceAdd, Nat.reduceSub, Nat.reduceLT, Nat.reduceLeDiff, reduceCtorEq, Nat.reduceEqDiff, Int.reduceToNat]; try omega) ?_
  simp only [L.chain_AtMost_r1, tms, go_sem, reduceIte, Nat.reduceAdd, Nat.reduceSub, Nat.reduceLT, Nat.reduceLeDiff, reduceCtorEq, Nat.reduceEqDiff, Int.reduceToNat]
  refine lops_pure (containsFunc_pure (fun x => !(a.any fun y => y.le x)) own' b _ _ _ (fun x => atMost1_pure x own a nx _ (by simp [tms, Hp.set]) ha) hb) (by simp only [tms, go_sem, reduceIte, Nat.reduceAdd, Nat.reduceSub, Nat.reduceLT, Nat.reduceLeDiff, reduceCtorEq, Nat.reduceEqDiff, Int.reduceToNat]) (has_refl _) ?_
  simp only [go_sem, reduceIte, Nat.reduceAdd, Nat.reduceSub, Nat.reduceLT, Nat.reduceLeDiff, reduceCtorEq, Nat.reduceEqDiff, Int.reduceToNat]
  refine lops_take 2 rfl (by simp only [L.chain_AtMost_r1,  go_sem, reduceIte, Nat.reduceAdd, Nat.reduceSub, Nat.reduceLT, Nat.reduceLeDiff, reduceCtorEq, Nat.reduceEqDiff, Int.reduceToNat]; try omega) ?_
  simp only [L.chain_AtMost_r1,  go_sem, reduceIte, Nat.reduceAdd, Nat.reduceSub, Nat.reduceLT, Nat.reduceLeDiff, reduceCtorEq, Nat.reduceEqDiff, Int.reduceToNat]
  refine seqQ_normal (lwp_ret (ret_slot h' (le_of_fresh hd (Hp.le_refl _) (by omega) _) ⟨?_, rfl⟩))
  simp only [go_sem, reduceIte, Nat.reduceAdd, Nat.reduceSub, Nat.reduceLT, Nat.reduceLeDiff, reduceCtorEq, Nat.reduceEqDiff, Int.reduceToNat]

theorem ratMostAll_pure (own own' : Own) (a b : List Tm) (h : Hp) (ha : a.length ≤ 1000000) (hb : b.length ≤ 1000000) : Pure Try.prog 23 [tms own a, tms own' b] h (.bool (!(b.any fun x => !(a.any fun y => y.le x)))) := by
  refine pure_of (fun L => trivial) fun h' nx hh => acalls_walk L.corollaryref21_AtMost_low fun hd => ?_
  simp only [List.length_cons, List.length_nil, Nat.reduceAdd, Nat.reduceSub, List.replicate_succ, List.replicate_zero, List.cons_append, List.nil_append, V.undef]
  refine lwp_seq (lwp_ops ?_)
  refine lops_take 1 rfl (by simp only [L.corollaryref21_AtMost_r0,  go_sem, reduceIte, Nat.reduceAdd, Nat.reduceSub, Nat.reduceLT, Nat.reduceLeDiff, reduceCtorEq, Nat.reduceEqDiff, Int.reduceToNat]; try omega) ?_
  simp only [L.corollaryref21_AtMost_r0,  go_sem, reduceIte, Nat.reduceAdd, Nat.reduceSub, Nat.reduceLT, Nat.reduceLeDiff, reduceCtorEq, Nat.reduceEqDiff, Int.reduceToNat]
  refine seqQ_normal (lwp_seq (lwp_seq (lwp_ops ?_)))
  refine lops_take 1 rfl (by simp only [L.corollaryref21_AtMost_r1,  go_sem, reduceIte, Nat.reduceAdd, Nat.reduceSub, Nat.reduceLT, Nat.reduceLeDiff, reduceCtorEq, Nat.reduceEqDiff, Int.reduceToNat]; try omega) ?_
  simp only [L.corollaryref21_AtMost_r1,  go_sem, reduceIte, Nat.reduceAdd, Nat.reduceSub, Nat.reduceLT, Nat.reduceLeDiff, reduceCtorEq, Nat.reduceEqDiff, Int.reduceToNat]
  refine seqQ_normal (lwp_block (lwp_loop (fun k : Nat => k ≤ b.length ∧ (b.take k).any (fun x => !(a.any fun y => y.le x)) = false) (fun k => ⟨mkFrom 19 0 [(0, tms own a), (1, tms own' b), (5, .int .i64 k)], h', nx⟩) (fun k => b.length - k) 0 ⟨Nat.zero_le _, by simp⟩ ?_ ?_))
  · refine wk_mk (by simp only [WkL, mkFrom, Int.natCast_add, Int.natCast_one, Int.natCast_zero, Tm.v, tms, go_sem, reduceIte, Nat.reduceAdd, Nat.reduceSub, Nat.reduceLT, Nat.reduceLeDiff, reduceCtorEq, Nat.reduceEqDiff, Int.reduceToNat]) ?_ ?_
    · exact Hp.le_refl _
    · omega
  · rintro k ⟨hk, hno⟩
    simp only [mkFrom, go_sem, reduceIte, Nat.reduceAdd, Nat.reduceSub, Nat.reduceLT, Nat.reduceLeDiff, reduceCtorEq, Nat.reduceEqDiff, Int.reduceToNat]
    refine lwp_seq (lwp_seq (lwp_ops ?_))
    refine lops_take 4 rfl (by simp only [L.corollaryref21_AtMost_r2, tms, List.length_map, go_sem, reduceIte, Nat.reduceAdd, Nat.reduceSub, Nat.reduceLT, Nat.reduceLeDiff, reduceCtorEq, Nat.reduceEqDiff, Int.reduceToNat]; try omega) ?_
    simp only [L.corollaryref21_AtMost_r2, tms, List.length_map, go_sem, reduceIte, Nat.reduceAdd, Nat.reduceSub, Nat.reduceLT, Nat.reduceLeDiff, reduceCtorEq, Nat.reduceEqDiff, Int.reduceToNat]
    refine seqQ_normal (lwp_cond _ rfl (fun hc => ?_) (fun hc => ?_))
    · have hlt : k < b.length := by simpa using hc
      have hg := getD_map Tm.v b k hlt
      refine lwp_skip (seqQ_normal (lwp_seq (lwp_block (lwp_seq (lwp_ops ?_)))))
      refine lops_take 5 rfl (by simp only [L.corollaryref21_AtMost_r3, tms, List.length_map, Int.toNat_natCast, hg, Tm.v, go_sem, reduceIte, Nat.reduceAdd, Nat.reduceSub, Nat.reduceLT, Nat.reduceLeDiff, reduceCtorEq, Nat.reduceEqDiff, Int.reduceToNat]; try omega) ?_
      simp only [L.corollaryref21_AtMost_r3, tms, List.length_map, Int.toNat_natCast, hg, Tm.v, go_sem, reduceIte, Nat.reduceAdd, Nat.reduceSub, Nat.reduceLT, Nat.reduceLeDiff, reduceCtorEq, Nat.reduceEqDiff, Int.reduceToNat]
      refine lops_pure (rreaches_pure own a b[k] _ ha) (by simp only [Tm.v, tms, go_sem, reduceIte, Nat.reduceAdd, Nat.reduceSub, Nat.reduceLT, Nat.reduceLeDiff, reduceCtorEq, Nat.reduceEqDiff, Int.reduceToNat]) (has_refl _) ?_
      simp only [go_sem, reduceIte, Nat.reduceAdd, Nat.reduceSub, Nat.reduceLT, Nat.reduceLeDiff, reduceCtorEq, Nat.reduceEqDiff, Int.reduceToNat]
      refine lops_take 1 rfl (by simp only [L.corollaryref21_AtMost_r3,  go_sem, reduceIte, Nat.reduceAdd, Nat.reduceSub, Nat.reduceLT, Nat.reduceLeDiff, reduceCtorEq, Nat.reduceEqDiff, Int.reduceToNat]; try omega) ?_
      simp only [L.corollaryref21_AtMost_r3,  go_sem, reduceIte, Nat.reduceAdd, Nat.reduceSub, Nat.reduceLT, Nat.reduceLeDiff, reduceCtorEq, Nat.reduceEqDiff, Int.reduceToNat]
      refine seqQ_normal (lwp_cond _ rfl (fun hc => ?_) (fun hc => ?_))
      · refine lwp_seq (lwp_ops ?_)
        refine lops_take 1 rfl (by simp only [L.corollaryref21_AtMost_r4,  go_sem, reduceIte, Nat.reduceAdd, Nat.reduceSub, Nat.reduceLT, Nat.reduceLeDiff, reduceCtorEq, Nat.reduceEqDiff, Int.reduceToNat]; try omega) ?_
        simp only [L.corollaryref21_AtMost_r4,  go_sem, reduceIte, Nat.reduceAdd, Nat.reduceSub, Nat.reduceLT, Nat.reduceLeDiff, reduceCtorEq, Nat.reduceEqDiff, Int.reduceToNat]
        refine seqQ_normal ?_
        refine lwp_ret ?_
        repeat (first | refine seqQ_ret ?_ | refine blockQ_ret ?_ | refine roundQ_ret ?_)
        refine ret_slot h' (Hp.le_refl _) ⟨?_, rfl⟩
        simp only [go_sem, reduceIte, Nat.reduceAdd, Nat.reduceSub, Nat.reduceLT, Nat.reduceLeDiff, reduceCtorEq, Nat.reduceEqDiff, Int.reduceToNat]
        have : (b.any fun x => !(a.any fun y => y.le x)) = true := List.any_eq_true.2 ⟨b[k], List.getElem_mem _, hc⟩
        rw [this]; rfl
      · refine lwp_skip (blockQ_normal (seqQ_normal (lwp_ops ?_)))
        refine lops_take 3 rfl (by simp only [L.corollaryref21_AtMost_r5,  go_sem, reduceIte, Nat.reduceAdd, Nat.reduceSub, Nat.reduceLT, Nat.reduceLeDiff, reduceCtorEq, Nat.reduceEqDiff, Int.reduceToNat]; try omega) ?_
        simp only [L.corollaryref21_AtMost_r5,  go_sem, reduceIte, Nat.reduceAdd, Nat.reduceSub, Nat.reduceLT, Nat.reduceLeDiff, reduceCtorEq, Nat.reduceEqDiff, Int.reduceToNat]
        refine roundQ_normal (k + 1) ⟨by omega, ?_⟩ (by omega) ?_
        · rw [List.take_succ_eq_append_getElem hlt, List.any_append, hno]
          simpa using hc
        · rw [wrap_in (by omega) (by omega)]
          refine wk_mk (by simp only [WkL, mkFrom, Int.natCast_add, Int.natCast_one, Int.natCast_zero, Tm.v, tms, go_sem, reduceIte, Nat.reduceAdd, Nat.reduceSub, Nat.reduceLT, Nat.reduceLeDiff, reduceCtorEq, Nat.reduceEqDiff, Int.reduceToNat]) ?_ ?_
          · exact Hp.le_refl _
          · omega
    · have hge : k = b.length := by have : ¬ k < b.length := by simpa using hc
                                    omega
      refine lwp_exit ?_
      repeat (first | refine seqQ_exit ?_ | refine roundQ_exit ?_ | refine blockQ_other (by decide) ?_)
      refine blockQ_exit ?_
      refine seqQ_normal (lwp_seq (lwp_ops ?_))
      refine lops_take 1 rfl (by simp only [L.corollaryref21_AtMost_r6,  go_sem, reduceIte, Nat.reduceAdd, Nat.reduceSub, Nat.reduceLT, Nat.reduceLeDiff, reduceCtorEq, Nat.reduceEqDiff, Int.reduceToNat]; try omega) ?_
      simp only [L.corollaryref21_AtMost_r6,  go_sem, reduceIte, Nat.reduceAdd, Nat.reduceSub, Nat.reduceLT, Nat.reduceLeDiff, reduceCtorEq, Nat.reduceEqDiff, Int.reduceToNat]
      refine seqQ_normal (lwp_ret (ret_slot h' (Hp.le_refl _) ⟨?_, rfl⟩))
      simp only [go_sem, reduceIte, Nat.reduceAdd, Nat.reduceSub, Nat.reduceLT, Nat.reduceLeDiff, reduceCtorEq, Nat.reduceEqDiff, Int.reduceToNat]
      rw [hge, List.take_length] at hno
      rw [hno]; rfl

/-- What a list that is made by appending one by one is: its array, and the memory. -/
def ownAt (nx c : Nat) : Nat → Own
  | 0 => .nil
  | k + 1 => .tok (nx + c * k + (c - 1))
def hpAt (h : Hp) (nx c : Nat) : Nat → Hp
  | 0 => h
  | k + 1 => h.set (nx + c * k + (c - 1)) .tip

theorem document_calls (own : Own) (l : List Tm) (h' : Hp) (nx : Nat) (hl : l.length ≤ 1000000) :
    ACalls Try.prog 8 [tms own l] h' nx fun v h'' _ => v = tms (ownAt nx 4 l.length) l ∧ h'' = hpAt h' nx 4 l.length := by
  refine acalls_walk L.corollarylaw21_Document_low fun hd => ?_
  simp only [List.length_cons, List.length_nil, Nat.reduceAdd, Nat.reduceSub, List.replicate_succ, List.replicate_zero, List.cons_append, List.nil_append, V.undef]
  refine lwp_seq (lwp_ops ?_)
  refine lops_take 1 rfl (by simp only [L.corollarylaw21_Document_r0,  go_sem, reduceIte, Nat.reduceAdd, Nat.reduceSub, Nat.reduceLT, Nat.reduceLeDiff, reduceCtorEq, Nat.reduceEqDiff, Int.reduceToNat]; try omega) ?_
  simp only [L.corollarylaw21_Document_r0,  go_sem, reduceIte, Nat.reduceAdd, Nat.reduceSub, Nat.reduceLT, Nat.reduceLeDiff, reduceCtorEq, Nat.reduceEqDiff, Int.reduceToNat]
  refine seqQ_normal (lwp_seq (lwp_ops ?_))
  refine lops_take 1 rfl (by simp only [L.corollarylaw21_Document_r1,  go_sem, reduceIte, Nat.reduceAdd, Nat.reduceSub, Nat.reduceLT, Nat.reduceLeDiff, reduceCtorEq, Nat.reduceEqDiff, Int.reduceToNat]; try omega) ?_
  simp only [L.corollarylaw21_Document_r1,  go_sem, reduceIte, Nat.reduceAdd, Nat.reduceSub, Nat.reduceLT, Nat.reduceLeDiff, reduceCtorEq, Nat.reduceEqDiff, Int.reduceToNat]
  refine seqQ_normal (lwp_seq (lwp_seq (lwp_ops ?_)))
  refine lops_take 3 rfl (by simp only [L.corollarylaw21_Document_r2, tms, List.length_map, go_sem, reduceIte, Nat.reduceAdd, Nat.reduceSub, Nat.reduceLT, Nat.reduceLeDiff, reduceCtorEq, Nat.reduceEqDiff, Int.reduceToNat]; try omega) ?_
  simp only [L.corollarylaw21_Document_r2, tms, List.length_map, go_sem, reduceIte, Nat.reduceAdd, Nat.reduceSub, Nat.reduceLT, Nat.reduceLeDiff, reduceCtorEq, Nat.reduceEqDiff, Int.reduceToNat]
  refine seqQ_normal (lwp_block (lwp_loop (fun k : Nat => k ≤ l.length) (fun k => ⟨mkFrom 19 0 [(3, tms (ownAt nx 4 k) (l.take k)), (6, tms own l), (7, .int .i64 l.length), (8, .int .i64 k)], hpAt h' nx 4 k, nx + 4 * k⟩) (fun k => l.length - k) 0 (Nat.zero_le _) ?_ ?_))
  · refine wk_mk (by simp only [WkL, mkFrom, Int.natCast_add, Int.natCast_one, Int.natCast_zero, Tm.v, tms, ownAt, hpAt, go_sem, reduceIte, Nat.reduceAdd, Nat.reduceSub, Nat.reduceLT, Nat.reduceLeDiff, reduceCtorEq, Nat.reduceEqDiff, Int.reduceToNat]) ?_ ?_
    · exact Hp.le_refl _
    · omega
  · intro k hk
    simp only [mkFrom, go_sem, reduceIte, Nat.reduceAdd, Nat.reduceSub, Nat.reduceLT, Nat.reduceLeDiff, reduceCtorEq, Nat.reduceEqDiff, Int.reduceToNat]
    refine lwp_seq (lwp_ops ?_)
    refine lops_take 1 rfl (by simp only [L.corollarylaw21_Document_r3,  go_sem, reduceIte, Nat.reduceAdd, Nat.reduceSub, Nat.reduceLT, Nat.reduceLeDiff, reduceCtorEq, Nat.reduceEqDiff, Int.reduceToNat]; try omega) ?_
    simp only [L.corollarylaw21_Document_r3,  go_sem, reduceIte, Nat.reduceAdd, Nat.reduceSub, Nat.reduceLT, Nat.reduceLeDiff, reduceCtorEq, Nat.reduceEqDiff, Int.reduceToNat]
    refine seqQ_normal (lwp_seq (lwp_cond _ rfl (fun hc => ?_) (fun hc => ?_)))
    · have hlt : k < l.length := by simpa using hc
      have hg := getD_map Tm.v l k hlt
      have ht : l.take (k + 1) = l.take k ++ [l[k]] := List.take_succ_eq_append_getElem hlt
      have hbound : (min k l.length + 1) * 16 ≤ 140737488355328 := by omega
      refine lwp_skip (seqQ_normal (lwp_seq (lwp_block (lwp_seq (lwp_ops ?_)))))
      cases k with
      | zero =>
        refine lops_take 4 rfl (by simp only [L.corollarylaw21_Document_r4, tms, List.length_map, Int.toNat_natCast, hg, Tm.v, ownAt, hpAt, go_sem, reduceIte, Nat.reduceAdd, Nat.reduceSub, Nat.reduceLT, Nat.reduceLeDiff, reduceCtorEq, Nat.reduceEqDiff, Int.reduceToNat]; try omega) ?_
        simp only [L.corollarylaw21_Document_r4, tms, List.length_map, Int.toNat_natCast, hg, Tm.v, ownAt, hpAt, go_sem, reduceIte, Nat.reduceAdd, Nat.reduceSub, Nat.reduceLT, Nat.reduceLeDiff, reduceCtorEq, Nat.reduceEqDiff, Int.reduceToNat]
        refine seqQ_normal (lwp_ops ?_)
        refine lops_take 2 rfl (by simp only [L.corollarylaw21_Document_r5, tms, List.length_map, Tm.v, go_sem, reduceIte, Nat.reduceAdd, Nat.reduceSub, Nat.reduceLT, Nat.reduceLeDiff, reduceCtorEq, Nat.reduceEqDiff, Int.reduceToNat]; try omega) ?_
        simp only [L.corollarylaw21_Document_r5, tms, List.length_map, Tm.v, go_sem, reduceIte, Nat.reduceAdd, Nat.reduceSub, Nat.reduceLT, Nat.reduceLeDiff, reduceCtorEq, Nat.reduceEqDiff, Int.reduceToNat]
        refine lops_pure (rtime_pure l[0] _) (by simp only [Tm.v, go_sem, reduceIte, Nat.reduceAdd, Nat.reduceSub, Nat.reduceLT, Nat.reduceLeDiff, reduceCtorEq, Nat.reduceEqDiff, Int.reduceToNat]) (has_refl _) ?_
        simp only [go_sem, reduceIte, Nat.reduceAdd, Nat.reduceSub, Nat.reduceLT, Nat.reduceLeDiff, reduceCtorEq, Nat.reduceEqDiff, Int.reduceToNat]
        refine lops_take 3 rfl (by simp only [L.corollarylaw21_Document_r5, tms, List.length_map, Tm.v, go_sem, reduceIte, Nat.reduceAdd, Nat.reduceSub, Nat.reduceLT, Nat.reduceLeDiff, reduceCtorEq, Nat.reduceEqDiff, Int.reduceToNat]; try omega) ?_
        simp only [L.corollarylaw21_Document_r5, tms, List.length_map, Tm.v, go_sem, reduceIte, Nat.reduceAdd, Nat.reduceSub, Nat.reduceLT, Nat.reduceLeDiff, reduceCtorEq, Nat.reduceEqDiff, Int.reduceToNat]
        refine blockQ_normal (seqQ_normal (lwp_ops ?_))
        refine lops_take 2 rfl (by simp only [L.corollarylaw21_Document_r6,  go_sem, reduceIte, Nat.reduceAdd, Nat.reduceSub, Nat.reduceLT, Nat.reduceLeDiff, reduceCtorEq, Nat.reduceEqDiff, Int.reduceToNat]; try omega) ?_
        simp only [L.corollarylaw21_Document_r6,  go_sem, reduceIte, Nat.reduceAdd, Nat.reduceSub, Nat.reduceLT, Nat.reduceLeDiff, reduceCtorEq, Nat.reduceEqDiff, Int.reduceToNat]
        refine roundQ_normal (0 + 1) (by omega) (by omega) ?_
        rw [wrap_in (by omega) (by omega)]
        refine wk_mk (by simp only [WkL, mkFrom, Int.natCast_add, Int.natCast_one, Int.natCast_zero, Tm.v, tms, ownAt, hpAt, ht, List.map_append, Int.zero_add, go_sem, reduceIte, Nat.reduceAdd, Nat.reduceSub, Nat.reduceLT, Nat.reduceLeDiff, reduceCtorEq, Nat.reduceEqDiff, Int.reduceToNat]) ?_ ?_
        · intro m b e
          simp only [hpAt, Hp.set] at e ⊢
          split at e
          · rw [if_pos (by omega)]; exact e
          · have := hd m b e
            repeat rw [if_neg (by omega)]
            exact e
        · omega
      | succ k =>
        have n1 : (nx + 4 * k + 3 = nx + 4 * (k + 1)) = False := by simp; omega
        have n2 : (nx + 4 * k + 3 = nx + 4 * (k + 1) + 2) = False := by simp; omega
        have n3 : (nx + 4 * k + 3 = nx + 4 * (k + 1) + 1) = False := by simp; omega
        refine lops_take 4 rfl (by simp only [L.corollarylaw21_Document_r4, tms, List.length_map, Int.toNat_natCast, hg, Tm.v, ownAt, hpAt, go_sem, reduceIte, Nat.reduceAdd, Nat.reduceSub, Nat.reduceLT, Nat.reduceLeDiff, reduceCtorEq, Nat.reduceEqDiff, Int.reduceToNat]; try omega) ?_
        simp only [L.corollarylaw21_Document_r4, tms, List.length_map, Int.toNat_natCast, hg, Tm.v, ownAt, hpAt, go_sem, reduceIte, Nat.reduceAdd, Nat.reduceSub, Nat.reduceLT, Nat.reduceLeDiff, reduceCtorEq, Nat.reduceEqDiff, Int.reduceToNat]
        refine seqQ_normal (lwp_ops ?_)
        refine lops_take 2 rfl (by simp only [L.corollarylaw21_Document_r5, tms, List.length_map, Tm.v, go_sem, reduceIte, Nat.reduceAdd, Nat.reduceSub, Nat.reduceLT, Nat.reduceLeDiff, reduceCtorEq, Nat.reduceEqDiff, Int.reduceToNat]; try omega) ?_
        simp only [L.corollarylaw21_Document_r5, tms, List.length_map, Tm.v, go_sem, reduceIte, Nat.reduceAdd, Nat.reduceSub, Nat.reduceLT, Nat.reduceLeDiff, reduceCtorEq, Nat.reduceEqDiff, Int.reduceToNat]
        refine lops_pure (rtime_pure l[k + 1] _) (by simp only [Tm.v, go_sem, reduceIte, Nat.reduceAdd, Nat.reduceSub, Nat.reduceLT, Nat.reduceLeDiff, reduceCtorEq, Nat.reduceEqDiff, Int.reduceToNat]) (has_refl _) ?_
        simp only [go_sem, reduceIte, Nat.reduceAdd, Nat.reduceSub, Nat.reduceLT, Nat.reduceLeDiff, reduceCtorEq, Nat.reduceEqDiff, Int.reduceToNat]
        refine lops_take 3 rfl (by simp only [L.corollarylaw21_Document_r5, tms, List.length_map, Tm.v, List.length_take, n1, n2, n3, go_sem, reduceIte, Nat.reduceAdd, Nat.reduceSub, Nat.reduceLT, Nat.reduceLeDiff, reduceCtorEq, Nat.reduceEqDiff, Int.reduceToNat]; try omega) ?_
        simp only [L.corollarylaw21_Document_r5, tms, List.length_map, Tm.v, List.length_take, n1, n2, n3, go_sem, reduceIte, Nat.reduceAdd, Nat.reduceSub, Nat.reduceLT, Nat.reduceLeDiff, reduceCtorEq, Nat.reduceEqDiff, Int.reduceToNat]
        refine blockQ_normal (seqQ_normal (lwp_ops ?_))
        refine lops_take 2 rfl (by simp only [L.corollarylaw21_Document_r6,  go_sem, reduceIte, Nat.reduceAdd, Nat.reduceSub, Nat.reduceLT, Nat.reduceLeDiff, reduceCtorEq, Nat.reduceEqDiff, Int.reduceToNat]; try omega) ?_
        simp only [L.corollarylaw21_Document_r6,  go_sem, reduceIte, Nat.reduceAdd, Nat.reduceSub, Nat.reduceLT, Nat.reduceLeDiff, reduceCtorEq, Nat.reduceEqDiff, Int.reduceToNat]
        refine roundQ_normal (k + 1 + 1) (by omega) (by omega) ?_
        rw [wrap_in (by omega) (by omega)]
        refine wk_mk (by simp only [WkL, mkFrom, Int.natCast_add, Int.natCast_one, Int.natCast_zero, Tm.v, tms, ownAt, hpAt, ht, List.map_append, Int.zero_add, go_sem, reduceIte, Nat.reduceAdd, Nat.reduceSub, Nat.reduceLT, Nat.reduceLeDiff, reduceCtorEq, Nat.reduceEqDiff, Int.reduceToNat]) ?_ ?_
        · intro m b e
          simp only [hpAt, Hp.set, Hp.del] at e ⊢
          split at e
          · rw [if_pos (by omega)]; exact e
          · have := hd m b e
            repeat rw [if_neg (by omega)]
            exact e
        · omega
    · have hge : k = l.length := by have : ¬ k < l.length := by simpa using hc
                                    omega
      subst hge
      refine lwp_exit ?_
      repeat (first | refine seqQ_exit ?_ | refine roundQ_exit ?_ | refine blockQ_other (by decide) ?_)
      refine blockQ_exit ?_
      refine seqQ_normal (lwp_seq (lwp_ops ?_))
      refine lops_take 2 rfl (by simp only [L.corollarylaw21_Document_r7,  go_sem, reduceIte, Nat.reduceAdd, Nat.reduceSub, Nat.reduceLT, Nat.reduceLeDiff, reduceCtorEq, Nat.reduceEqDiff, Int.reduceToNat]; try omega) ?_
      simp only [L.corollarylaw21_Document_r7,  go_sem, reduceIte, Nat.reduceAdd, Nat.reduceSub, Nat.reduceLT, Nat.reduceLeDiff, reduceCtorEq, Nat.reduceEqDiff, Int.reduceToNat]
      refine seqQ_normal (lwp_ret (ret_slot _ (Hp.le_refl _) ⟨?_, rfl⟩))
      simp only [List.take_length, go_sem, reduceIte, Nat.reduceAdd, Nat.reduceSub, Nat.reduceLT, Nat.reduceLeDiff, reduceCtorEq, Nat.reduceEqDiff, Int.reduceToNat]

end Go.Proofs.Ythcedfamidlbdaa
