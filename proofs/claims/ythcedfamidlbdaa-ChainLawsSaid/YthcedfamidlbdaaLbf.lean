/-
Generic library functions: slices.Grow at nil, slices.Concat. No program in sight. Conditions: none beyond those named.
-/
import Derived.Test.YthcedfamidlbdaaLbe
namespace Go.Proofs.Ythcedfamidlbdaa
set_option linter.unusedSimpArgs false
set_option linter.unusedVariables false
set_option linter.unusedSectionVars false
open Go.RowKit
attribute [local go_sem] Option.some.injEq Prod.mk.injEq false_and and_false Bool.true_eq_false dRun dRest dbare dMerge nones if_true Bool.true_and dgoC dgoCRest fillV okAll nextAll LOper.ok LOper.next LOp.ok LOp.next LVal.ok LVal.out LArg.ev putV binOK pick_true pick_false pick_bool V.undef Sh.size addHp dokAll dnextAll LOper.dok LOper.dres LOp.dok LOp.dout dput conOK veqL leafEq List.take_succ_cons List.take_zero List.take_nil List.drop_succ_cons List.drop_zero List.drop_nil List.set_cons_succ List.set_cons_zero List.getD_cons_succ List.getD_cons_zero List.length_cons List.length_nil List.map_cons List.map_nil List.all_cons List.all_nil List.mem_cons List.not_mem_nil List.replicate_succ List.replicate_zero List.cons_append List.nil_append List.append_nil List.isEmpty_cons List.isEmpty_nil appOwn appHp appOK Option.getD_some Option.isSome_some Nat.add_eq Nat.zero_add Nat.add_zero true_and and_true and_self true_implies implies_true false_implies forall_const forall_eq forall_eq_or_imp ne_eq not_false_eq_true not_true_eq_false Bool.not_true Bool.not_false decide_true decide_false Bool.and_true Bool.true_and Bool.and_false Bool.false_and true_or or_true false_or or_false eq_self Bool.false_eq_true nxNe nxNe' tupOf mkFrom bval ogive cutOwn cutE_nil cutE_full cutE_tok cutE_free_nil cutE_free_cons selems Int.toNat_natCast Int.toNat_zero List.take_length Hp.set_app Hp.del_app goOps goRest LOper.plain LOp.isCall LOper.dplain LOp.isStop lops_nil gRun gRest bare gMerge V.gd_true V.gd_false pick_gd pick_gdn pick_and pick_or partOK_self loadPart_self storePart_self dgoOps dgoRest beq_true beq_false partOK_ll partOK_al partOK_aa loadPart_l loadPart_a storePart_la storePart_aa fits_leaf fits_agg leafy_bool leafy_int leafy_str leafy_nilPtr leafy_ptr leafy_ept leafy_sl leafy_rs leafy_nilMap leafy_map leafy_nilChan leafy_chan leafy_fn leafy_nilFn leafy_yld leafy_iface leafy_nilIface veq_aa veq_li veq_lb veq_ls cells_agg cells_leaf cell_agg cell_leaf veq_ptr1 veq_ptr2 veq_ptr3 veq_ptr4 veq_ptr5 veq_slice1 veq_slice2 veq_func1 veq_func2 veq_func3 veq_iface1 veq_iface2 veq_iface3 veq_map1 veq_map2 veq_map3 veq_chan1 veq_chan2 veq_chan3 conAt_add conAt_zero untaken wrHp Hp.turn delHp Option.isNone_some Option.isNone_none
namespace LB
abbrev Grow_r0 (k : Sh) : List LOper := [
    ⟨some 4, none, .val (.move (.const (.sl k .nil [])))⟩]
abbrev Grow_r1 : List LOper := [
    ⟨some 5, none, .val (.move (.slot 1))⟩,
    ⟨some 6, none, .val (.bin .lss (.slot 5) (.const (.int .i64 0)))⟩]
abbrev Grow_r2 (ts : Nat) : List LOper := [
    ⟨some 7, none, .val (.mkif ts (.const (.str ⟨#[99, 97, 110, 110, 111, 116, 32, 98, 101, 32, 110, 101, 103, 97, 116, 105, 118, 101]⟩)))⟩,
    ⟨none, none, .val (.never)⟩]
abbrev Grow_r3 : List LOper := [
    ⟨some 8, none, .val (.move (.slot 1))⟩,
    ⟨some 9, none, .val (.move (.slot 0))⟩,
    ⟨some 10, none, .val (.capv (.slot 9))⟩,
    ⟨some 11, none, .val (.move (.slot 0))⟩,
    ⟨some 12, none, .val (.len (.slot 11))⟩,
    ⟨some 13, none, .val (.bin .sub (.slot 10) (.slot 12))⟩,
    ⟨some 14, none, .val (.bin .sub (.slot 8) (.slot 13))⟩,
    ⟨some 1, none, .val (.move (.slot 14))⟩]
abbrev Grow_r4 : List LOper := [
    ⟨some 15, none, .val (.move (.slot 1))⟩,
    ⟨some 16, none, .val (.bin .gtr (.slot 15) (.const (.int .i64 0)))⟩]
abbrev Grow_r5 (k : Sh) (z : V) (bs : Nat) : List LOper := [
    ⟨some 17, none, .val (.move (.slot 0))⟩,
    ⟨some 18, none, .val (.move (.slot 0))⟩,
    ⟨some 19, none, .val (.capv (.slot 18))⟩,
    ⟨some 20, none, .val (.slc k (.slot 17) .none (.some (.slot 19)) .none)⟩,
    ⟨some 21, none, .val (.move (.slot 1))⟩,
    ⟨some 22, none, .appz k bs (.slot 20) (.slot 21) z⟩,
    ⟨some 23, none, .val (.move (.slot 0))⟩,
    ⟨some 24, none, .val (.len (.slot 23))⟩,
    ⟨some 25, none, .val (.slc k (.slot 22) .none (.some (.slot 24)) .none)⟩,
    ⟨some 0, none, .val (.move (.slot 25))⟩]
abbrev Grow_r6 : List LOper := [
    ⟨some 26, none, .val (.move (.slot 0))⟩,
    ⟨some 4, none, .val (.move (.slot 26))⟩]
def Grow (k : Sh) (z : V) (bs : Nat) (ts : Nat) : LFn := ⟨(.seq (.ops (Grow_r0 k)) (.seq (.seq (.ops Grow_r1) (.cond (.slot 6) (.ops (Grow_r2 ts)) .skip)) (.seq (.seq (.ops Grow_r3) (.seq (.ops Grow_r4) (.cond (.slot 16) (.ops (Grow_r5 k z bs)) .skip))) (.seq (.ops Grow_r6) .ret)))), 27, [.slot 4]⟩
abbrev Concat_r0 (k : Sh) : List LOper := [
    ⟨some 2, none, .val (.move (.const (.sl k .nil [])))⟩]
abbrev Concat_r1 : List LOper := [
    ⟨some 3, none, .val (.move (.const (.int .i64 0)))⟩]
abbrev Concat_r2 : List LOper := [
    ⟨some 9, none, .val (.move (.slot 0))⟩,
    ⟨some 10, none, .val (.len (.slot 9))⟩,
    ⟨some 11, none, .val (.move (.const (.int .i64 0)))⟩]
abbrev Concat_r3 : List LOper := [
    ⟨some 12, none, .val (.bin .lss (.slot 11) (.slot 10))⟩]
abbrev Concat_r4 : List LOper := [
    ⟨some 13, none, .val (.idxA .leaf (.slot 9) (.slot 11))⟩,
    ⟨some 14, none, .val (.load .leaf (.slot 13))⟩,
    ⟨some 5, none, .val (.move (.slot 14))⟩]
abbrev Concat_r5 : List LOper := [
    ⟨some 15, none, .val (.move (.slot 3))⟩,
    ⟨some 16, none, .val (.move (.slot 5))⟩,
    ⟨some 17, none, .val (.len (.slot 16))⟩,
    ⟨some 18, none, .val (.bin .add (.slot 15) (.slot 17))⟩,
    ⟨some 3, none, .val (.move (.slot 18))⟩]
abbrev Concat_r6 : List LOper := [
    ⟨some 19, none, .val (.move (.slot 3))⟩,
    ⟨some 20, none, .val (.bin .lss (.slot 19) (.const (.int .i64 0)))⟩]
abbrev Concat_r7 (ts : Nat) : List LOper := [
    ⟨some 21, none, .val (.mkif ts (.const (.str ⟨#[108, 101, 110, 32, 111, 117, 116, 32, 111, 102, 32, 114, 97, 110, 103, 101]⟩)))⟩,
    ⟨none, none, .val (.never)⟩]
abbrev Concat_r8 : List LOper := [
    ⟨some 22, none, .val (.bin .add (.slot 11) (.const (.int .i64 1)))⟩,
    ⟨some 11, none, .val (.move (.slot 22))⟩]
abbrev Concat_l0 (ts : Nat) : LCode := (.seq (.ops Concat_r3) (.seq (.cond (.slot 12) .skip (.exit 0)) (.seq (.block 1 (.seq (.ops Concat_r4) (.seq (.ops Concat_r5) (.seq (.ops Concat_r6) (.cond (.slot 20) (.ops (Concat_r7 ts)) .skip))))) (.ops Concat_r8))))
abbrev Concat_r9 (k : Sh) (f0 : Nat) : List LOper := [
    ⟨some 23, none, .val (.move (.slot 3))⟩,
    ⟨some 24, none, .call f0 [(.const (.sl k .nil [])), (.slot 23)]⟩,
    ⟨some 6, none, .val (.move (.slot 24))⟩]
abbrev Concat_r10 : List LOper := [
    ⟨some 25, none, .val (.move (.slot 0))⟩,
    ⟨some 26, none, .val (.len (.slot 25))⟩,
    ⟨some 27, none, .val (.move (.const (.int .i64 0)))⟩]
abbrev Concat_r11 : List LOper := [
    ⟨some 28, none, .val (.bin .lss (.slot 27) (.slot 26))⟩]
abbrev Concat_r12 : List LOper := [
    ⟨some 29, none, .val (.idxA .leaf (.slot 25) (.slot 27))⟩,
    ⟨some 30, none, .val (.load .leaf (.slot 29))⟩,
    ⟨some 8, none, .val (.move (.slot 30))⟩]
abbrev Concat_r13 (k : Sh) (bs : Nat) : List LOper := [
    ⟨some 31, none, .val (.move (.slot 6))⟩,
    ⟨some 32, none, .val (.move (.slot 8))⟩,
    ⟨some 33, none, .append k bs (.slot 31) (.slot 32)⟩,
    ⟨some 6, none, .val (.move (.slot 33))⟩]
abbrev Concat_r14 : List LOper := [
    ⟨some 34, none, .val (.bin .add (.slot 27) (.const (.int .i64 1)))⟩,
    ⟨some 27, none, .val (.move (.slot 34))⟩]
abbrev Concat_l1 (k : Sh) (bs : Nat) : LCode := (.seq (.ops Concat_r11) (.seq (.cond (.slot 28) .skip (.exit 2)) (.seq (.block 3 (.seq (.ops Concat_r12) (.ops (Concat_r13 k bs)))) (.ops Concat_r14))))
abbrev Concat_r15 : List LOper := [
    ⟨some 35, none, .val (.move (.slot 6))⟩,
    ⟨some 2, none, .val (.move (.slot 35))⟩]
def Concat (k : Sh) (bs : Nat) (ts : Nat) (f0 : Nat) : LFn := ⟨(.seq (.ops (Concat_r0 k)) (.seq (.ops Concat_r1) (.seq (.seq (.ops Concat_r2) (.block 0 (.loop (Concat_l0 ts)))) (.seq (.ops (Concat_r9 k f0)) (.seq (.seq (.ops Concat_r10) (.block 2 (.loop (Concat_l1 k bs)))) (.seq (.ops Concat_r15) .ret)))))), 36, [.slot 2]⟩

end LB

section
variable {P : Program} {k : Sh} {bs ts : Nat}

/-- slices.Grow of nothing. -/
theorem grow_nil {f : Nat} {z : V} (hL : lowerFn P f = some (LB.Grow k z bs ts)) (m : Nat) (hm : m ≤ 1000000000) (hbs : bs ≤ 140737) (h' : Hp) (nx : Nat) :
    ACalls P f [.sl k .nil [], .int .i64 m] h' nx fun v h'' _ => (m = 0 ∧ v = .sl k .nil [] ∧ h'' = h') ∨ (0 < m ∧ ∃ id es, nx ≤ id ∧ v = .rs id k 0 0 ∧ h'' = h'.set id (.arr k es)) := by
  have hb := bound_mul hm hbs
  refine acalls_walk hL fun hd => ?_
  simp only [List.length_cons, List.length_nil, Nat.reduceAdd, Nat.reduceSub, List.replicate_succ, List.replicate_zero, List.cons_append, List.nil_append, V.undef]
  have w1 : IntKind.i64.wrap ((m : Int) - 0) = m := by rw [wrap_in] <;> omega
  have w2 : IntKind.i64.wrap ((0 : Int) - 0) = 0 := by rw [wrap_in] <;> omega
  repeat (first | with_reducible refine lwp_seq ?_ | with_reducible refine lwp_block ?_ | with_reducible refine lwp_skip ?_ | with_reducible refine seqQ_normal ?_ | with_reducible refine blockQ_normal ?_ | with_reducible refine lwp_ops ?_ | (refine lops_go1 rfl (by simp only [ go_sem, reduceIte, Nat.reduceAdd, Nat.reduceSub, Nat.reduceLT, Nat.reduceLeDiff, reduceCtorEq, Nat.reduceEqDiff, Int.reduceToNat]; try omega) ?_; simp only [ go_sem, reduceIte, Nat.reduceAdd, Nat.reduceSub, Nat.reduceLT, Nat.reduceLeDiff, reduceCtorEq, Nat.reduceEqDiff, Int.reduceToNat]) | (with_reducible refine lops_done ?_))
  refine lwp_cond _ rfl (fun hc => ?_) (fun hc => ?_)
  · have := of_decide_eq_true hc
    omega
  repeat (first | with_reducible refine lwp_seq ?_ | with_reducible refine lwp_block ?_ | with_reducible refine lwp_skip ?_ | with_reducible refine seqQ_normal ?_ | with_reducible refine blockQ_normal ?_ | with_reducible refine lwp_ops ?_ | (refine lops_go1 rfl (by simp only [w1, w2, Int.natCast_zero, go_sem, reduceIte, Nat.reduceAdd, Nat.reduceSub, Nat.reduceLT, Nat.reduceLeDiff, reduceCtorEq, Nat.reduceEqDiff, Int.reduceToNat]; try omega) ?_; simp only [w1, w2, Int.natCast_zero, go_sem, reduceIte, Nat.reduceAdd, Nat.reduceSub, Nat.reduceLT, Nat.reduceLeDiff, reduceCtorEq, Nat.reduceEqDiff, Int.reduceToNat]) | (with_reducible refine lops_done ?_))
  refine lwp_cond _ rfl (fun hc => ?_) (fun hc => ?_)
  · have hpos : 0 < m := by have := of_decide_eq_true hc; omega
    have hpos' : (0 < (m : Int)) := by omega
    repeat (first | with_reducible refine lwp_seq ?_ | with_reducible refine lwp_block ?_ | with_reducible refine lwp_skip ?_ | with_reducible refine seqQ_normal ?_ | with_reducible refine blockQ_normal ?_ | with_reducible refine lwp_ops ?_ | (refine lops_go1 rfl (by simp only [w1, w2, Int.natCast_zero, hb, hpos', hpos, Int.toNat_zero, Nat.sub_zero, Nat.sub_self, go_sem, reduceIte, Nat.reduceAdd, Nat.reduceSub, Nat.reduceLT, Nat.reduceLeDiff, reduceCtorEq, Nat.reduceEqDiff, Int.reduceToNat]; try omega) ?_; simp only [w1, w2, Int.natCast_zero, hb, hpos', hpos, Int.toNat_zero, Nat.sub_zero, Nat.sub_self, go_sem, reduceIte, Nat.reduceAdd, Nat.reduceSub, Nat.reduceLT, Nat.reduceLeDiff, reduceCtorEq, Nat.reduceEqDiff, Int.reduceToNat]) | (with_reducible refine lops_done ?_))
    refine lwp_ret (ret_slot _ (Hp.le_refl _) (.inr ⟨nx, List.replicate m z, Nat.le_refl _, ?_, ?_⟩))
    · simp only [go_sem, reduceIte, Nat.reduceAdd, Nat.reduceSub, Nat.reduceLT, Nat.reduceLeDiff, reduceCtorEq, Nat.reduceEqDiff, Int.reduceToNat]
    · rfl
  · have hz : m = 0 := by have := of_decide_eq_false hc; omega
    repeat (first | with_reducible refine lwp_seq ?_ | with_reducible refine lwp_block ?_ | with_reducible refine lwp_skip ?_ | with_reducible refine seqQ_normal ?_ | with_reducible refine blockQ_normal ?_ | with_reducible refine lwp_ops ?_ | (refine lops_go1 rfl (by simp only [ go_sem, reduceIte, Nat.reduceAdd, Nat.reduceSub, Nat.reduceLT, Nat.reduceLeDiff, reduceCtorEq, Nat.reduceEqDiff, Int.reduceToNat]; try omega) ?_; simp only [ go_sem, reduceIte, Nat.reduceAdd, Nat.reduceSub, Nat.reduceLT, Nat.reduceLeDiff, reduceCtorEq, Nat.reduceEqDiff, Int.reduceToNat]) | (with_reducible refine lops_done ?_))
    refine lwp_ret (ret_slot h' (Hp.le_refl _) (.inl ⟨hz, ?_, rfl⟩))
    simp only [go_sem, reduceIte, Nat.reduceAdd, Nat.reduceSub, Nat.reduceLT, Nat.reduceLeDiff, reduceCtorEq, Nat.reduceEqDiff, Int.reduceToNat]

def total (L : List (Own × List V)) : List V := L.flatMap (·.2)
theorem total_take (L : List (Own × List V)) (i : Nat) (h : i < L.length) : total (L.take (i + 1)) = total (L.take i) ++ L[i].2 := by
  unfold total
  rw [List.take_succ_eq_append_getElem h, List.flatMap_append]
  simp
theorem total_len (L : List (Own × List V)) (i : Nat) : (total (L.take i)).length ≤ (total L).length := by
  have : total L = total (L.take i) ++ total (L.drop i) := by
    unfold total
    rw [← List.flatMap_append, List.take_append_drop]
  rw [this]; simp

set_option maxHeartbeats 1000000 in
/-- slices.Concat. -/
theorem concat_calls {f f0 : Nat} {z : V} (hL : lowerFn P f = some (LB.Concat k bs ts f0)) (hL0 : lowerFn P f0 = some (LB.Grow k z bs ts)) (hbs : bs ≤ 140737) (own : Own) (L : List (Own × List V)) (hl : L.length ≤ 1000000) (ht : (total L).length ≤ 100000000) (h' : Hp) (nx : Nat) :
    ACalls P f [.sl .leaf own (L.map fun p => .sl k p.1 p.2)] h' nx fun v h'' _ => FreshA nx h' k (total L) v h'' := by
  refine acalls_walk hL fun hd => ?_
  simp only [List.length_cons, List.length_nil, Nat.reduceAdd, Nat.reduceSub, List.replicate_succ, List.replicate_zero, List.cons_append, List.nil_append, V.undef]
  repeat (first | with_reducible refine lwp_seq ?_ | with_reducible refine lwp_block ?_ | with_reducible refine lwp_skip ?_ | with_reducible refine seqQ_normal ?_ | with_reducible refine blockQ_normal ?_ | with_reducible refine lwp_ops ?_ | (refine lops_go1 rfl (by simp only [ go_sem, reduceIte, Nat.reduceAdd, Nat.reduceSub, Nat.reduceLT, Nat.reduceLeDiff, reduceCtorEq, Nat.reduceEqDiff, Int.reduceToNat]; try omega) ?_; simp only [ go_sem, reduceIte, Nat.reduceAdd, Nat.reduceSub, Nat.reduceLT, Nat.reduceLeDiff, reduceCtorEq, Nat.reduceEqDiff, Int.reduceToNat]) | (with_reducible refine lops_done ?_))
  refine lwp_loopM (fun i : Nat => mkFrom 36 0 [(0, .sl .leaf own (L.map fun p => .sl k p.1 p.2)), (3, .int .i64 (total (L.take i)).length), (9, .sl .leaf own (L.map fun p => .sl k p.1 p.2)), (10, .int .i64 L.length), (11, .int .i64 i)]) (fun i h2 nx2 => i ≤ L.length ∧ h2 = h' ∧ nx ≤ nx2) (fun i => L.length - i) 0 ⟨Nat.zero_le _, rfl, Nat.le_refl _⟩ ?_ ?_
  · have e0 : total ([] : List (Own × List V)) = [] := rfl
    simp only [WkL, mkFrom, Int.natCast_add, Int.natCast_one, Int.natCast_zero, e0, List.length_map, go_sem, reduceIte, Nat.reduceAdd, Nat.reduceSub, Nat.reduceLT, Nat.reduceLeDiff, reduceCtorEq, Nat.reduceEqDiff, Int.reduceToNat]
  · rintro i h2 nx2 ⟨hi, rfl, hnx⟩
    generalize hQ : roundM _ _ _ _ _ = Q0
    simp only [mkFrom, go_sem, reduceIte, Nat.reduceAdd, Nat.reduceSub, Nat.reduceLT, Nat.reduceLeDiff, reduceCtorEq, Nat.reduceEqDiff, Int.reduceToNat]
    repeat (first | with_reducible refine lwp_seq ?_ | with_reducible refine lwp_block ?_ | with_reducible refine lwp_skip ?_ | with_reducible refine seqQ_normal ?_ | with_reducible refine blockQ_normal ?_ | with_reducible refine lwp_ops ?_ | (refine lops_go1 rfl (by simp only [ go_sem, reduceIte, Nat.reduceAdd, Nat.reduceSub, Nat.reduceLT, Nat.reduceLeDiff, reduceCtorEq, Nat.reduceEqDiff, Int.reduceToNat]; try omega) ?_; simp only [ go_sem, reduceIte, Nat.reduceAdd, Nat.reduceSub, Nat.reduceLT, Nat.reduceLeDiff, reduceCtorEq, Nat.reduceEqDiff, Int.reduceToNat]) | (with_reducible refine lops_done ?_))
    refine lwp_cond _ rfl (fun hc => ?_) (fun hc => ?_)
    · have hlt : i < L.length := by have := of_decide_eq_true hc; omega
      have hg := getD_map' (fun p : Own × List V => V.sl k p.1 p.2) L i hlt
      have hlen : (i : Int) < ((L.map fun p => V.sl k p.1 p.2).length : Int) := by simp; omega
      have h0 := total_len L (i + 1)
      have h1 := congrArg List.length (total_take L i hlt)
      rw [List.length_append] at h1
      have hw : IntKind.i64.wrap (((total (L.take i)).length : Int) + (L[i].2.length : Int)) = ((total (L.take (i + 1))).length : Int) := by rw [wrap_in] <;> omega
      repeat (first | with_reducible refine lwp_seq ?_ | with_reducible refine lwp_block ?_ | with_reducible refine lwp_skip ?_ | with_reducible refine seqQ_normal ?_ | with_reducible refine blockQ_normal ?_ | with_reducible refine lwp_ops ?_ | (refine lops_go1 rfl (by simp only [hg, hlen, hlt, hw, Int.toNat_natCast, List.length_map, go_sem, reduceIte, Nat.reduceAdd, Nat.reduceSub, Nat.reduceLT, Nat.reduceLeDiff, reduceCtorEq, Nat.reduceEqDiff, Int.reduceToNat]; try omega) ?_; simp only [hg, hlen, hlt, hw, Int.toNat_natCast, List.length_map, go_sem, reduceIte, Nat.reduceAdd, Nat.reduceSub, Nat.reduceLT, Nat.reduceLeDiff, reduceCtorEq, Nat.reduceEqDiff, Int.reduceToNat]) | (with_reducible refine lops_done ?_))
      refine lwp_cond _ rfl (fun hc2 => ?_) (fun hc2 => ?_)
      · have := of_decide_eq_true hc2
        omega
      repeat (first | with_reducible refine lwp_seq ?_ | with_reducible refine lwp_block ?_ | with_reducible refine lwp_skip ?_ | with_reducible refine seqQ_normal ?_ | with_reducible refine blockQ_normal ?_ | with_reducible refine lwp_ops ?_ | (refine lops_go1 rfl (by simp only [ go_sem, reduceIte, Nat.reduceAdd, Nat.reduceSub, Nat.reduceLT, Nat.reduceLeDiff, reduceCtorEq, Nat.reduceEqDiff, Int.reduceToNat]; try omega) ?_; simp only [ go_sem, reduceIte, Nat.reduceAdd, Nat.reduceSub, Nat.reduceLT, Nat.reduceLeDiff, reduceCtorEq, Nat.reduceEqDiff, Int.reduceToNat]) | (with_reducible refine lops_done ?_))
      rw [wrap_in (by omega) (by omega), ← hQ]
      refine roundM_normal (i + 1) (by omega) ⟨by omega, rfl, by omega⟩ ?_
      simp only [WkL, mkFrom, Int.natCast_add, Int.natCast_one, Int.natCast_zero,  go_sem, reduceIte, Nat.reduceAdd, Nat.reduceSub, Nat.reduceLT, Nat.reduceLeDiff, reduceCtorEq, Nat.reduceEqDiff, Int.reduceToNat]
    · have hge : i = L.length := by have := of_decide_eq_false hc; omega
      rw [← hQ]
      refine lwp_exit ?_
      repeat (first | with_reducible refine seqQ_exit ?_ | with_reducible refine roundQ_exit ?_ | with_reducible refine roundM_exit ?_ | with_reducible refine blockQ_other (by decide) ?_ | with_reducible refine blockQ_exit ?_ | with_reducible refine seqQ_normal ?_)
      have hT : total (L.take i) = total L := by rw [hge, List.take_length]
      rw [hT]
      repeat (first | with_reducible refine lwp_seq ?_ | with_reducible refine lwp_block ?_ | with_reducible refine lwp_skip ?_ | with_reducible refine seqQ_normal ?_ | with_reducible refine blockQ_normal ?_ | with_reducible refine lwp_ops ?_ | (refine lops_go1 rfl (by simp only [ go_sem, reduceIte, Nat.reduceAdd, Nat.reduceSub, Nat.reduceLT, Nat.reduceLeDiff, reduceCtorEq, Nat.reduceEqDiff, Int.reduceToNat]; try omega) ?_; simp only [ go_sem, reduceIte, Nat.reduceAdd, Nat.reduceSub, Nat.reduceLT, Nat.reduceLeDiff, reduceCtorEq, Nat.reduceEqDiff, Int.reduceToNat]) | (with_reducible refine lops_done ?_))
      refine lops_call ((grow_nil hL0 (total L).length (by omega) hbs _ _).dom.mono ?_)
      rintro v h3 nx3 hnx3 ⟨hv, hdm3, _⟩
      unfold callQ
      simp only [go_sem, reduceIte, Nat.reduceAdd, Nat.reduceSub, Nat.reduceLT, Nat.reduceLeDiff, reduceCtorEq, Nat.reduceEqDiff, Int.reduceToNat]
      repeat (first | with_reducible refine lwp_seq ?_ | with_reducible refine lwp_block ?_ | with_reducible refine lwp_skip ?_ | with_reducible refine seqQ_normal ?_ | with_reducible refine blockQ_normal ?_ | with_reducible refine lwp_ops ?_ | (refine lops_go1 rfl (by simp only [List.length_map, go_sem, reduceIte, Nat.reduceAdd, Nat.reduceSub, Nat.reduceLT, Nat.reduceLeDiff, reduceCtorEq, Nat.reduceEqDiff, Int.reduceToNat]; try omega) ?_; simp only [List.length_map, go_sem, reduceIte, Nat.reduceAdd, Nat.reduceSub, Nat.reduceLT, Nat.reduceLeDiff, reduceCtorEq, Nat.reduceEqDiff, Int.reduceToNat]) | (with_reducible refine lops_done ?_))
      obtain ⟨I, hI⟩ : ∃ I : Nat × V → Hp → Nat → Prop, ∀ i u h4 nx4, I (i, u) h4 nx4 ↔ (i ≤ L.length ∧ nx ≤ nx4 ∧ ((total L = [] ∧ u = .sl k .nil [] ∧ h4 = h2) ∨ (total L ≠ [] ∧ ∃ id es, nx ≤ id ∧ id < nx4 ∧ u = .rs id k 0 (total (L.take i)).length ∧ (total (L.take i) = [] ∨ es = total (L.take i)) ∧ h4 id = some (.arr k es) ∧ h2.le (h4.del id)))) := ⟨fun p h4 nx4 => p.1 ≤ L.length ∧ nx ≤ nx4 ∧ ((total L = [] ∧ p.2 = .sl k .nil [] ∧ h4 = h2) ∨ (total L ≠ [] ∧ ∃ id es, nx ≤ id ∧ id < nx4 ∧ p.2 = .rs id k 0 (total (L.take p.1)).length ∧ (total (L.take p.1) = [] ∨ es = total (L.take p.1)) ∧ h4 id = some (.arr k es) ∧ h2.le (h4.del id))), fun _ _ _ _ => Iff.rfl⟩
      simp only at hnx3 hv
      have e0 : total ([] : List (Own × List V)) = [] := rfl
      have hnone : ∀ n, nx ≤ n → h2 n = none := fun n hn => DomB.none hd hn
      refine lwp_loopM (fun p : Nat × V => mkFrom 36 0 [(6, p.2), (25, .sl .leaf own (L.map fun p => .sl k p.1 p.2)), (26, .int .i64 L.length), (27, .int .i64 p.1)]) I (fun p => L.length - p.1) (0, v) ((hI _ _ _ _).2 ⟨Nat.zero_le _, (by show nx ≤ nx3; omega), ?_⟩) ?_ ?_
      · rcases hv with ⟨q1, rfl, rfl⟩ | ⟨q1, id, es, q2, rfl, rfl⟩
        · exact .inl ⟨List.length_eq_zero_iff.1 q1, rfl, rfl⟩
        · refine .inr ⟨fun e => by rw [e] at q1; simp at q1, id, es, by omega, hdm3 id (.arr k es) (by simp [Hp.set]), ?_, .inl rfl, by simp [Hp.set], le_del (le_set (Hp.le_refl _) (hnone id (by omega)) _) (hnone id (by omega))⟩
          · simp [total]
      · simp only [WkL, mkFrom, Int.natCast_add, Int.natCast_one, Int.natCast_zero, List.length_map, go_sem, reduceIte, Nat.reduceAdd, Nat.reduceSub, Nat.reduceLT, Nat.reduceLeDiff, reduceCtorEq, Nat.reduceEqDiff, Int.reduceToNat]
      · rintro ⟨i, u⟩ h4 nx4 hii
        generalize hQ2 : roundM _ _ _ _ _ = Q2
        obtain ⟨q1, q2, q3⟩ := (hI _ _ _ _).1 hii
        simp only [mkFrom, go_sem, reduceIte, Nat.reduceAdd, Nat.reduceSub, Nat.reduceLT, Nat.reduceLeDiff, reduceCtorEq, Nat.reduceEqDiff, Int.reduceToNat]
        repeat (first | with_reducible refine lwp_seq ?_ | with_reducible refine lwp_block ?_ | with_reducible refine lwp_skip ?_ | with_reducible refine seqQ_normal ?_ | with_reducible refine blockQ_normal ?_ | with_reducible refine lwp_ops ?_ | (refine lops_go1 rfl (by simp only [ go_sem, reduceIte, Nat.reduceAdd, Nat.reduceSub, Nat.reduceLT, Nat.reduceLeDiff, reduceCtorEq, Nat.reduceEqDiff, Int.reduceToNat]; try omega) ?_; simp only [ go_sem, reduceIte, Nat.reduceAdd, Nat.reduceSub, Nat.reduceLT, Nat.reduceLeDiff, reduceCtorEq, Nat.reduceEqDiff, Int.reduceToNat]) | (with_reducible refine lops_done ?_))
        refine lwp_cond _ rfl (fun hc4 => ?_) (fun hc4 => ?_)
        · have hlt : i < L.length := by have := of_decide_eq_true hc4; omega
          have hg := getD_map' (fun p : Own × List V => V.sl k p.1 p.2) L i hlt
          have hlen : (i : Int) < ((L.map fun p => V.sl k p.1 p.2).length : Int) := by simp; omega
          have hstep := total_take L i hlt
          have h1 := total_len L (i + 1)
          have h2' := congrArg List.length hstep
          rw [List.length_append] at h2'
          have hw : IntKind.i64.wrap ((i : Int) + 1) = ((i + 1 : Nat) : Int) := by rw [wrap_in] <;> omega
          repeat (first | with_reducible refine lwp_seq ?_ | with_reducible refine lwp_block ?_ | with_reducible refine lwp_skip ?_ | with_reducible refine seqQ_normal ?_ | with_reducible refine blockQ_normal ?_ | with_reducible refine lwp_ops ?_ | with_reducible refine lops_done ?_)
          refine lops_go1 rfl (by simp only [hg, hlen, hlt, Int.toNat_natCast, List.length_map, go_sem, reduceIte, Nat.reduceAdd, Nat.reduceSub, Nat.reduceLT, Nat.reduceLeDiff, reduceCtorEq, Nat.reduceEqDiff, Int.reduceToNat]; try omega) ?_
          simp only [hg, hlen, hlt, Int.toNat_natCast, List.length_map, go_sem, reduceIte, Nat.reduceAdd, Nat.reduceSub, Nat.reduceLT, Nat.reduceLeDiff, reduceCtorEq, Nat.reduceEqDiff, Int.reduceToNat]
          repeat (first | with_reducible refine lwp_seq ?_ | with_reducible refine lwp_block ?_ | with_reducible refine lwp_skip ?_ | with_reducible refine seqQ_normal ?_ | with_reducible refine blockQ_normal ?_ | with_reducible refine lwp_ops ?_ | with_reducible refine lops_done ?_)
          rcases q3 with ⟨q4, rfl, rfl⟩ | ⟨q4, id, es, q5, q6, rfl, q7, q8, q9⟩
          · have hy : L[i].2 = [] := by
              rw [q4] at h1
              exact List.length_eq_zero_iff.1 (by simp at h1; rw [h1] at h2'; simp at h2'; omega)
            refine lops_go1 rfl (by simp only [hy, go_sem, reduceIte, Nat.reduceAdd, Nat.reduceSub, Nat.reduceLT, Nat.reduceLeDiff, reduceCtorEq, Nat.reduceEqDiff, Int.reduceToNat]; try omega) ?_
            simp only [hy, go_sem, reduceIte, Nat.reduceAdd, Nat.reduceSub, Nat.reduceLT, Nat.reduceLeDiff, reduceCtorEq, Nat.reduceEqDiff, Int.reduceToNat]
            rw [← hQ2]
            repeat (first | with_reducible refine lwp_seq ?_ | with_reducible refine lwp_block ?_ | with_reducible refine lwp_skip ?_ | with_reducible refine seqQ_normal ?_ | with_reducible refine blockQ_normal ?_ | with_reducible refine lwp_ops ?_ | with_reducible refine lops_done ?_)
            refine lops_go1 rfl (by simp only [hw, go_sem, reduceIte, Nat.reduceAdd, Nat.reduceSub, Nat.reduceLT, Nat.reduceLeDiff, reduceCtorEq, Nat.reduceEqDiff, Int.reduceToNat]; try omega) ?_
            simp only [hw, go_sem, reduceIte, Nat.reduceAdd, Nat.reduceSub, Nat.reduceLT, Nat.reduceLeDiff, reduceCtorEq, Nat.reduceEqDiff, Int.reduceToNat]
            repeat (first | with_reducible refine lwp_seq ?_ | with_reducible refine lwp_block ?_ | with_reducible refine lwp_skip ?_ | with_reducible refine seqQ_normal ?_ | with_reducible refine blockQ_normal ?_ | with_reducible refine lwp_ops ?_ | with_reducible refine lops_done ?_)
            refine roundM_normal (i + 1, .sl k .nil []) (by (try simp only); omega) ((hI _ _ _ _).2 ⟨by omega, by (try simp only [go_sem, reduceIte, Nat.reduceAdd, Nat.reduceSub, Nat.reduceLT, Nat.reduceLeDiff, reduceCtorEq, Nat.reduceEqDiff, Int.reduceToNat]); omega, .inl ⟨q4, rfl, rfl⟩⟩) ?_
            simp only [WkL, mkFrom, Int.natCast_add, Int.natCast_one, Int.natCast_zero, hw, go_sem, reduceIte, Nat.reduceAdd, Nat.reduceSub, Nat.reduceLT, Nat.reduceLeDiff, reduceCtorEq, Nat.reduceEqDiff, Int.reduceToNat]
          · refine lops_take 2 rfl (by simp only [go_sem, reduceIte, Nat.reduceAdd, Nat.reduceSub, Nat.reduceLT, Nat.reduceLeDiff, reduceCtorEq, Nat.reduceEqDiff, Int.reduceToNat]) ?_
            simp only [go_sem, reduceIte, Nat.reduceAdd, Nat.reduceSub, Nat.reduceLT, Nat.reduceLeDiff, reduceCtorEq, Nat.reduceEqDiff, Int.reduceToNat]
            by_cases hy : L[i].2 = []
            · refine lops_append_nothing rfl q8 (by simp only [selems, hy, go_sem, reduceIte, Nat.reduceAdd, Nat.reduceSub, Nat.reduceLT, Nat.reduceLeDiff, reduceCtorEq, Nat.reduceEqDiff, Int.reduceToNat]) ?_
              refine lops_go1 rfl (by simp only [ go_sem, reduceIte, Nat.reduceAdd, Nat.reduceSub, Nat.reduceLT, Nat.reduceLeDiff, reduceCtorEq, Nat.reduceEqDiff, Int.reduceToNat]; try omega) ?_
              simp only [ go_sem, reduceIte, Nat.reduceAdd, Nat.reduceSub, Nat.reduceLT, Nat.reduceLeDiff, reduceCtorEq, Nat.reduceEqDiff, Int.reduceToNat]
              rw [← hQ2]
              repeat (first | with_reducible refine lwp_seq ?_ | with_reducible refine lwp_block ?_ | with_reducible refine lwp_skip ?_ | with_reducible refine seqQ_normal ?_ | with_reducible refine blockQ_normal ?_ | with_reducible refine lwp_ops ?_ | with_reducible refine lops_done ?_)
              refine lops_go1 rfl (by simp only [hw, go_sem, reduceIte, Nat.reduceAdd, Nat.reduceSub, Nat.reduceLT, Nat.reduceLeDiff, reduceCtorEq, Nat.reduceEqDiff, Int.reduceToNat]; try omega) ?_
              simp only [hw, go_sem, reduceIte, Nat.reduceAdd, Nat.reduceSub, Nat.reduceLT, Nat.reduceLeDiff, reduceCtorEq, Nat.reduceEqDiff, Int.reduceToNat]
              repeat (first | with_reducible refine lwp_seq ?_ | with_reducible refine lwp_block ?_ | with_reducible refine lwp_skip ?_ | with_reducible refine seqQ_normal ?_ | with_reducible refine blockQ_normal ?_ | with_reducible refine lwp_ops ?_ | with_reducible refine lops_done ?_)
              have hsame : total (L.take (i + 1)) = total (L.take i) := by rw [hstep, hy, List.append_nil]
              refine roundM_normal (i + 1, .rs id k 0 (total (L.take i)).length) (by (try simp only); omega) ((hI _ _ _ _).2 ⟨by omega, by (try simp only [go_sem, reduceIte, Nat.reduceAdd, Nat.reduceSub, Nat.reduceLT, Nat.reduceLeDiff, reduceCtorEq, Nat.reduceEqDiff, Int.reduceToNat]); omega, .inr ⟨q4, id, es, q5, by (try simp only [go_sem, reduceIte, Nat.reduceAdd, Nat.reduceSub, Nat.reduceLT, Nat.reduceLeDiff, reduceCtorEq, Nat.reduceEqDiff, Int.reduceToNat]); omega, by rw [hsame], by rw [hsame]; exact q7, q8, q9⟩⟩) ?_
              simp only [WkL, mkFrom, Int.natCast_add, Int.natCast_one, Int.natCast_zero, hw, go_sem, reduceIte, Nat.reduceAdd, Nat.reduceSub, Nat.reduceLT, Nat.reduceLeDiff, reduceCtorEq, Nat.reduceEqDiff, Int.reduceToNat]
            · have hcut : es.take (total (L.take i)).length = total (L.take i) := by
                rcases q7 with q7 | q7
                · rw [q7]; rfl
                · rw [q7, List.take_length]
              have hcl : (total (L.take i)).length ≤ es.length := by
                rcases q7 with q7 | q7
                · rw [q7]; exact Nat.zero_le _
                · rw [q7]; exact Nat.le_refl _
              refine lops_append_cut rfl q8 hcl (by simp only [selems, go_sem, reduceIte, Nat.reduceAdd, Nat.reduceSub, Nat.reduceLT, Nat.reduceLeDiff, reduceCtorEq, Nat.reduceEqDiff, Int.reduceToNat]) hy (bound_mul (by omega) hbs) ?_
              refine lops_go1 rfl (by simp only [ go_sem, reduceIte, Nat.reduceAdd, Nat.reduceSub, Nat.reduceLT, Nat.reduceLeDiff, reduceCtorEq, Nat.reduceEqDiff, Int.reduceToNat]; try omega) ?_
              simp only [ go_sem, reduceIte, Nat.reduceAdd, Nat.reduceSub, Nat.reduceLT, Nat.reduceLeDiff, reduceCtorEq, Nat.reduceEqDiff, Int.reduceToNat]
              rw [← hQ2]
              repeat (first | with_reducible refine lwp_seq ?_ | with_reducible refine lwp_block ?_ | with_reducible refine lwp_skip ?_ | with_reducible refine seqQ_normal ?_ | with_reducible refine blockQ_normal ?_ | with_reducible refine lwp_ops ?_ | with_reducible refine lops_done ?_)
              refine lops_go1 rfl (by simp only [hw, go_sem, reduceIte, Nat.reduceAdd, Nat.reduceSub, Nat.reduceLT, Nat.reduceLeDiff, reduceCtorEq, Nat.reduceEqDiff, Int.reduceToNat]; try omega) ?_
              simp only [hw, go_sem, reduceIte, Nat.reduceAdd, Nat.reduceSub, Nat.reduceLT, Nat.reduceLeDiff, reduceCtorEq, Nat.reduceEqDiff, Int.reduceToNat]
              repeat (first | with_reducible refine lwp_seq ?_ | with_reducible refine lwp_block ?_ | with_reducible refine lwp_skip ?_ | with_reducible refine seqQ_normal ?_ | with_reducible refine blockQ_normal ?_ | with_reducible refine lwp_ops ?_ | with_reducible refine lops_done ?_)
              refine roundM_normal (i + 1, .rs nx4 k 0 ((total (L.take i)).length + L[i].2.length)) (by (try simp only); omega) ((hI _ _ _ _).2 ⟨by omega, by (try simp only [go_sem, reduceIte, Nat.reduceAdd, Nat.reduceSub, Nat.reduceLT, Nat.reduceLeDiff, reduceCtorEq, Nat.reduceEqDiff, Int.reduceToNat]); omega, .inr ⟨q4, nx4, total (L.take (i + 1)), q2, by (try simp only [go_sem, reduceIte, Nat.reduceAdd, Nat.reduceSub, Nat.reduceLT, Nat.reduceLeDiff, reduceCtorEq, Nat.reduceEqDiff, Int.reduceToNat]); omega, by rw [h2'], .inr rfl, ?_, ?_⟩⟩) ?_
              · simp only [hcut, hstep, go_sem, reduceIte, Nat.reduceAdd, Nat.reduceSub, Nat.reduceLT, Nat.reduceLeDiff, reduceCtorEq, Nat.reduceEqDiff, Int.reduceToNat]
              · try simp only [go_sem, reduceIte, Nat.reduceAdd, Nat.reduceSub, Nat.reduceLT, Nat.reduceLeDiff, reduceCtorEq, Nat.reduceEqDiff, Int.reduceToNat]
                intro m b e
                have h5 := q9 m b e
                have h6 := hd m b e
                simp only [Hp.set_app, Hp.del_app] at h5 ⊢
                split at h5
                · cases h5
                · rename_i hne
                  rw [if_neg (by omega), if_neg (by omega), if_neg hne]
                  exact h5
              · simp only [WkL, mkFrom, Int.natCast_add, Int.natCast_one, Int.natCast_zero, hw, go_sem, reduceIte, Nat.reduceAdd, Nat.reduceSub, Nat.reduceLT, Nat.reduceLeDiff, reduceCtorEq, Nat.reduceEqDiff, Int.reduceToNat]
        · have hge2 : i = L.length := by have := of_decide_eq_false hc4; omega
          rw [← hQ2]
          refine lwp_exit ?_
          repeat (first | with_reducible refine seqQ_exit ?_ | with_reducible refine roundQ_exit ?_ | with_reducible refine roundM_exit ?_ | with_reducible refine blockQ_other (by decide) ?_ | with_reducible refine blockQ_exit ?_ | with_reducible refine seqQ_normal ?_)
          repeat (first | with_reducible refine lwp_seq ?_ | with_reducible refine lwp_block ?_ | with_reducible refine lwp_skip ?_ | with_reducible refine seqQ_normal ?_ | with_reducible refine blockQ_normal ?_ | with_reducible refine lwp_ops ?_ | (refine lops_go1 rfl (by simp only [ go_sem, reduceIte, Nat.reduceAdd, Nat.reduceSub, Nat.reduceLT, Nat.reduceLeDiff, reduceCtorEq, Nat.reduceEqDiff, Int.reduceToNat]; try omega) ?_; simp only [ go_sem, reduceIte, Nat.reduceAdd, Nat.reduceSub, Nat.reduceLT, Nat.reduceLeDiff, reduceCtorEq, Nat.reduceEqDiff, Int.reduceToNat]) | (with_reducible refine lops_done ?_))
          have hT2 : total (L.take i) = total L := by rw [hge2, List.take_length]
          rw [hT2] at q3
          rcases q3 with ⟨q4, rfl, rfl⟩ | ⟨q4, id, es, q5, q6, rfl, q7, q8, q9⟩
          · exact lwp_ret (ret_slot _ (Hp.le_refl _) (.inl ⟨q4, rfl, rfl⟩))
          · refine lwp_ret (ret_slot (h2.set id (.arr k (total L))) ?_ (.inr ⟨q4, id, q5, rfl, rfl⟩))
            have hes : es = total L := q7.resolve_left q4
            subst hes
            refine set_le_of ?_ q8
            intro m b e
            have h5 := q9 m b e
            simp only [Hp.del_app] at h5
            split at h5
            · cases h5
            · exact h5
end
end Go.Proofs.Ythcedfamidlbdaa
