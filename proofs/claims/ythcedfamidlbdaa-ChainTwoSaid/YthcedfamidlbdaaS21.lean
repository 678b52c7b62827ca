/-
Contracts of package stamp and of the document's times. No conditions.
-/
import Derived.Test.YthcedfamidlbdaaLow
namespace Go.Proofs.Ythcedfamidlbdaa
set_option linter.unusedSimpArgs false
set_option linter.unusedVariables false
set_option linter.unusedSectionVars false
open Go.RowKit
attribute [local go_sem] okAll nextAll LOper.ok LOper.next LOp.ok LOp.next LVal.ok LVal.out LArg.ev putV binOK pick_true pick_false pick_bool V.fits V.leafy V.cells V.cell V.undef partOK loadPart storePart Sh.size Hp.set Hp.del addHp delHp dokAll dnextAll LOper.dok LOper.dres LOp.dok LOp.dout dput conOK conAt untaken wrHp Hp.turn veq veqL leafEq List.take_succ_cons List.take_zero List.take_nil List.drop_succ_cons List.drop_zero List.drop_nil List.set_cons_succ List.set_cons_zero List.getD_cons_succ List.getD_cons_zero List.length_cons List.length_nil List.map_cons List.map_nil List.all_cons List.all_nil List.mem_cons List.not_mem_nil List.replicate_succ List.replicate_zero List.cons_append List.nil_append List.append_nil List.isEmpty_cons List.isEmpty_nil appOwn appHp appOK Option.getD_some Option.isSome_some Nat.add_eq Nat.zero_add Nat.add_zero true_and and_true and_self true_implies implies_true false_implies forall_const forall_eq forall_eq_or_imp ne_eq not_false_eq_true not_true_eq_false Bool.not_true Bool.not_false decide_true decide_false Bool.and_true Bool.true_and Bool.and_false Bool.false_and true_or or_true false_or or_false eq_self Bool.false_eq_true nxNe nxNe' tupOf mkFrom bval ogive cutOwn cutE_nil cutE_full cutE_tok cutE_free_nil cutE_free_cons selems Int.toNat_natCast Int.toNat_zero List.take_length

/-- A time. -/
structure Tm where
  e : Int
  r : Int
  deriving DecidableEq, Inhabited
def Tm.v (t : Tm) : V := .agg [.int .i64 t.e, .int .i64 t.r]
theorem Tm.names_v (L : Nat → Prop) (t : Tm) : t.v.names L := by simp [Tm.v, V.names, namesL]
def Tm.le (a b : Tm) : Bool := decide (a.e ≤ b.e) && decide (a.r ≤ b.r)
def Tm.ok (t : Tm) : Bool := decide (0 ≤ t.e) && decide (t.e ≤ 1048576) && (decide (0 ≤ t.r) && decide (t.r ≤ 1048576))
def Tm.less (a b : Tm) : Bool := decide (a.e < b.e) || (decide (a.e = b.e) && decide (a.r < b.r))

theorem within_pure (n m : Int) (h : Hp) : Pure Try.prog 40 [.int .i64 n, .int .i64 m] h (.bool (decide (0 ≤ n) && decide (n ≤ m))) := by
  refine pure_of (fun L => trivial) fun h' nx hh => acalls_walk L.stamp_within_low fun hd => ?_
  simp only [List.length_cons, List.length_nil, Nat.reduceAdd, Nat.reduceSub, List.replicate_succ, List.replicate_zero, List.cons_append, List.nil_append, V.undef]
  by_cases h0 : 0 ≤ n
  all_goals
    refine lwp_seq (lwp_ops ?_)
    refine lops_take 1 rfl (by simp only [L.stamp_within_r0,  go_sem, reduceIte, Nat.reduceAdd, Nat.reduceSub, Nat.reduceLT, Nat.reduceLeDiff, reduceCtorEq, Nat.reduceEqDiff, Int.reduceToNat]; try omega) ?_
    simp only [L.stamp_within_r0,  go_sem, reduceIte, Nat.reduceAdd, Nat.reduceSub, Nat.reduceLT, Nat.reduceLeDiff, reduceCtorEq, Nat.reduceEqDiff, Int.reduceToNat]
    refine seqQ_normal (lwp_seq (lwp_ops ?_))
    refine lops_take 8 rfl (by simp only [L.stamp_within_r1, h0, go_sem, reduceIte, Nat.reduceAdd, Nat.reduceSub, Nat.reduceLT, Nat.reduceLeDiff, reduceCtorEq, Nat.reduceEqDiff, Int.reduceToNat]; try omega) ?_
    simp only [L.stamp_within_r1, h0, go_sem, reduceIte, Nat.reduceAdd, Nat.reduceSub, Nat.reduceLT, Nat.reduceLeDiff, reduceCtorEq, Nat.reduceEqDiff, Int.reduceToNat]
    exact seqQ_normal (lwp_ret ⟨h', Hp.le_refl _, rfl, rfl⟩)

theorem atMost_pure (a b : Tm) (h : Hp) : Pure Try.prog 30 [a.v, b.v] h (.bool (a.le b)) := by
  refine pure_of (fun L => trivial) fun h' nx hh => acalls_walk L.stamp_AtMost_low fun hd => ?_
  simp only [List.length_cons, List.length_nil, Nat.reduceAdd, Nat.reduceSub, List.replicate_succ, List.replicate_zero, List.cons_append, List.nil_append, V.undef]
  by_cases h0 : a.e ≤ b.e
  all_goals
    refine lwp_seq (lwp_ops ?_)
    refine lops_take 3 rfl (by simp only [L.stamp_AtMost_r0, Tm.v, go_sem, reduceIte, Nat.reduceAdd, Nat.reduceSub, Nat.reduceLT, Nat.reduceLeDiff, reduceCtorEq, Nat.reduceEqDiff, Int.reduceToNat]; try omega) ?_
    simp only [L.stamp_AtMost_r0, Tm.v, go_sem, reduceIte, Nat.reduceAdd, Nat.reduceSub, Nat.reduceLT, Nat.reduceLeDiff, reduceCtorEq, Nat.reduceEqDiff, Int.reduceToNat]
    refine seqQ_normal (lwp_seq (lwp_ops ?_))
    refine lops_take 13 rfl (by simp only [L.stamp_AtMost_r1, Tm.v, h0, go_sem, reduceIte, Nat.reduceAdd, Nat.reduceSub, Nat.reduceLT, Nat.reduceLeDiff, reduceCtorEq, Nat.reduceEqDiff, Int.reduceToNat]; try omega) ?_
    simp only [L.stamp_AtMost_r1, Tm.v, h0, go_sem, reduceIte, Nat.reduceAdd, Nat.reduceSub, Nat.reduceLT, Nat.reduceLeDiff, reduceCtorEq, Nat.reduceEqDiff, Int.reduceToNat]
    refine seqQ_normal (lwp_ret ⟨h', le_of_fresh hd (le_of_fresh hd (Hp.le_refl _) (by omega) _) (by omega) _, ?_, rfl⟩)
    simp [Tm.le, h0, tupOf]

theorem ratMost_pure (a b : Tm) (h : Hp) : Pure Try.prog 31 [a.v, b.v] h (.bool (a.le b)) := by
  refine pure_of (fun L => trivial) fun h' nx hh => acalls_walk L.corollaryref20_AtMost_low fun hd => ?_
  simp only [List.length_cons, List.length_nil, Nat.reduceAdd, Nat.reduceSub, List.replicate_succ, List.replicate_zero, List.cons_append, List.nil_append, V.undef]
  by_cases h0 : b.e < a.e
  all_goals
    refine lwp_seq (lwp_ops ?_)
    refine lops_take 3 rfl (by simp only [L.corollaryref20_AtMost_r0, Tm.v, go_sem, reduceIte, Nat.reduceAdd, Nat.reduceSub, Nat.reduceLT, Nat.reduceLeDiff, reduceCtorEq, Nat.reduceEqDiff, Int.reduceToNat]; try omega) ?_
    simp only [L.corollaryref20_AtMost_r0, Tm.v, go_sem, reduceIte, Nat.reduceAdd, Nat.reduceSub, Nat.reduceLT, Nat.reduceLeDiff, reduceCtorEq, Nat.reduceEqDiff, Int.reduceToNat]
    refine seqQ_normal (lwp_seq (lwp_ops ?_))
    refine lops_take 15 rfl (by simp only [L.corollaryref20_AtMost_r1, Tm.v, h0, go_sem, reduceIte, Nat.reduceAdd, Nat.reduceSub, Nat.reduceLT, Nat.reduceLeDiff, reduceCtorEq, Nat.reduceEqDiff, Int.reduceToNat]; try omega) ?_
    simp only [L.corollaryref20_AtMost_r1, Tm.v, h0, go_sem, reduceIte, Nat.reduceAdd, Nat.reduceSub, Nat.reduceLT, Nat.reduceLeDiff, reduceCtorEq, Nat.reduceEqDiff, Int.reduceToNat]
    refine seqQ_normal (lwp_ret ⟨h', le_of_fresh hd (le_of_fresh hd (Hp.le_refl _) (by omega) _) (by omega) _, ?_, rfl⟩)
    simp [Tm.le, h0, tupOf]
    try (rw [Bool.eq_iff_iff]; simp)
    try omega

theorem right_pure (t : Tm) (h : Hp) : Pure Try.prog 20 [t.v] h (.bool t.ok) := by
  refine pure_of (fun L => trivial) fun h' nx hh => acalls_walk L.stamp_Right_low fun hd => ?_
  simp only [List.length_cons, List.length_nil, Nat.reduceAdd, Nat.reduceSub, List.replicate_succ, List.replicate_zero, List.cons_append, List.nil_append, V.undef]
  refine lwp_seq (lwp_ops ?_)
  refine lops_take 2 rfl (by simp only [L.stamp_Right_r0, Tm.v, go_sem, reduceIte, Nat.reduceAdd, Nat.reduceSub, Nat.reduceLT, Nat.reduceLeDiff, reduceCtorEq, Nat.reduceEqDiff, Int.reduceToNat]; try omega) ?_
  simp only [L.stamp_Right_r0, Tm.v, go_sem, reduceIte, Nat.reduceAdd, Nat.reduceSub, Nat.reduceLT, Nat.reduceLeDiff, reduceCtorEq, Nat.reduceEqDiff, Int.reduceToNat]
  refine seqQ_normal (lwp_seq (lwp_ops ?_))
  refine lops_take 2 rfl (by simp only [L.stamp_Right_r1, Tm.v, go_sem, reduceIte, Nat.reduceAdd, Nat.reduceSub, Nat.reduceLT, Nat.reduceLeDiff, reduceCtorEq, Nat.reduceEqDiff, Int.reduceToNat]; try omega) ?_
  simp only [L.stamp_Right_r1, Tm.v, go_sem, reduceIte, Nat.reduceAdd, Nat.reduceSub, Nat.reduceLT, Nat.reduceLeDiff, reduceCtorEq, Nat.reduceEqDiff, Int.reduceToNat]
  refine lops_pure (within_pure _ _ _) rfl (has_refl _) ?_
  simp only [ go_sem, reduceIte, Nat.reduceAdd, Nat.reduceSub, Nat.reduceLT, Nat.reduceLeDiff, reduceCtorEq, Nat.reduceEqDiff, Int.reduceToNat]
  generalize h0 : (decide (0 ≤ t.e) && decide (t.e ≤ 1048576)) = c
  cases c
  · refine lops_take 3 rfl (by simp only [L.stamp_Right_r1,  go_sem, reduceIte, Nat.reduceAdd, Nat.reduceSub, Nat.reduceLT, Nat.reduceLeDiff, reduceCtorEq, Nat.reduceEqDiff, Int.reduceToNat]; try omega) ?_
    simp only [L.stamp_Right_r1,  go_sem, reduceIte, Nat.reduceAdd, Nat.reduceSub, Nat.reduceLT, Nat.reduceLeDiff, reduceCtorEq, Nat.reduceEqDiff, Int.reduceToNat]
    refine lops_guard rfl (fun h => by cases h) (fun _ => ?_)
    refine lops_take 2 rfl (by simp only [L.stamp_Right_r1,  go_sem, reduceIte, Nat.reduceAdd, Nat.reduceSub, Nat.reduceLT, Nat.reduceLeDiff, reduceCtorEq, Nat.reduceEqDiff, Int.reduceToNat]; try omega) ?_
    simp only [L.stamp_Right_r1,  go_sem, reduceIte, Nat.reduceAdd, Nat.reduceSub, Nat.reduceLT, Nat.reduceLeDiff, reduceCtorEq, Nat.reduceEqDiff, Int.reduceToNat]
    refine seqQ_normal (lwp_ret (ret_slot h' (le_of_fresh hd (Hp.le_refl _) (by omega) _) ⟨?_, rfl⟩))
    simp [Tm.ok, h0]
  · refine lops_take 3 rfl (by simp only [L.stamp_Right_r1,  go_sem, reduceIte, Nat.reduceAdd, Nat.reduceSub, Nat.reduceLT, Nat.reduceLeDiff, reduceCtorEq, Nat.reduceEqDiff, Int.reduceToNat]; try omega) ?_
    simp only [L.stamp_Right_r1,  go_sem, reduceIte, Nat.reduceAdd, Nat.reduceSub, Nat.reduceLT, Nat.reduceLeDiff, reduceCtorEq, Nat.reduceEqDiff, Int.reduceToNat]
    refine lops_guard rfl (fun _ => ?_) (fun h => absurd rfl h)
    refine lops_pure (within_pure _ _ _) rfl (has_refl _) ?_
    simp only [ go_sem, reduceIte, Nat.reduceAdd, Nat.reduceSub, Nat.reduceLT, Nat.reduceLeDiff, reduceCtorEq, Nat.reduceEqDiff, Int.reduceToNat]
    refine lops_take 2 rfl (by simp only [L.stamp_Right_r1,  go_sem, reduceIte, Nat.reduceAdd, Nat.reduceSub, Nat.reduceLT, Nat.reduceLeDiff, reduceCtorEq, Nat.reduceEqDiff, Int.reduceToNat]; try omega) ?_
    simp only [L.stamp_Right_r1,  go_sem, reduceIte, Nat.reduceAdd, Nat.reduceSub, Nat.reduceLT, Nat.reduceLeDiff, reduceCtorEq, Nat.reduceEqDiff, Int.reduceToNat]
    refine seqQ_normal (lwp_ret (ret_slot h' (le_of_fresh hd (Hp.le_refl _) (by omega) _) ⟨?_, rfl⟩))
    simp [Tm.ok, h0]

theorem rtime_pure (t : Tm) (h : Hp) : Pure Try.prog 11 [t.v] h t.v := by
  refine pure_of (fun L => t.names_v L) fun h' nx hh => acalls_walk L.corollarylaw20_Time_low fun hd => ?_
  simp only [List.length_cons, List.length_nil, Nat.reduceAdd, Nat.reduceSub, List.replicate_succ, List.replicate_zero, List.cons_append, List.nil_append, V.undef]
  refine lwp_seq (lwp_ops ?_)
  refine lops_take 2 rfl (by simp only [L.corollarylaw20_Time_r0, Tm.v, go_sem, reduceIte, Nat.reduceAdd, Nat.reduceSub, Nat.reduceLT, Nat.reduceLeDiff, reduceCtorEq, Nat.reduceEqDiff, Int.reduceToNat]; try omega) ?_
  simp only [L.corollarylaw20_Time_r0, Tm.v, go_sem, reduceIte, Nat.reduceAdd, Nat.reduceSub, Nat.reduceLT, Nat.reduceLeDiff, reduceCtorEq, Nat.reduceEqDiff, Int.reduceToNat]
  refine seqQ_normal (lwp_seq (lwp_ops ?_))
  refine lops_take 2 rfl (by simp only [L.corollarylaw20_Time_r1, Tm.v, go_sem, reduceIte, Nat.reduceAdd, Nat.reduceSub, Nat.reduceLT, Nat.reduceLeDiff, reduceCtorEq, Nat.reduceEqDiff, Int.reduceToNat]; try omega) ?_
  simp only [L.corollarylaw20_Time_r1, Tm.v, go_sem, reduceIte, Nat.reduceAdd, Nat.reduceSub, Nat.reduceLT, Nat.reduceLeDiff, reduceCtorEq, Nat.reduceEqDiff, Int.reduceToNat]
  refine seqQ_normal (lwp_ret (ret_cell (by simp only [go_sem, reduceIte, Nat.reduceAdd, Nat.reduceSub, Nat.reduceLT, Nat.reduceLeDiff, reduceCtorEq, Nat.reduceEqDiff, Int.reduceToNat]) h' (le_of_fresh hd (le_of_fresh hd (le_of_fresh hd (Hp.le_refl _) (by omega) _) (by omega) _) (by omega) _) ⟨?_, rfl⟩))
  simp only [Tm.v, go_sem, reduceIte, Nat.reduceAdd, Nat.reduceSub, Nat.reduceLT, Nat.reduceLeDiff, reduceCtorEq, Nat.reduceEqDiff, Int.reduceToNat]

/-- A list of times, whatever is known of its array. -/
abbrev tms (own : Own) (l : List Tm) : V := .sl (.agg 2) own (l.map Tm.v)

theorem getD_map {α : Type} [Inhabited α] (f : α → V) (l : List α) (k : Nat) (h : k < l.length) : (l.map f).getD k (.tup []) = f l[k] := by
  rw [List.getD_eq_getElem?_getD, List.getElem?_eq_getElem (by simpa using h)]
  simp

theorem rreaches_pure (own : Own) (l : List Tm) (t : Tm) (h : Hp) (hl : l.length ≤ 1000000) : Pure Try.prog 10 [tms own l, t.v] h (.bool (l.any fun x => x.le t)) := by
  refine pure_of (fun L => trivial) fun h' nx hh => acalls_walk L.corollaryref21_Reaches_low fun hd => ?_
  simp only [List.length_cons, List.length_nil, Nat.reduceAdd, Nat.reduceSub, List.replicate_succ, List.replicate_zero, List.cons_append, List.nil_append, V.undef]
  refine lwp_seq (lwp_ops ?_)
  refine lops_take 2 rfl (by simp only [L.corollaryref21_Reaches_r0, Tm.v, go_sem, reduceIte, Nat.reduceAdd, Nat.reduceSub, Nat.reduceLT, Nat.reduceLeDiff, reduceCtorEq, Nat.reduceEqDiff, Int.reduceToNat]; try omega) ?_
  simp only [L.corollaryref21_Reaches_r0, Tm.v, go_sem, reduceIte, Nat.reduceAdd, Nat.reduceSub, Nat.reduceLT, Nat.reduceLeDiff, reduceCtorEq, Nat.reduceEqDiff, Int.reduceToNat]
  refine seqQ_normal (lwp_seq (lwp_seq (lwp_ops ?_)))
  refine lops_take 1 rfl (by simp only [L.corollaryref21_Reaches_r1,  go_sem, reduceIte, Nat.reduceAdd, Nat.reduceSub, Nat.reduceLT, Nat.reduceLeDiff, reduceCtorEq, Nat.reduceEqDiff, Int.reduceToNat]; try omega) ?_
  simp only [L.corollaryref21_Reaches_r1,  go_sem, reduceIte, Nat.reduceAdd, Nat.reduceSub, Nat.reduceLT, Nat.reduceLeDiff, reduceCtorEq, Nat.reduceEqDiff, Int.reduceToNat]
  refine seqQ_normal (lwp_block (lwp_loop (fun k : Nat => k ≤ l.length ∧ (l.take k).any (fun x => x.le t) = false) (fun k => ⟨mkFrom 18 0 [(0, tms own l), (3, .ptr nx (.agg 2) 0 0), (5, .int .i64 k)], h'.set nx (.arr (.agg 2) [t.v]), nx + 1 + 6 * k⟩) (fun k => l.length - k) 0 ⟨Nat.zero_le _, by simp⟩ ?_ ?_))
  · refine wk_mk (by simp only [WkL, mkFrom, Int.natCast_add, Int.natCast_one, Int.natCast_zero, Tm.v, tms, go_sem, reduceIte, Nat.reduceAdd, Nat.reduceSub, Nat.reduceLT, Nat.reduceLeDiff, reduceCtorEq, Nat.reduceEqDiff, Int.reduceToNat]) ?_ ?_
    · exact Hp.le_refl _
    · omega
  · rintro k ⟨hk, hno⟩
    simp only [mkFrom, go_sem, reduceIte, Nat.reduceAdd, Nat.reduceSub, Nat.reduceLT, Nat.reduceLeDiff, reduceCtorEq, Nat.reduceEqDiff, Int.reduceToNat]
    refine lwp_seq (lwp_seq (lwp_ops ?_))
    refine lops_take 4 rfl (by simp only [L.corollaryref21_Reaches_r2, tms, List.length_map, go_sem, reduceIte, Nat.reduceAdd, Nat.reduceSub, Nat.reduceLT, Nat.reduceLeDiff, reduceCtorEq, Nat.reduceEqDiff, Int.reduceToNat]; try omega) ?_
    simp only [L.corollaryref21_Reaches_r2, tms, List.length_map, go_sem, reduceIte, Nat.reduceAdd, Nat.reduceSub, Nat.reduceLT, Nat.reduceLeDiff, reduceCtorEq, Nat.reduceEqDiff, Int.reduceToNat]
    refine seqQ_normal (lwp_cond _ rfl (fun hc => ?_) (fun hc => ?_))
    · have hlt : k < l.length := by simpa using hc
      refine lwp_skip (seqQ_normal (lwp_seq (lwp_block (lwp_seq (lwp_draw rfl ?_)))))
      have hg := getD_map Tm.v l k hlt
      refine dops_take 5 (by simp only [L.corollaryref21_Reaches_r3, tms, List.length_map, Int.toNat_natCast, hg, Tm.v, go_sem, reduceIte, Nat.reduceAdd, Nat.reduceSub, Nat.reduceLT, Nat.reduceLeDiff, reduceCtorEq, Nat.reduceEqDiff, Int.reduceToNat]; try omega) ?_
      simp only [L.corollaryref21_Reaches_r3, tms, List.length_map, Int.toNat_natCast, hg, Tm.v, go_sem, reduceIte, Nat.reduceAdd, Nat.reduceSub, Nat.reduceLT, Nat.reduceLeDiff, reduceCtorEq, Nat.reduceEqDiff, Int.reduceToNat]
      refine dops_pure (ratMost_pure l[k] t _) rfl (has_refl _) ?_
      simp only [ go_sem, reduceIte, Nat.reduceAdd, Nat.reduceSub, Nat.reduceLT, Nat.reduceLeDiff, reduceCtorEq, Nat.reduceEqDiff, Int.reduceToNat]
      refine dops_nil (drawQ_nil ?_)
      simp only [go_sem, reduceIte, Nat.reduceAdd, Nat.reduceSub, Nat.reduceLT, Nat.reduceLeDiff, reduceCtorEq, Nat.reduceEqDiff, Int.reduceToNat]
      refine seqQ_normal (lwp_cond _ rfl (fun hc => ?_) (fun hc => ?_))
      · refine lwp_seq (lwp_ops ?_)
        refine lops_take 1 rfl (by simp only [L.corollaryref21_Reaches_r4,  go_sem, reduceIte, Nat.reduceAdd, Nat.reduceSub, Nat.reduceLT, Nat.reduceLeDiff, reduceCtorEq, Nat.reduceEqDiff, Int.reduceToNat]; try omega) ?_
        simp only [L.corollaryref21_Reaches_r4,  go_sem, reduceIte, Nat.reduceAdd, Nat.reduceSub, Nat.reduceLT, Nat.reduceLeDiff, reduceCtorEq, Nat.reduceEqDiff, Int.reduceToNat]
        refine seqQ_normal ?_
        refine lwp_ret ?_
        repeat (first | refine seqQ_ret ?_ | refine blockQ_ret ?_ | refine roundQ_ret ?_)
        refine ret_slot h' (le_of_fresh hd (Hp.le_refl _) (by omega) _) ⟨?_, rfl⟩
        simp only [go_sem, reduceIte, Nat.reduceAdd, Nat.reduceSub, Nat.reduceLT, Nat.reduceLeDiff, reduceCtorEq, Nat.reduceEqDiff, Int.reduceToNat]
        congr 1
        exact (List.any_eq_true.2 ⟨l[k], List.getElem_mem _, hc⟩).symm
      · refine lwp_skip (blockQ_normal (seqQ_normal (lwp_ops ?_)))
        refine lops_take 3 rfl (by simp only [L.corollaryref21_Reaches_r5,  go_sem, reduceIte, Nat.reduceAdd, Nat.reduceSub, Nat.reduceLT, Nat.reduceLeDiff, reduceCtorEq, Nat.reduceEqDiff, Int.reduceToNat]; try omega) ?_
        simp only [L.corollaryref21_Reaches_r5,  go_sem, reduceIte, Nat.reduceAdd, Nat.reduceSub, Nat.reduceLT, Nat.reduceLeDiff, reduceCtorEq, Nat.reduceEqDiff, Int.reduceToNat]
        refine roundQ_normal (k + 1) ⟨by omega, ?_⟩ (by omega) ?_
        · rw [List.take_succ_eq_append_getElem hlt, List.any_append, hno]
          simp [hc]
        · rw [wrap_in (by omega) (by omega)]
          refine wk_mk (by simp only [WkL, mkFrom, Int.natCast_add, Int.natCast_one, Int.natCast_zero, Tm.v, tms, go_sem, reduceIte, Nat.reduceAdd, Nat.reduceSub, Nat.reduceLT, Nat.reduceLeDiff, reduceCtorEq, Nat.reduceEqDiff, Int.reduceToNat]) ?_ ?_
          · exact Hp.le_refl _
          · omega
    · have hge : k = l.length := by have : ¬ k < l.length := by simpa using hc
                                    omega
      refine lwp_exit ?_
      repeat (first | refine seqQ_exit ?_ | refine roundQ_exit ?_ | refine blockQ_other (by decide) ?_)
      refine blockQ_exit ?_
      refine seqQ_normal (lwp_seq (lwp_ops ?_))
      refine lops_take 1 rfl (by simp only [L.corollaryref21_Reaches_r6,  go_sem, reduceIte, Nat.reduceAdd, Nat.reduceSub, Nat.reduceLT, Nat.reduceLeDiff, reduceCtorEq, Nat.reduceEqDiff, Int.reduceToNat]; try omega) ?_
      simp only [L.corollaryref21_Reaches_r6,  go_sem, reduceIte, Nat.reduceAdd, Nat.reduceSub, Nat.reduceLT, Nat.reduceLeDiff, reduceCtorEq, Nat.reduceEqDiff, Int.reduceToNat]
      refine seqQ_normal (lwp_ret (ret_slot h' (le_of_fresh hd (Hp.le_refl _) (by omega) _) ⟨?_, rfl⟩))
      simp only [go_sem, reduceIte, Nat.reduceAdd, Nat.reduceSub, Nat.reduceLT, Nat.reduceLeDiff, reduceCtorEq, Nat.reduceEqDiff, Int.reduceToNat]
      rw [hge, List.take_length] at hno
      rw [hno]

end Go.Proofs.Ythcedfamidlbdaa
