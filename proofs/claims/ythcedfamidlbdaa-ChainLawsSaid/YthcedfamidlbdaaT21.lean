/-
Contracts: the document's times, and what package chain asks of slices. No conditions.
-/
import Derived.Test.YthcedfamidlbdaaS21
namespace Go.Proofs.Ythcedfamidlbdaa
set_option linter.unusedSimpArgs false
set_option linter.unusedVariables false
set_option linter.unusedSectionVars false
open Go.RowKit
attribute [local go_sem] okAll nextAll LOper.ok LOper.next LOp.ok LOp.next LVal.ok LVal.out LArg.ev putV binOK pick_true pick_false pick_bool V.fits V.leafy V.cells V.cell V.undef partOK loadPart storePart Sh.size Hp.set Hp.del addHp delHp dokAll dnextAll LOper.dok LOper.dres LOp.dok LOp.dout dput conOK conAt untaken wrHp Hp.turn veq veqL leafEq List.take_succ_cons List.take_zero List.take_nil List.drop_succ_cons List.drop_zero List.drop_nil List.set_cons_succ List.set_cons_zero List.getD_cons_succ List.getD_cons_zero List.length_cons List.length_nil List.map_cons List.map_nil List.all_cons List.all_nil List.mem_cons List.not_mem_nil List.replicate_succ List.replicate_zero List.cons_append List.nil_append List.append_nil List.isEmpty_cons List.isEmpty_nil appOwn appHp appOK Option.getD_some Option.isSome_some Nat.add_eq Nat.zero_add Nat.add_zero true_and and_true and_self true_implies implies_true false_implies forall_const forall_eq forall_eq_or_imp ne_eq not_false_eq_true not_true_eq_false Bool.not_true Bool.not_false decide_true decide_false Bool.and_true Bool.true_and Bool.and_false Bool.false_and true_or or_true false_or or_false eq_self Bool.false_eq_true nxNe nxNe' tupOf mkFrom bval ogive cutOwn cutE_nil cutE_full cutE_tok cutE_free_nil cutE_free_cons selems Int.toNat_natCast Int.toNat_zero List.take_length

theorem rright_pure (t : Tm) (h : Hp) : Pure Try.prog 33 [t.v] h (.bool t.ok) := by
  refine pure_of (fun L => trivial) fun h' nx hh => acalls_walk L.corollaryref20_Right_low fun hd => ?_
  simp only [List.length_cons, List.length_nil, Nat.reduceAdd, Nat.reduceSub, List.replicate_succ, List.replicate_zero, List.cons_append, List.nil_append, V.undef]
  by_cases h0 : 0 ≤ t.e <;> by_cases h1 : 0 ≤ t.r <;> by_cases h2 : t.e ≤ 1048576
  all_goals
    refine lwp_seq (lwp_ops ?_)
    refine lops_take 2 rfl (by simp only [L.corollaryref20_Right_r0, Tm.v, go_sem, reduceIte, Nat.reduceAdd, Nat.reduceSub, Nat.reduceLT, Nat.reduceLeDiff, reduceCtorEq, Nat.reduceEqDiff, Int.reduceToNat]; try omega) ?_
    simp only [L.corollaryref20_Right_r0, Tm.v, go_sem, reduceIte, Nat.reduceAdd, Nat.reduceSub, Nat.reduceLT, Nat.reduceLeDiff, reduceCtorEq, Nat.reduceEqDiff, Int.reduceToNat]
    refine seqQ_normal (lwp_seq (lwp_ops ?_))
    refine lops_take 19 rfl (by simp only [L.corollaryref20_Right_r1, Tm.v, h0, h1, h2, go_sem, reduceIte, Nat.reduceAdd, Nat.reduceSub, Nat.reduceLT, Nat.reduceLeDiff, reduceCtorEq, Nat.reduceEqDiff, Int.reduceToNat]; try omega) ?_
    simp only [L.corollaryref20_Right_r1, Tm.v, h0, h1, h2, go_sem, reduceIte, Nat.reduceAdd, Nat.reduceSub, Nat.reduceLT, Nat.reduceLeDiff, reduceCtorEq, Nat.reduceEqDiff, Int.reduceToNat]
    refine seqQ_normal (lwp_ret (ret_slot h' (le_of_fresh hd (Hp.le_refl _) (by omega) _) ⟨?_, rfl⟩))
    simp [Tm.ok, h0, h1, h2]

theorem rless_pure (a b : Tm) (h : Hp) : Pure Try.prog 34 [a.v, b.v] h (.bool (a.less b)) := by
  refine pure_of (fun L => trivial) fun h' nx hh => acalls_walk L.corollaryref20_Less_low fun hd => ?_
  simp only [List.length_cons, List.length_nil, Nat.reduceAdd, Nat.reduceSub, List.replicate_succ, List.replicate_zero, List.cons_append, List.nil_append, V.undef]
  by_cases h0 : a.e < b.e
  · refine lwp_seq (lwp_ops ?_)
    refine lops_take 3 rfl (by simp only [L.corollaryref20_Less_r0, Tm.v, go_sem, reduceIte, Nat.reduceAdd, Nat.reduceSub, Nat.reduceLT, Nat.reduceLeDiff, reduceCtorEq, Nat.reduceEqDiff, Int.reduceToNat]; try omega) ?_
    simp only [L.corollaryref20_Less_r0, Tm.v, go_sem, reduceIte, Nat.reduceAdd, Nat.reduceSub, Nat.reduceLT, Nat.reduceLeDiff, reduceCtorEq, Nat.reduceEqDiff, Int.reduceToNat]
    refine seqQ_normal (lwp_seq (lwp_ops ?_))
    refine lops_take 20 rfl (by simp only [L.corollaryref20_Less_r1, Tm.v, h0, go_sem, reduceIte, Nat.reduceAdd, Nat.reduceSub, Nat.reduceLT, Nat.reduceLeDiff, reduceCtorEq, Nat.reduceEqDiff, Int.reduceToNat]; try omega) ?_
    simp only [L.corollaryref20_Less_r1, Tm.v, h0, go_sem, reduceIte, Nat.reduceAdd, Nat.reduceSub, Nat.reduceLT, Nat.reduceLeDiff, reduceCtorEq, Nat.reduceEqDiff, Int.reduceToNat]
    refine seqQ_normal (lwp_ret (ret_slot h' (le_of_fresh hd (le_of_fresh hd (Hp.le_refl _) (by omega) _) (by omega) _) ⟨?_, rfl⟩))
    simp [Tm.less, h0]
  · by_cases h1 : a.e = b.e
    · refine lwp_seq (lwp_ops ?_)
      refine lops_take 3 rfl (by simp only [L.corollaryref20_Less_r0, Tm.v, go_sem, reduceIte, Nat.reduceAdd, Nat.reduceSub, Nat.reduceLT, Nat.reduceLeDiff, reduceCtorEq, Nat.reduceEqDiff, Int.reduceToNat]; try omega) ?_
      simp only [L.corollaryref20_Less_r0, Tm.v, go_sem, reduceIte, Nat.reduceAdd, Nat.reduceSub, Nat.reduceLT, Nat.reduceLeDiff, reduceCtorEq, Nat.reduceEqDiff, Int.reduceToNat]
      refine seqQ_normal (lwp_seq (lwp_ops ?_))
      have hb : (a.e == b.e) = true := by simp [h1]
      refine lops_take 20 rfl (by simp only [L.corollaryref20_Less_r1, Tm.v, h0, hb, go_sem, reduceIte, Nat.reduceAdd, Nat.reduceSub, Nat.reduceLT, Nat.reduceLeDiff, reduceCtorEq, Nat.reduceEqDiff, Int.reduceToNat]; try omega) ?_
      simp only [L.corollaryref20_Less_r1, Tm.v, h0, hb, go_sem, reduceIte, Nat.reduceAdd, Nat.reduceSub, Nat.reduceLT, Nat.reduceLeDiff, reduceCtorEq, Nat.reduceEqDiff, Int.reduceToNat]
      refine seqQ_normal (lwp_ret (ret_slot h' (le_of_fresh hd (le_of_fresh hd (Hp.le_refl _) (by omega) _) (by omega) _) ⟨?_, rfl⟩))
      simp [Tm.less, h0, h1]
    · refine lwp_seq (lwp_ops ?_)
      refine lops_take 3 rfl (by simp only [L.corollaryref20_Less_r0, Tm.v, go_sem, reduceIte, Nat.reduceAdd, Nat.reduceSub, Nat.reduceLT, Nat.reduceLeDiff, reduceCtorEq, Nat.reduceEqDiff, Int.reduceToNat]; try omega) ?_
      simp only [L.corollaryref20_Less_r0, Tm.v, go_sem, reduceIte, Nat.reduceAdd, Nat.reduceSub, Nat.reduceLT, Nat.reduceLeDiff, reduceCtorEq, Nat.reduceEqDiff, Int.reduceToNat]
      refine seqQ_normal (lwp_seq (lwp_ops ?_))
      have hb : (a.e == b.e) = false := by simp [h1]
      refine lops_take 20 rfl (by simp only [L.corollaryref20_Less_r1, Tm.v, h0, hb, go_sem, reduceIte, Nat.reduceAdd, Nat.reduceSub, Nat.reduceLT, Nat.reduceLeDiff, reduceCtorEq, Nat.reduceEqDiff, Int.reduceToNat]; try omega) ?_
      simp only [L.corollaryref20_Less_r1, Tm.v, h0, hb, go_sem, reduceIte, Nat.reduceAdd, Nat.reduceSub, Nat.reduceLT, Nat.reduceLeDiff, reduceCtorEq, Nat.reduceEqDiff, Int.reduceToNat]
      refine seqQ_normal (lwp_ret (ret_slot h' (le_of_fresh hd (le_of_fresh hd (Hp.le_refl _) (by omega) _) (by omega) _) ⟨?_, rfl⟩))
      simp [Tm.less, h0, h1]

/-- The place of the first one of which p holds; -1. -/
def idxOf (p : Tm → Bool) (l : List Tm) : Int := match l.findIdx? p with
  | some i => i
  | none => -1

theorem indexFunc_pure (p : Tm → Bool) (own : Own) (l : List Tm) (g : Nat) (caps : List V) (h : Hp) (hp : ∀ x : Tm, Pure Try.prog g ([x.v] ++ caps) h (.bool (p x))) (hl : l.length ≤ 1000000) :
    Pure Try.prog 45 [tms own l, .fn (.func g) [] caps] h (.int .i64 (idxOf p l)) := by
  refine pure_of (fun L => trivial) fun h' nx hh => acalls_walk L.slices_IndexFunc_stamp_Time_stamp_Time_low fun hd => ?_
  simp only [List.length_cons, List.length_nil, Nat.reduceAdd, Nat.reduceSub, List.replicate_succ, List.replicate_zero, List.cons_append, List.nil_append, V.undef]
  refine lwp_seq (lwp_ops ?_)
  refine lops_take 1 rfl (by simp only [L.slices_IndexFunc_stamp_Time_stamp_Time_r0,  go_sem, reduceIte, Nat.reduceAdd, Nat.reduceSub, Nat.reduceLT, Nat.reduceLeDiff, reduceCtorEq, Nat.reduceEqDiff, Int.reduceToNat]; try omega) ?_
  simp only [L.slices_IndexFunc_stamp_Time_stamp_Time_r0,  go_sem, reduceIte, Nat.reduceAdd, Nat.reduceSub, Nat.reduceLT, Nat.reduceLeDiff, reduceCtorEq, Nat.reduceEqDiff, Int.reduceToNat]
  refine seqQ_normal (lwp_seq (lwp_seq (lwp_ops ?_)))
  refine lops_take 3 rfl (by simp only [L.slices_IndexFunc_stamp_Time_stamp_Time_r1, tms, List.length_map, go_sem, reduceIte, Nat.reduceAdd, Nat.reduceSub, Nat.reduceLT, Nat.reduceLeDiff, reduceCtorEq, Nat.reduceEqDiff, Int.reduceToNat]; try omega) ?_
  simp only [L.slices_IndexFunc_stamp_Time_stamp_Time_r1, tms, List.length_map, go_sem, reduceIte, Nat.reduceAdd, Nat.reduceSub, Nat.reduceLT, Nat.reduceLeDiff, reduceCtorEq, Nat.reduceEqDiff, Int.reduceToNat]
  refine seqQ_normal (lwp_block (lwp_loop (fun k : Nat => k ≤ l.length ∧ ∀ x ∈ l.take k, p x = false) (fun k => ⟨mkFrom 19 0 [(0, tms own l), (1, .fn (.func g) [] caps), (7, .int .i64 l.length), (8, .int .i64 k)], h', nx⟩) (fun k => l.length - k) 0 ⟨Nat.zero_le _, by simp⟩ ?_ ?_))
  · refine wk_mk (by simp only [WkL, mkFrom, Int.natCast_add, Int.natCast_one, Int.natCast_zero, Tm.v, tms, go_sem, reduceIte, Nat.reduceAdd, Nat.reduceSub, Nat.reduceLT, Nat.reduceLeDiff, reduceCtorEq, Nat.reduceEqDiff, Int.reduceToNat]) ?_ ?_
    · exact Hp.le_refl _
    · omega
  · rintro k ⟨hk, hno⟩
    simp only [mkFrom, go_sem, reduceIte, Nat.reduceAdd, Nat.reduceSub, Nat.reduceLT, Nat.reduceLeDiff, reduceCtorEq, Nat.reduceEqDiff, Int.reduceToNat]
    refine lwp_seq (lwp_ops ?_)
    refine lops_take 1 rfl (by simp only [L.slices_IndexFunc_stamp_Time_stamp_Time_r2,  go_sem, reduceIte, Nat.reduceAdd, Nat.reduceSub, Nat.reduceLT, Nat.reduceLeDiff, reduceCtorEq, Nat.reduceEqDiff, Int.reduceToNat]; try omega) ?_
    simp only [L.slices_IndexFunc_stamp_Time_stamp_Time_r2,  go_sem, reduceIte, Nat.reduceAdd, Nat.reduceSub, Nat.reduceLT, Nat.reduceLeDiff, reduceCtorEq, Nat.reduceEqDiff, Int.reduceToNat]
    refine seqQ_normal (lwp_seq (lwp_cond _ rfl (fun hc => ?_) (fun hc => ?_)))
    · have hlt : k < l.length := by simpa using hc
      have hg := getD_map Tm.v l k hlt
      refine lwp_skip (seqQ_normal (lwp_seq (lwp_block (lwp_seq (lwp_ops ?_)))))
      refine lops_take 2 rfl (by simp only [L.slices_IndexFunc_stamp_Time_stamp_Time_r3,  go_sem, reduceIte, Nat.reduceAdd, Nat.reduceSub, Nat.reduceLT, Nat.reduceLeDiff, reduceCtorEq, Nat.reduceEqDiff, Int.reduceToNat]; try omega) ?_
      simp only [L.slices_IndexFunc_stamp_Time_stamp_Time_r3,  go_sem, reduceIte, Nat.reduceAdd, Nat.reduceSub, Nat.reduceLT, Nat.reduceLeDiff, reduceCtorEq, Nat.reduceEqDiff, Int.reduceToNat]
      refine seqQ_normal (lwp_seq (lwp_ops ?_))
      refine lops_take 5 rfl (by simp only [L.slices_IndexFunc_stamp_Time_stamp_Time_r4, tms, List.length_map, Int.toNat_natCast, hg, Tm.v, go_sem, reduceIte, Nat.reduceAdd, Nat.reduceSub, Nat.reduceLT, Nat.reduceLeDiff, reduceCtorEq, Nat.reduceEqDiff, Int.reduceToNat]; try omega) ?_
      simp only [L.slices_IndexFunc_stamp_Time_stamp_Time_r4, tms, List.length_map, Int.toNat_natCast, hg, Tm.v, go_sem, reduceIte, Nat.reduceAdd, Nat.reduceSub, Nat.reduceLT, Nat.reduceLeDiff, reduceCtorEq, Nat.reduceEqDiff, Int.reduceToNat]
      refine lops_purev rfl (hp l[k]) (by simp only [Tm.v, go_sem, reduceIte, Nat.reduceAdd, Nat.reduceSub, Nat.reduceLT, Nat.reduceLeDiff, reduceCtorEq, Nat.reduceEqDiff, Int.reduceToNat]) (by assumption) ?_
      simp only [go_sem, reduceIte, Nat.reduceAdd, Nat.reduceSub, Nat.reduceLT, Nat.reduceLeDiff, reduceCtorEq, Nat.reduceEqDiff, Int.reduceToNat]
      refine seqQ_normal (lwp_cond _ rfl (fun hc => ?_) (fun hc => ?_))
      · refine lwp_seq (lwp_ops ?_)
        refine lops_take 2 rfl (by simp only [L.slices_IndexFunc_stamp_Time_stamp_Time_r5,  go_sem, reduceIte, Nat.reduceAdd, Nat.reduceSub, Nat.reduceLT, Nat.reduceLeDiff, reduceCtorEq, Nat.reduceEqDiff, Int.reduceToNat]; try omega) ?_
        simp only [L.slices_IndexFunc_stamp_Time_stamp_Time_r5,  go_sem, reduceIte, Nat.reduceAdd, Nat.reduceSub, Nat.reduceLT, Nat.reduceLeDiff, reduceCtorEq, Nat.reduceEqDiff, Int.reduceToNat]
        refine seqQ_normal ?_
        refine lwp_ret ?_
        repeat (first | refine seqQ_ret ?_ | refine blockQ_ret ?_ | refine roundQ_ret ?_)
        refine ret_slot h' (Hp.le_refl _) ⟨?_, rfl⟩
        simp only [go_sem, reduceIte, Nat.reduceAdd, Nat.reduceSub, Nat.reduceLT, Nat.reduceLeDiff, reduceCtorEq, Nat.reduceEqDiff, Int.reduceToNat]
        have : l.findIdx? p = some k := by
          rw [List.findIdx?_eq_some_iff_getElem]
          refine ⟨hlt, hc, fun j hj => ?_⟩
          have := hno l[j] (List.mem_take_iff_getElem.2 ⟨j, by omega, rfl⟩)
          simp [this]
        simp only [idxOf, this]
      · refine lwp_skip (blockQ_normal (seqQ_normal (lwp_ops ?_)))
        refine lops_take 2 rfl (by simp only [L.slices_IndexFunc_stamp_Time_stamp_Time_r6,  go_sem, reduceIte, Nat.reduceAdd, Nat.reduceSub, Nat.reduceLT, Nat.reduceLeDiff, reduceCtorEq, Nat.reduceEqDiff, Int.reduceToNat]; try omega) ?_
        simp only [L.slices_IndexFunc_stamp_Time_stamp_Time_r6,  go_sem, reduceIte, Nat.reduceAdd, Nat.reduceSub, Nat.reduceLT, Nat.reduceLeDiff, reduceCtorEq, Nat.reduceEqDiff, Int.reduceToNat]
        refine roundQ_normal (k + 1) ⟨by omega, ?_⟩ (by omega) ?_
        · intro x hx
          rw [List.take_succ_eq_append_getElem hlt, List.mem_append, List.mem_singleton] at hx
          rcases hx with hx | rfl
          · exact hno x hx
          · exact hc
        · rw [wrap_in (by omega) (by omega)]
          refine wk_mk (by simp only [WkL, mkFrom, Int.natCast_add, Int.natCast_one, Int.natCast_zero, Tm.v, tms, go_sem, reduceIte, Nat.reduceAdd, Nat.reduceSub, Nat.reduceLT, Nat.reduceLeDiff, reduceCtorEq, Nat.reduceEqDiff, Int.reduceToNat]) ?_ ?_
          · exact Hp.le_refl _
          · omega
    · have hge : k = l.length := by have : ¬ k < l.length := by simpa using hc
                                    omega
      refine lwp_exit ?_
      repeat (first | refine seqQ_exit ?_ | refine roundQ_exit ?_ | refine blockQ_other (by decide) ?_)
      refine blockQ_exit ?_
      refine seqQ_normal (lwp_seq (lwp_ops ?_))
      refine lops_take 1 rfl (by simp only [L.slices_IndexFunc_stamp_Time_stamp_Time_r7,  go_sem, reduceIte, Nat.reduceAdd, Nat.reduceSub, Nat.reduceLT, Nat.reduceLeDiff, reduceCtorEq, Nat.reduceEqDiff, Int.reduceToNat]; try omega) ?_
      simp only [L.slices_IndexFunc_stamp_Time_stamp_Time_r7,  go_sem, reduceIte, Nat.reduceAdd, Nat.reduceSub, Nat.reduceLT, Nat.reduceLeDiff, reduceCtorEq, Nat.reduceEqDiff, Int.reduceToNat]
      refine seqQ_normal (lwp_ret (ret_slot h' (Hp.le_refl _) ⟨?_, rfl⟩))
      simp only [go_sem, reduceIte, Nat.reduceAdd, Nat.reduceSub, Nat.reduceLT, Nat.reduceLeDiff, reduceCtorEq, Nat.reduceEqDiff, Int.reduceToNat]
      rw [hge, List.take_length] at hno
      have : l.findIdx? p = none := by
        rw [List.findIdx?_eq_none_iff]
        exact fun x hx => hno x hx
      simp only [idxOf, this]

theorem idxOf_any (p : Tm → Bool) (l : List Tm) : decide (0 ≤ idxOf p l) = l.any p := by
  unfold idxOf
  cases hf : l.findIdx? p with
  | none =>
    rw [List.findIdx?_eq_none_iff] at hf
    have : l.any p = false := by
      rw [List.any_eq_false]
      intro x hx
      simp [hf x hx]
    simp [this]
  | some i =>
    rw [List.findIdx?_eq_some_iff_getElem] at hf
    obtain ⟨h1, h2, _⟩ := hf
    have : l.any p = true := List.any_eq_true.2 ⟨l[i], List.getElem_mem _, h2⟩
    simp [this]

theorem containsFunc_pure (p : Tm → Bool) (own : Own) (l : List Tm) (g : Nat) (caps : List V) (h : Hp) (hp : ∀ x : Tm, Pure Try.prog g ([x.v] ++ caps) h (.bool (p x))) (hl : l.length ≤ 1000000) :
    Pure Try.prog 28 [tms own l, .fn (.func g) [] caps] h (.bool (l.any p)) := by
  refine pure_of (fun L => trivial) fun h' nx hh => acalls_walk L.slices_ContainsFunc_stamp_Time_stamp_Time_low fun hd => ?_
  simp only [List.length_cons, List.length_nil, Nat.reduceAdd, Nat.reduceSub, List.replicate_succ, List.replicate_zero, List.cons_append, List.nil_append, V.undef]
  refine lwp_seq (lwp_ops ?_)
  refine lops_take 1 rfl (by simp only [L.slices_ContainsFunc_stamp_Time_stamp_Time_r0,  go_sem, reduceIte, Nat.reduceAdd, Nat.reduceSub, Nat.reduceLT, Nat.reduceLeDiff, reduceCtorEq, Nat.reduceEqDiff, Int.reduceToNat]; try omega) ?_
  simp only [L.slices_ContainsFunc_stamp_Time_stamp_Time_r0,  go_sem, reduceIte, Nat.reduceAdd, Nat.reduceSub, Nat.reduceLT, Nat.reduceLeDiff, reduceCtorEq, Nat.reduceEqDiff, Int.reduceToNat]
  refine seqQ_normal (lwp_seq (lwp_ops ?_))
  refine lops_take 2 rfl (by simp only [L.slices_ContainsFunc_stamp_Time_stamp_Time_r1,  go_sem, reduceIte, Nat.reduceAdd, Nat.reduceSub, Nat.reduceLT, Nat.reduceLeDiff, reduceCtorEq, Nat.reduceEqDiff, Int.reduceToNat]; try omega) ?_
  simp only [L.slices_ContainsFunc_stamp_Time_stamp_Time_r1,  go_sem, reduceIte, Nat.reduceAdd, Nat.reduceSub, Nat.reduceLT, Nat.reduceLeDiff, reduceCtorEq, Nat.reduceEqDiff, Int.reduceToNat]
  refine lops_pure (indexFunc_pure p own l g caps h hp hl) rfl (by assumption) ?_
  simp only [go_sem, reduceIte, Nat.reduceAdd, Nat.reduceSub, Nat.reduceLT, Nat.reduceLeDiff, reduceCtorEq, Nat.reduceEqDiff, Int.reduceToNat]
  refine lops_take 2 rfl (by simp only [L.slices_ContainsFunc_stamp_Time_stamp_Time_r1,  go_sem, reduceIte, Nat.reduceAdd, Nat.reduceSub, Nat.reduceLT, Nat.reduceLeDiff, reduceCtorEq, Nat.reduceEqDiff, Int.reduceToNat]; try omega) ?_
  simp only [L.slices_ContainsFunc_stamp_Time_stamp_Time_r1,  go_sem, reduceIte, Nat.reduceAdd, Nat.reduceSub, Nat.reduceLT, Nat.reduceLeDiff, reduceCtorEq, Nat.reduceEqDiff, Int.reduceToNat]
  refine seqQ_normal (lwp_ret (ret_slot h' (Hp.le_refl _) ⟨?_, rfl⟩))
  simp only [go_sem, reduceIte, Nat.reduceAdd, Nat.reduceSub, Nat.reduceLT, Nat.reduceLeDiff, reduceCtorEq, Nat.reduceEqDiff, Int.reduceToNat]
  rw [← idxOf_any]

theorem rdone_pure (own : Own) (l : List Tm) (n : Int) (h : Hp) (hl : l.length ≤ 1000000) : Pure Try.prog 13 [tms own l, .int .i64 n] h (.bool (!(l.any fun x => decide (x.e ≤ n)))) := by
  refine pure_of (fun L => trivial) fun h' nx hh => acalls_walk L.corollaryref21_Done_low fun hd => ?_
  simp only [List.length_cons, List.length_nil, Nat.reduceAdd, Nat.reduceSub, List.replicate_succ, List.replicate_zero, List.cons_append, List.nil_append, V.undef]
  refine lwp_seq (lwp_ops ?_)
  refine lops_take 1 rfl (by simp only [L.corollaryref21_Done_r0,  go_sem, reduceIte, Nat.reduceAdd, Nat.reduceSub, Nat.reduceLT, Nat.reduceLeDiff, reduceCtorEq, Nat.reduceEqDiff, Int.reduceToNat]; try omega) ?_
  simp only [L.corollaryref21_Done_r0,  go_sem, reduceIte, Nat.reduceAdd, Nat.reduceSub, Nat.reduceLT, Nat.reduceLeDiff, reduceCtorEq, Nat.reduceEqDiff, Int.reduceToNat]
  refine seqQ_normal (lwp_seq (lwp_seq (lwp_ops ?_)))
  refine lops_take 1 rfl (by simp only [L.corollaryref21_Done_r1,  go_sem, reduceIte, Nat.reduceAdd, Nat.reduceSub, Nat.reduceLT, Nat.reduceLeDiff, reduceCtorEq, Nat.reduceEqDiff, Int.reduceToNat]; try omega) ?_
  simp only [L.corollaryref21_Done_r1,  go_sem, reduceIte, Nat.reduceAdd, Nat.reduceSub, Nat.reduceLT, Nat.reduceLeDiff, reduceCtorEq, Nat.reduceEqDiff, Int.reduceToNat]
  refine seqQ_normal (lwp_block (lwp_loop (fun k : Nat => k ≤ l.length ∧ (l.take k).any (fun x => decide (x.e ≤ n)) = false) (fun k => ⟨mkFrom 19 0 [(0, tms own l), (1, .int .i64 n), (5, .int .i64 k)], h', nx⟩) (fun k => l.length - k) 0 ⟨Nat.zero_le _, by simp⟩ ?_ ?_))
  · refine wk_mk (by simp only [WkL, mkFrom, Int.natCast_add, Int.natCast_one, Int.natCast_zero, Tm.v, tms, go_sem, reduceIte, Nat.reduceAdd, Nat.reduceSub, Nat.reduceLT, Nat.reduceLeDiff, reduceCtorEq, Nat.reduceEqDiff, Int.reduceToNat]) ?_ ?_
    · exact Hp.le_refl _
    · omega
  · rintro k ⟨hk, hno⟩
    simp only [mkFrom, go_sem, reduceIte, Nat.reduceAdd, Nat.reduceSub, Nat.reduceLT, Nat.reduceLeDiff, reduceCtorEq, Nat.reduceEqDiff, Int.reduceToNat]
    refine lwp_seq (lwp_seq (lwp_ops ?_))
    refine lops_take 4 rfl (by simp only [L.corollaryref21_Done_r2, tms, List.length_map, go_sem, reduceIte, Nat.reduceAdd, Nat.reduceSub, Nat.reduceLT, Nat.reduceLeDiff, reduceCtorEq, Nat.reduceEqDiff, Int.reduceToNat]; try omega) ?_
    simp only [L.corollaryref21_Done_r2, tms, List.length_map, go_sem, reduceIte, Nat.reduceAdd, Nat.reduceSub, Nat.reduceLT, Nat.reduceLeDiff, reduceCtorEq, Nat.reduceEqDiff, Int.reduceToNat]
    refine seqQ_normal (lwp_cond _ rfl (fun hc => ?_) (fun hc => ?_))
    · have hlt : k < l.length := by simpa using hc
      have hg := getD_map Tm.v l k hlt
      refine lwp_skip (seqQ_normal (lwp_seq (lwp_block (lwp_seq (lwp_ops ?_)))))
      refine lops_take 7 rfl (by simp only [L.corollaryref21_Done_r3, tms, List.length_map, Int.toNat_natCast, hg, Tm.v, go_sem, reduceIte, Nat.reduceAdd, Nat.reduceSub, Nat.reduceLT, Nat.reduceLeDiff, reduceCtorEq, Nat.reduceEqDiff, Int.reduceToNat]; try omega) ?_
      simp only [L.corollaryref21_Done_r3, tms, List.length_map, Int.toNat_natCast, hg, Tm.v, go_sem, reduceIte, Nat.reduceAdd, Nat.reduceSub, Nat.reduceLT, Nat.reduceLeDiff, reduceCtorEq, Nat.reduceEqDiff, Int.reduceToNat]
      refine seqQ_normal (lwp_cond _ rfl (fun hc => ?_) (fun hc => ?_))
      · refine lwp_seq (lwp_ops ?_)
        refine lops_take 1 rfl (by simp only [L.corollaryref21_Done_r4,  go_sem, reduceIte, Nat.reduceAdd, Nat.reduceSub, Nat.reduceLT, Nat.reduceLeDiff, reduceCtorEq, Nat.reduceEqDiff, Int.reduceToNat]; try omega) ?_
        simp only [L.corollaryref21_Done_r4,  go_sem, reduceIte, Nat.reduceAdd, Nat.reduceSub, Nat.reduceLT, Nat.reduceLeDiff, reduceCtorEq, Nat.reduceEqDiff, Int.reduceToNat]
        refine seqQ_normal ?_
        refine lwp_ret ?_
        repeat (first | refine seqQ_ret ?_ | refine blockQ_ret ?_ | refine roundQ_ret ?_)
        refine ret_slot h' (Hp.le_refl _) ⟨?_, rfl⟩
        simp only [go_sem, reduceIte, Nat.reduceAdd, Nat.reduceSub, Nat.reduceLT, Nat.reduceLeDiff, reduceCtorEq, Nat.reduceEqDiff, Int.reduceToNat]
        have : (l.any fun x => decide (x.e ≤ n)) = true := List.any_eq_true.2 ⟨l[k], List.getElem_mem _, hc⟩
        rw [this]; rfl
      · refine lwp_skip (blockQ_normal (seqQ_normal (lwp_ops ?_)))
        refine lops_take 3 rfl (by simp only [L.corollaryref21_Done_r5,  go_sem, reduceIte, Nat.reduceAdd, Nat.reduceSub, Nat.reduceLT, Nat.reduceLeDiff, reduceCtorEq, Nat.reduceEqDiff, Int.reduceToNat]; try omega) ?_
        simp only [L.corollaryref21_Done_r5,  go_sem, reduceIte, Nat.reduceAdd, Nat.reduceSub, Nat.reduceLT, Nat.reduceLeDiff, reduceCtorEq, Nat.reduceEqDiff, Int.reduceToNat]
        refine roundQ_normal (k + 1) ⟨by omega, ?_⟩ (by omega) ?_
        · rw [List.take_succ_eq_append_getElem hlt, List.any_append, hno]
          simpa using hc
        · rw [wrap_in (by omega) (by omega)]
          refine wk_mk (by simp only [WkL, mkFrom, Int.natCast_add, Int.natCast_one, Int.natCast_zero, Tm.v, tms, go_sem, reduceIte, Nat.reduceAdd, Nat.reduceSub, Nat.reduceLT, Nat.reduceLeDiff, reduceCtorEq, Nat.reduceEqDiff, Int.reduceToNat]) ?_ ?_
          · exact Hp.le_refl _
          · omega
    · have hge : k = l.length := by have : ¬ k < l.length := by simpa using hc
                                    omega
      refine lwp_exit ?_
      repeat (first | refine seqQ_exit ?_ | refine roundQ_exit ?_ | refine blockQ_other (by decide) ?_)
      refine blockQ_exit ?_
      refine seqQ_normal (lwp_seq (lwp_ops ?_))
      refine lops_take 1 rfl (by simp only [L.corollaryref21_Done_r6,  go_sem, reduceIte, Nat.reduceAdd, Nat.reduceSub, Nat.reduceLT, Nat.reduceLeDiff, reduceCtorEq, Nat.reduceEqDiff, Int.reduceToNat]; try omega) ?_
      simp only [L.corollaryref21_Done_r6,  go_sem, reduceIte, Nat.reduceAdd, Nat.reduceSub, Nat.reduceLT, Nat.reduceLeDiff, reduceCtorEq, Nat.reduceEqDiff, Int.reduceToNat]
      refine seqQ_normal (lwp_ret (ret_slot h' (Hp.le_refl _) ⟨?_, rfl⟩))
      simp only [go_sem, reduceIte, Nat.reduceAdd, Nat.reduceSub, Nat.reduceLT, Nat.reduceLeDiff, reduceCtorEq, Nat.reduceEqDiff, Int.reduceToNat]
      rw [hge, List.take_length] at hno
      rw [hno]; rfl

end Go.Proofs.Ythcedfamidlbdaa
