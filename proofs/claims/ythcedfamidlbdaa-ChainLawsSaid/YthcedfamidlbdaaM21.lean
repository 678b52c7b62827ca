/-
corollarylaw21.ChainTells returns true for every input, and leaves its arguments as they were. Conditions: none.
-/
import Derived.Test.YthcedfamidlbdaaC21
import Derived.Test.YthcedfamidlbdaaRow
namespace Go.Proofs.Ythcedfamidlbdaa
set_option linter.unusedSimpArgs false
set_option linter.unusedVariables false
set_option linter.unusedSectionVars false
open Go.ChangeShapes Go.WideShapes Go.ChangeAt Go.RowKit
attribute [local go_sem] Option.some.injEq Prod.mk.injEq false_and and_false Bool.true_eq_false dRun dRest dbare dMerge nones if_true Bool.true_and dgoC dgoCRest fillV okAll nextAll LOper.ok LOper.next LOp.ok LOp.next LVal.ok LVal.out LArg.ev putV binOK pick_true pick_false pick_bool V.undef Sh.size addHp dokAll dnextAll LOper.dok LOper.dres LOp.dok LOp.dout dput conOK veqL leafEq List.take_succ_cons List.take_zero List.take_nil List.drop_succ_cons List.drop_zero List.drop_nil List.set_cons_succ List.set_cons_zero List.getD_cons_succ List.getD_cons_zero List.length_cons List.length_nil List.map_cons List.map_nil List.all_cons List.all_nil List.mem_cons List.not_mem_nil List.replicate_succ List.replicate_zero List.cons_append List.nil_append List.append_nil List.isEmpty_cons List.isEmpty_nil appOwn appHp appOK Option.getD_some Option.isSome_some Nat.add_eq Nat.zero_add Nat.add_zero true_and and_true and_self true_implies implies_true false_implies forall_const forall_eq forall_eq_or_imp ne_eq not_false_eq_true not_true_eq_false Bool.not_true Bool.not_false decide_true decide_false Bool.and_true Bool.true_and Bool.and_false Bool.false_and true_or or_true false_or or_false eq_self Bool.false_eq_true nxNe nxNe' tupOf mkFrom bval ogive cutOwn cutE_nil cutE_full cutE_tok cutE_free_nil cutE_free_cons selems Int.toNat_natCast Int.toNat_zero List.take_length Hp.set_app Hp.del_app goOps goRest LOper.plain LOp.isCall LOper.dplain LOp.isStop lops_nil gRun gRest bare gMerge V.gd_true V.gd_false pick_gd pick_gdn pick_and pick_or partOK_self loadPart_self storePart_self dgoOps dgoRest beq_true beq_false partOK_ll partOK_al partOK_aa loadPart_l loadPart_a storePart_la storePart_aa fits_leaf fits_agg leafy_bool leafy_int leafy_str leafy_nilPtr leafy_ptr leafy_ept leafy_sl leafy_rs leafy_nilMap leafy_map leafy_nilChan leafy_chan leafy_fn leafy_nilFn leafy_yld leafy_iface leafy_nilIface veq_aa veq_li veq_lb veq_ls cells_agg cells_leaf cell_agg cell_leaf veq_ptr1 veq_ptr2 veq_ptr3 veq_ptr4 veq_ptr5 veq_slice1 veq_slice2 veq_func1 veq_func2 veq_func3 veq_iface1 veq_iface2 veq_iface3 veq_map1 veq_map2 veq_map3 veq_chan1 veq_chan2 veq_chan3 conAt_add conAt_zero untaken wrHp Hp.turn delHp Option.isNone_some Option.isNone_none

theorem document_pure (own : Own) (l : List Tm) (h : Hp) (hl : l.length ≤ 1000000) : Pure Try.prog 8 [tms own l] h (lst (.agg 2) (l.map Tm.v)) := by
  refine pure_of_loose (fun L => lst_names (fun L => namesL_map (Tm.names_v L) _) L) fun h' nx hh => ?_
  have c := document_calls own l h' nx hl
  refine ⟨c.1, fun K cargs hlv hr hv => ((c.mono (R' := fun v' h'' _ => v'.loose = lst (.agg 2) (l.map Tm.v) ∧ h'.le h'') ?_).2 K cargs hlv hr hv)⟩
  rintro v h'' nx' hnx ⟨rfl, rfl⟩
  have hd : DomB h' nx := fun m b hm => hlv m (hr.lt m b hm)
  cases l with
  | nil => exact ⟨rfl, Hp.le_refl _⟩
  | cons t l => exact ⟨rfl, le_set (Hp.le_refl _) (hd.none (by omega)) _⟩

theorem chainTells_pure (own : Own) (l : List Tm) (t : Tm) (m : Int) : Pure Try.prog 3 [tms own l, t.v, .int .i64 m] Hp.none (.bool true) := by
  refine pure_of (fun L => trivial) fun h' nx hh => acalls_walk L.corollarylaw21_ChainTells_low fun hd => ?_
  simp only [List.length_cons, List.length_nil, Nat.reduceAdd, Nat.reduceSub, List.replicate_succ, List.replicate_zero, List.cons_append, List.nil_append, V.undef]
  repeat (first | with_reducible refine lwp_seq ?_ | with_reducible refine lwp_block ?_ | with_reducible refine lwp_skip ?_ | with_reducible refine seqQ_normal ?_ | with_reducible refine blockQ_normal ?_ | with_reducible refine lwp_ops ?_ | (refine lops_go1 rfl (by simp only [t.fits_v, go_sem, reduceIte, Nat.reduceAdd, Nat.reduceSub, Nat.reduceLT, Nat.reduceLeDiff, reduceCtorEq, Nat.reduceEqDiff, Int.reduceToNat]; try omega) ?_; simp only [t.fits_v, go_sem, reduceIte, Nat.reduceAdd, Nat.reduceSub, Nat.reduceLT, Nat.reduceLeDiff, reduceCtorEq, Nat.reduceEqDiff, Int.reduceToNat]) | (with_reducible refine lops_done ?_))
  refine lops_pure (alive_pure _) rfl (has_refl _) ?_
  simp only [ go_sem, reduceIte, Nat.reduceAdd, Nat.reduceSub, Nat.reduceLT, Nat.reduceLeDiff, reduceCtorEq, Nat.reduceEqDiff, Int.reduceToNat]
  repeat (first | with_reducible refine lwp_seq ?_ | with_reducible refine lwp_block ?_ | with_reducible refine lwp_skip ?_ | with_reducible refine seqQ_normal ?_ | with_reducible refine blockQ_normal ?_ | with_reducible refine lwp_ops ?_ | (refine lops_go1 rfl (by simp only [ go_sem, reduceIte, Nat.reduceAdd, Nat.reduceSub, Nat.reduceLT, Nat.reduceLeDiff, reduceCtorEq, Nat.reduceEqDiff, Int.reduceToNat]; try omega) ?_; simp only [ go_sem, reduceIte, Nat.reduceAdd, Nat.reduceSub, Nat.reduceLT, Nat.reduceLeDiff, reduceCtorEq, Nat.reduceEqDiff, Int.reduceToNat]) | (with_reducible refine lops_done ?_))
  refine lwp_cond _ rfl (fun hc => ?_) (fun hc => ?_)
  · cases hc
  repeat (first | with_reducible refine lwp_seq ?_ | with_reducible refine lwp_block ?_ | with_reducible refine lwp_skip ?_ | with_reducible refine seqQ_normal ?_ | with_reducible refine blockQ_normal ?_ | with_reducible refine lwp_ops ?_ | (refine lops_go1 rfl (by simp only [tms, List.length_map, go_sem, reduceIte, Nat.reduceAdd, Nat.reduceSub, Nat.reduceLT, Nat.reduceLeDiff, reduceCtorEq, Nat.reduceEqDiff, Int.reduceToNat]; try omega) ?_; simp only [tms, List.length_map, go_sem, reduceIte, Nat.reduceAdd, Nat.reduceSub, Nat.reduceLT, Nat.reduceLeDiff, reduceCtorEq, Nat.reduceEqDiff, Int.reduceToNat]) | (with_reducible refine lops_done ?_))
  refine lwp_cond _ rfl (fun hc => ?_) (fun hc => ?_)
  · repeat (first | with_reducible refine lwp_seq ?_ | with_reducible refine lwp_block ?_ | with_reducible refine lwp_skip ?_ | with_reducible refine seqQ_normal ?_ | with_reducible refine blockQ_normal ?_ | with_reducible refine lwp_ops ?_ | (refine lops_go1 rfl (by simp only [ go_sem, reduceIte, Nat.reduceAdd, Nat.reduceSub, Nat.reduceLT, Nat.reduceLeDiff, reduceCtorEq, Nat.reduceEqDiff, Int.reduceToNat]; try omega) ?_; simp only [ go_sem, reduceIte, Nat.reduceAdd, Nat.reduceSub, Nat.reduceLT, Nat.reduceLeDiff, reduceCtorEq, Nat.reduceEqDiff, Int.reduceToNat]) | (with_reducible refine lops_done ?_))
    refine lwp_ret ?_
    repeat (first | with_reducible refine seqQ_ret ?_ | with_reducible refine blockQ_ret ?_ | with_reducible refine roundQ_ret ?_ | with_reducible refine roundM_ret ?_)
    exact ret_slot h' (by repeat (first | exact Hp.le_refl _ | refine le_of_fresh hd ?_ (by omega) _ | refine le_of_freshd hd ?_ (by omega))) ⟨rfl, rfl⟩
  have hl : l.length ≤ 60 := by
    have : ¬ ((60 : Int) < l.length) := by simpa using hc
    omega
  repeat (first | with_reducible refine lwp_seq ?_ | with_reducible refine lwp_block ?_ | with_reducible refine lwp_skip ?_ | with_reducible refine seqQ_normal ?_ | with_reducible refine blockQ_normal ?_ | with_reducible refine lwp_ops ?_ | (refine lops_go1 rfl (by simp only [ go_sem, reduceIte, Nat.reduceAdd, Nat.reduceSub, Nat.reduceLT, Nat.reduceLeDiff, reduceCtorEq, Nat.reduceEqDiff, Int.reduceToNat]; try omega) ?_; simp only [ go_sem, reduceIte, Nat.reduceAdd, Nat.reduceSub, Nat.reduceLT, Nat.reduceLeDiff, reduceCtorEq, Nat.reduceEqDiff, Int.reduceToNat]) | (with_reducible refine lops_done ?_))
  refine lops_pure (document_pure own l _ (by omega)) rfl (has_refl _) ?_
  simp only [go_sem, reduceIte, Nat.reduceAdd, Nat.reduceSub, Nat.reduceLT, Nat.reduceLeDiff, reduceCtorEq, Nat.reduceEqDiff, Int.reduceToNat]
  repeat (first | with_reducible refine lwp_seq ?_ | with_reducible refine lwp_block ?_ | with_reducible refine lwp_skip ?_ | with_reducible refine seqQ_normal ?_ | with_reducible refine blockQ_normal ?_ | with_reducible refine lwp_ops ?_ | (refine lops_go1 rfl (by simp only [ go_sem, reduceIte, Nat.reduceAdd, Nat.reduceSub, Nat.reduceLT, Nat.reduceLeDiff, reduceCtorEq, Nat.reduceEqDiff, Int.reduceToNat]; try omega) ?_; simp only [ go_sem, reduceIte, Nat.reduceAdd, Nat.reduceSub, Nat.reduceLT, Nat.reduceLeDiff, reduceCtorEq, Nat.reduceEqDiff, Int.reduceToNat]) | (with_reducible refine lops_done ?_))
  obtain ⟨o2, ho2⟩ := lst_eq (.agg 2) (l.map Tm.v)
  rw [ho2]
  refine lwp_draw rfl ?_
  refine dops_goC (by simp only [t.fits_v, go_sem, reduceIte, Nat.reduceAdd, Nat.reduceSub, Nat.reduceLT, Nat.reduceLeDiff, reduceCtorEq, Nat.reduceEqDiff, Int.reduceToNat]; try omega) ?_
  simp only [t.fits_v, go_sem, reduceIte, Nat.reduceAdd, Nat.reduceSub, Nat.reduceLT, Nat.reduceLeDiff, reduceCtorEq, Nat.reduceEqDiff, Int.reduceToNat]
  refine dops_pure (reaches_pure own l t Hp.none (by omega)) rfl (none_has _) ?_
  refine dops_goC (by simp only [t.fits_v, go_sem, reduceIte, Nat.reduceAdd, Nat.reduceSub, Nat.reduceLT, Nat.reduceLeDiff, reduceCtorEq, Nat.reduceEqDiff, Int.reduceToNat]; try omega) ?_
  simp only [t.fits_v, go_sem, reduceIte, Nat.reduceAdd, Nat.reduceSub, Nat.reduceLT, Nat.reduceLeDiff, reduceCtorEq, Nat.reduceEqDiff, Int.reduceToNat]
  refine dops_pure (rtime_pure t Hp.none) rfl (none_has _) ?_
  refine dops_goC (by simp only [t.fits_v, go_sem, reduceIte, Nat.reduceAdd, Nat.reduceSub, Nat.reduceLT, Nat.reduceLeDiff, reduceCtorEq, Nat.reduceEqDiff, Int.reduceToNat]; try omega) ?_
  simp only [t.fits_v, go_sem, reduceIte, Nat.reduceAdd, Nat.reduceSub, Nat.reduceLT, Nat.reduceLeDiff, reduceCtorEq, Nat.reduceEqDiff, Int.reduceToNat]
  refine dops_pure (rreaches_pure o2 l t Hp.none (by omega)) rfl (none_has _) ?_
  refine dops_goC (by simp only [t.fits_v, beq_self_eq_true, go_sem, reduceIte, Nat.reduceAdd, Nat.reduceSub, Nat.reduceLT, Nat.reduceLeDiff, reduceCtorEq, Nat.reduceEqDiff, Int.reduceToNat]; try omega) ?_
  simp only [t.fits_v, beq_self_eq_true, go_sem, reduceIte, Nat.reduceAdd, Nat.reduceSub, Nat.reduceLT, Nat.reduceLeDiff, reduceCtorEq, Nat.reduceEqDiff, Int.reduceToNat]
  refine dops_guard rfl (fun _ => ?_) (fun h => absurd rfl h)
  refine dops_pure (done_pure own l m Hp.none (by omega)) rfl (none_has _) ?_
  refine dops_goC (by simp only [t.fits_v, beq_self_eq_true, go_sem, reduceIte, Nat.reduceAdd, Nat.reduceSub, Nat.reduceLT, Nat.reduceLeDiff, reduceCtorEq, Nat.reduceEqDiff, Int.reduceToNat]; try omega) ?_
  simp only [t.fits_v, beq_self_eq_true, go_sem, reduceIte, Nat.reduceAdd, Nat.reduceSub, Nat.reduceLT, Nat.reduceLeDiff, reduceCtorEq, Nat.reduceEqDiff, Int.reduceToNat]
  refine dops_guard rfl (fun _ => ?_) (fun h => absurd rfl h)
  refine dops_pure (rdone_pure o2 l m Hp.none (by omega)) rfl (none_has _) ?_
  refine dops_goC (by simp only [t.fits_v, beq_self_eq_true, if_true, go_sem, reduceIte, Nat.reduceAdd, Nat.reduceSub, Nat.reduceLT, Nat.reduceLeDiff, reduceCtorEq, Nat.reduceEqDiff, Int.reduceToNat]; try omega) ?_
  simp only [t.fits_v, beq_self_eq_true, if_true, go_sem, reduceIte, Nat.reduceAdd, Nat.reduceSub, Nat.reduceLT, Nat.reduceLeDiff, reduceCtorEq, Nat.reduceEqDiff, Int.reduceToNat]
  refine dops_nil (drawQ_nil ?_)
  simp only [go_sem, reduceIte, Nat.reduceAdd, Nat.reduceSub, Nat.reduceLT, Nat.reduceLeDiff, reduceCtorEq, Nat.reduceEqDiff, Int.reduceToNat]
  refine seqQ_normal (lwp_ret (ret_slot h' ?_ ⟨rfl, rfl⟩))
  exact (by repeat (first | exact Hp.le_refl _ | refine le_of_fresh hd ?_ (by omega) _ | refine le_of_freshd hd ?_ (by omega)))

/-! ### What is read -/
theorem ok_int {k : IntKind} {v : V} (h : (AT.int k).ok v) : ∃ n, v = .int k n := by cases h with | int _ n _ => exact ⟨n, rfl⟩
theorem list_of {α : Type} (f : α → V) : ∀ (vs : List V), (∀ v ∈ vs, ∃ x, v = f x) → ∃ l : List α, vs = l.map f
  | [], _ => ⟨[], rfl⟩
  | v :: vs, h => by
    obtain ⟨x, rfl⟩ := h v (by simp)
    obtain ⟨l, rfl⟩ := list_of f vs (fun v hv => h v (by simp [hv]))
    exact ⟨x :: l, rfl⟩
theorem tm_of {v : V} (hf : v.fits (.agg 2) = true) (h : ∀ i, i < 2 → (([AT.int .i64, AT.int .i64] : List AT).getD i .bool).ok (v.cell i)) : ∃ t : Tm, v = t.v := by
  cases v with
  | agg cs =>
    simp only [V.fits, Bool.and_eq_true, decide_eq_true_eq] at hf
    obtain ⟨a, b, rfl⟩ : ∃ a b, cs = [a, b] := by
      match cs, hf.1 with
      | [a, b], _ => exact ⟨a, b, rfl⟩
    obtain ⟨x, hx⟩ := ok_int (h 0 (by omega))
    obtain ⟨y, hy⟩ := ok_int (h 1 (by omega))
    simp only [cell_agg, List.getD_cons_zero, List.getD_cons_succ] at hx hy
    exact ⟨⟨x, y⟩, by rw [hx, hy]; rfl⟩
  | _ => simp [V.fits] at hf
theorem arg_leaf {P : Program} {t : TypeId} {a : AT} {x : V} (ek : shOf P t = some .leaf) (ea : atsOf P 12 t = some [a]) (h : ArgOK P t x) : a.ok x := by
  obtain ⟨k, ats, hk, ha, hf, _, ho⟩ := h
  rw [ek] at hk
  rw [ea] at ha
  injection hk with hk; injection ha with ha
  subst hk ha
  have h0 := ho 0 (by simp)
  rwa [cell_leaf (by rwa [fits_leaf] at hf)] at h0
theorem arg_agg {P : Program} {t : TypeId} {n : Nat} {ats : List AT} {x : V} (ek : shOf P t = some (.agg n)) (ea : atsOf P 12 t = some ats) (h : ArgOK P t x) : x.fits (.agg n) = true ∧ ats.length = n ∧ ∀ i, i < ats.length → (ats.getD i .bool).ok (x.cell i) := by
  obtain ⟨k, ats', hk, ha, hf, hl, ho⟩ := h
  rw [ek] at hk
  rw [ea] at ha
  injection hk with hk; injection ha with ha
  subst hk ha
  exact ⟨hf, hl, ho⟩
theorem arg_tm {P : Program} {t : TypeId} {x : V} (ek : shOf P t = some (.agg 2)) (ea : atsOf P 12 t = some [.int .i64, .int .i64]) (h : ArgOK P t x) : ∃ t : Tm, x = t.v :=
  have ⟨h1, _, h3⟩ := arg_agg ek ea h
  tm_of h1 h3
theorem arg_tms {P : Program} {t : TypeId} {x : V} (ek : shOf P t = some .leaf) (ea : atsOf P 12 t = some [.sl (.agg 2) [.int .i64, .int .i64]]) (h : ArgOK P t x) : ∃ own l, x = tms own l := by
  cases arg_leaf ek ea h with
  | nil => exact ⟨.nil, [], rfl⟩
  | sl _ _ vs hl hf hc =>
    obtain ⟨l, rfl⟩ := list_of Tm.v vs (fun v hv => tm_of (hf v hv) (hc v hv))
    exact ⟨.free, l, rfl⟩
theorem arg_int {P : Program} {t : TypeId} {k : IntKind} {x : V} (ek : shOf P t = some .leaf) (ea : atsOf P 12 t = some [.int k]) (h : ArgOK P t x) : ∃ n, x = .int k n := ok_int (arg_leaf ek ea h)

set_option maxRecDepth 100000 in
theorem chainTells_lifted (os : Os) (started : os.Started) (H : Type) (enc : TypeId × Value → H) :
    ReturnsInHanded {} Try.checked os 3 .any (Rows.chainTellsSpec.pre6 enc Try.prog Try.f3 Rows.chainTellsRow.domain false) (Rows.chainTellsSpec.post enc Try.prog Try.f3 false true false false) := by
  refine law_lifted (C := Try.checked) (tb := 4) own started (by kernel_rfl) Try.func3
    (ChangeSpec.witness6 (enc := enc) (C := Try.checked) false ⟨#[], #[.slice none 0 0, .agg #[.int .i64 0, .int .i64 0], .int .i64 0], []⟩ 8 (by kernel_rfl) (by kernel_rfl) (by kernel_rfl) (by kernel_rfl))
    rfl (fun ds hds => by match ds, hds with | [_, _, _], _ => rfl) rfl Try.underlying4 laidOut (fun t ht => ?_) ?_
  · simp only [Try.params3, List.mem_cons, List.not_mem_nil, or_false] at ht
    rcases ht with rfl | rfl | rfl <;> exact ⟨by kernel_rfl, of_decide_eq_true (by kernel_rfl)⟩
  · intro W base args ds p hval hA _ _
    refine law_contract (P := Try.prog) (congrArg Array.toList Try.params3) (by kernel_rfl) (fun xs hxs => ?_) W base args ds p hval hA
    match xs, hxs with
    | [x0, x1, x2], ⟨h0, h1, h2, _⟩ =>
      obtain ⟨ow, l, rfl⟩ := arg_tms (by kernel_rfl) (by kernel_rfl) h0
      obtain ⟨t, rfl⟩ := arg_tm (by kernel_rfl) (by kernel_rfl) h1
      obtain ⟨m, rfl⟩ := arg_int (k := .i64) (by kernel_rfl) (by kernel_rfl) h2
      exact chainTells_pure ow l t m

theorem chainTells_holds : Rows.ChainTellsSaid :=
  OpenClaim.holds_of_wide 3 Try.f3 rfl rfl rfl rfl rfl rfl rfl ⟨rfl, rfl, rfl, rfl, rfl⟩ rfl rfl rfl rfl rfl (by kernel_rfl) Try.func3 (by kernel_rfl)
    (of_decide_eq_true (by kernel_rfl)) (by unfold Func.isWrapper; first | (rw [if_pos (by decide +kernel)]; kernel_rfl) | (rw [if_neg (by decide +kernel)]; exact ⟨rfl, rfl⟩))
    (fun os started H enc _ => chainTells_lifted os started H enc)
end Go.Proofs.Ythcedfamidlbdaa
