/-
Fresh lists handed over as lists that nobody writes; slices.SortedFunc, where the comparison parts whatever two that are not one. No program in sight. No conditions beyond those named.
-/
import Derived.Test.YthcedfamidlbdaaLbc
import Derived.Test.YthcedfamidlbdaaZw
import Derived.Shelf.SlSortCmp.NoneTotal
namespace Go.Proofs.Ythcedfamidlbdaa
set_option linter.unusedSimpArgs false
set_option linter.unusedVariables false
set_option linter.unusedSectionVars false
open Go.RowKit Go.Sort Go.Shelf Go.Lib
attribute [local go_sem] Option.some.injEq Prod.mk.injEq false_and and_false Bool.true_eq_false dRun dRest dbare dMerge nones if_true Bool.true_and dgoC dgoCRest fillV okAll nextAll LOper.ok LOper.next LOp.ok LOp.next LVal.ok LVal.out LArg.ev putV binOK pick_true pick_false pick_bool V.undef Sh.size addHp dokAll dnextAll LOper.dok LOper.dres LOp.dok LOp.dout dput conOK veqL leafEq List.take_succ_cons List.take_zero List.take_nil List.drop_succ_cons List.drop_zero List.drop_nil List.set_cons_succ List.set_cons_zero List.getD_cons_succ List.getD_cons_zero List.length_cons List.length_nil List.map_cons List.map_nil List.all_cons List.all_nil List.mem_cons List.not_mem_nil List.replicate_succ List.replicate_zero List.cons_append List.nil_append List.append_nil List.isEmpty_cons List.isEmpty_nil appOwn appHp appOK Option.getD_some Option.isSome_some Nat.add_eq Nat.zero_add Nat.add_zero true_and and_true and_self true_implies implies_true false_implies forall_const forall_eq forall_eq_or_imp ne_eq not_false_eq_true not_true_eq_false Bool.not_true Bool.not_false decide_true decide_false Bool.and_true Bool.true_and Bool.and_false Bool.false_and true_or or_true false_or or_false eq_self Bool.false_eq_true nxNe nxNe' tupOf mkFrom bval ogive cutOwn cutE_nil cutE_full cutE_tok cutE_free_nil cutE_free_cons selems Int.toNat_natCast Int.toNat_zero List.take_length Hp.set_app Hp.del_app goOps goRest LOper.plain LOp.isCall LOper.dplain LOp.isStop lops_nil gRun gRest bare gMerge V.gd_true V.gd_false pick_gd pick_gdn pick_and pick_or partOK_self loadPart_self storePart_self dgoOps dgoRest beq_true beq_false partOK_ll partOK_al partOK_aa loadPart_l loadPart_a storePart_la storePart_aa fits_leaf fits_agg leafy_bool leafy_int leafy_str leafy_nilPtr leafy_ptr leafy_ept leafy_sl leafy_rs leafy_nilMap leafy_map leafy_nilChan leafy_chan leafy_fn leafy_nilFn leafy_yld leafy_iface leafy_nilIface veq_aa veq_li veq_lb veq_ls cells_agg cells_leaf cell_agg cell_leaf veq_ptr1 veq_ptr2 veq_ptr3 veq_ptr4 veq_ptr5 veq_slice1 veq_slice2 veq_func1 veq_func2 veq_func3 veq_iface1 veq_iface2 veq_iface3 veq_map1 veq_map2 veq_map3 veq_chan1 veq_chan2 veq_chan3 conAt_add conAt_zero untaken wrHp Hp.turn delHp Option.isNone_some Option.isNone_none

/-- A list that nobody writes: nil, if it has nothing in it. -/
def lst (k : Sh) (es : List V) : V := if es.isEmpty = true then .sl k .nil [] else .sl k .free es
theorem lst_nil (k : Sh) : lst k [] = .sl k .nil [] := rfl
theorem lst_cons (k : Sh) (e : V) (es : List V) : lst k (e :: es) = .sl k .free (e :: es) := rfl
theorem lst_names {k : Sh} {es : List V} (h : ∀ L, namesL L es) (L : Nat → Prop) : (lst k es).names L := by
  unfold lst; split <;> simp [V.names, h L, namesL]
theorem lst_eq (k : Sh) (es : List V) : ∃ own, lst k es = .sl k own es := by
  cases es with
  | nil => exact ⟨.nil, rfl⟩
  | cons e es => exact ⟨.free, rfl⟩
theorem lst_leafy (k : Sh) (es : List V) : (lst k es).leafy = true := by cases es <;> rfl
theorem loose_lst (k : Sh) (es : List V) : (lst k es).loose = lst k es := by cases es <;> rfl

/-- A list that was made anew: nothing, or one whose end may be appended to. -/
def FreshL (nx : Nat) (h : Hp) (k : Sh) (es : List V) (v : V) (h' : Hp) : Prop :=
  (es = [] ∧ v = .sl k .nil [] ∧ h' = h) ∨ (es ≠ [] ∧ ∃ id, nx ≤ id ∧ v = .sl k (.tok id) es ∧ h' = h.set id .tip)
/-- The same, or an owned array. -/
def FreshA (nx : Nat) (h : Hp) (k : Sh) (es : List V) (v : V) (h' : Hp) : Prop :=
  (es = [] ∧ v = .sl k .nil [] ∧ h' = h) ∨ (es ≠ [] ∧ ∃ id, nx ≤ id ∧ v = .rs id k 0 es.length ∧ h' = h.set id (.arr k es))

theorem FreshL.loose {nx : Nat} {h : Hp} {k : Sh} {es : List V} {v : V} {h' : Hp} (f : FreshL nx h k es v h') : v.loose = lst k es := by
  rcases f with ⟨rfl, rfl, _⟩ | ⟨hne, id, _, rfl, _⟩
  · rfl
  · cases es with
    | nil => exact absurd rfl hne
    | cons => rfl
theorem FreshL.le {nx : Nat} {h : Hp} {k : Sh} {es : List V} {v : V} {h' : Hp} (f : FreshL nx h k es v h') (hd : DomB h nx) : h.le h' := by
  rcases f with ⟨_, _, rfl⟩ | ⟨_, id, hid, _, rfl⟩
  · exact Hp.le_refl _
  · exact le_set (Hp.le_refl _) (hd.none hid) _

/-- What is known of a result, less. -/
theorem ACalls.conv {P : Program} {f : FuncId} {args : List V} {h : Hp} {nx : Nat} {R R' : V → Hp → Nat → Prop} (c : ACalls P f args h nx R) (hc : ∀ v h' nx', nx ≤ nx' → DomB h' nx' → R v h' nx' → ∃ h2, h2.le h' ∧ R' v.loose h2 nx') : ACalls P f args h nx R' := by
  refine ⟨c.1, fun K cargs hl hr hv => (c.2 K cargs hl hr hv).mono ?_⟩
  rintro e w' ⟨K', v, cv, h', nx', rfl, he, hle, hvr, hrel, hlv, hnx, hR⟩
  obtain ⟨h2, q1, q2⟩ := hc v h' nx' hnx (fun m b hm => (hlv m (hrel.lt m b hm)).1) hR
  exact ⟨K', v.loose, cv, h2, nx', rfl, he, hle, hvr.loose, hrel.weaken q1, hlv, hnx, q2⟩
theorem pure_of_loose {P : Program} {f : FuncId} {args : List V} {h : Hp} {v : V} (hv : ∀ L, v.names L) (hc : ∀ h' nx, h.has h' → ACalls P f args h' nx fun v' h'' _ => v'.loose = v ∧ h'.le h'') : Pure P f args h v :=
  pure_of hv fun h' nx hh => (hc h' nx hh).conv fun v' h'' nx' _ _ hq => ⟨h', hq.2, hq.1, rfl⟩

/-- An owned array becomes a list with a token. -/
theorem ACalls.freezeA {P : Program} {f : FuncId} {args : List V} {h : Hp} {nx : Nat} {k : Sh} {G : List V → Prop}
    (c : ACalls P f args h nx fun v h' _ => ∃ es, G es ∧ FreshA nx h k es v h') : ACalls P f args h nx fun v h' _ => ∃ es, G es ∧ FreshL nx h k es v h' := by
  refine ⟨c.1, fun K cargs hl hr hv => (c.2 K cargs hl hr hv).mono ?_⟩
  rintro e w' ⟨K', v, cv, h', nx', rfl, he, hle, hvr, hrel, hlv, hnx, es, hG, (⟨rfl, rfl, rfl⟩ | ⟨hne, n, hn, rfl, rfl⟩)⟩
  · exact ⟨K', _, cv, _, nx', rfl, he, hle, hvr, hrel, hlv, hnx, [], hG, .inl ⟨rfl, rfl, rfl⟩⟩
  have hfr : ¬ K'.live nx' := fun hh => Nat.lt_irrefl _ (hlv nx' hh).1
  have hset : (h.set n (.arr k es)) n = some (.arr k es) := by simp [Hp.set]
  obtain ⟨K'', q1, q2, q3, q4, q5⟩ := freeze hrel hset hfr hvr
  have hdom : h n = none := by
    cases hd : h n with
    | none => rfl
    | some b => exact absurd (hl n (hr.lt n b hd)) (by omega)
  have hh : ((h.set n (.arr k es)).del n).set nx' .tip = h.set nx' .tip := by
    funext x
    unfold Hp.set Hp.del
    by_cases e1 : x = nx'
    · simp [e1]
    · by_cases e2 : x = n
      · subst e2; simp [e1, hdom]
      · simp [e1, e2]
  rw [hh] at q5
  refine ⟨K'', _, cv, _, nx' + 1, q1, he, hle.trans q2, q4, q5, fun m hm => ?_, by omega, es, hG, .inr ⟨hne, nx', hnx, rfl, rfl⟩⟩
  rcases q3 m hm with hm | rfl
  · exact ⟨by have := (hlv m hm).1; omega, (hlv m hm).2⟩
  · exact ⟨by omega, .inr hnx⟩

/-! ### Sorting -/
/-- Sorted, by a comparison that parts whatever two that are not one. -/
def sortOf {α : Type} (cf : α → α → Int) (l : List α) : List α := l.mergeSort fun x y => !(ltOf cf y x)
theorem sortOf_perm {α : Type} (cf : α → α → Int) (l : List α) : (sortOf cf l).Perm l := List.mergeSort_perm _ _
theorem sorted_unique {α : Type} {cf : α → α → Int} (hT : ∀ x y, ltOf cf x y = false → ltOf cf y x = false → x = y) : ∀ (a b : List α), a.Perm b → SortedBy cf a → SortedBy cf b → a = b := by
  intro a b hp ha hb
  exact List.Perm.eq_of_pairwise (le := fun x y => ltOf cf y x = false) (fun x y _ _ h1 h2 => hT x y h2 h1) ha hb hp
theorem sortOf_sorted {α : Type} {cf : α → α → Int} (hO : SWO (ltOf cf)) (l : List α) : SortedBy cf (sortOf cf l) := by
  have := List.pairwise_mergeSort (le := fun x y => !(ltOf cf y x)) (fun x y z h1 h2 => by
    simp only [Bool.not_eq_true'] at h1 h2 ⊢
    exact hO.ntrans z y x h2 h1) (fun x y => by
    cases h1 : ltOf cf y x with
    | false => rfl
    | true =>
      cases h2 : ltOf cf x y with
      | false => rfl
      | true => have := hO.trans x y x h2 h1; rw [hO.irrefl] at this; cases this) l
  unfold SortedBy sortOf
  exact this.imp fun {x y} h => by simpa using h

theorem sortFunc_none {P : Program} {ρ : Ren} (L : SlLaysF0.n6 P ρ) (hen : enterable P (ρ.f 6) = true) (k : Sh) (fv : V) (h : Hp) (nx : Nat) : ACalls P (ρ.f 6) [.sl k .nil [], fv] h nx fun v h' nx' => v = .tup [] ∧ h' = h := by
  refine ⟨hen, fun K cargs hlv hr hv => ?_⟩
  obtain ⟨hsz, hv⟩ := hv
  have hsz : cargs.size = 2 := by simpa using hsz.symm
  obtain ⟨c1, c2, rfl⟩ : ∃ c1 c2, cargs = #[c1, c2] := ⟨cargs[0], cargs[1], by
    apply Array.ext
    · simp [hsz]
    · intro i h1 h2
      have : i = 0 ∨ i = 1 := by simp at h2; omega
      rcases this with rfl | rfl <;> rfl⟩
  have v1 : VR K (.sl k .nil []) c1 := hv 0 (by simp)
  cases v1 with
  | sl _ _ _ b off cap f hb hfit hcell hst hv hcap hnil hfull htok => exact absurd rfl hnil
  | slnil =>
    refine (AnyF.slices_SortFunc_none L none 0 c2 K.w).mono ?_
    rintro e w' ⟨rfl, rfl⟩
    exact ⟨K, .tup [], .tuple #[], h, nx, rfl, rfl, .refl K, .tup [] #[] rfl (fun i hi => absurd hi (by simp)), hr, fun n hn => ⟨hlv n hn, .inl hn⟩, Nat.le_refl _, rfl, rfl⟩

section
variable {P : Program} {α : Type} (e : α → V)

/-- slices.SortedFunc at structs. -/
theorem sortedFunc_calls {ρ : Ren} (L : SlLaysF0.n6 P ρ) {n : Nat} (hfit : ∀ x, (e x).fits (.agg n) = true) (aE : ∀ w, (isAgg (ρ.t 24)).run P w = .ok true w) (zE : ∀ w, (Go.sizeOf (ρ.t 24)).run P w = .ok n w) (hen : enterable P (ρ.f 6) = true)
    {f f0 f1 f2 bs : Nat} {z : V} (hL : lowerFn P f = some (LB.SortedFunc (.agg n) f0 f1)) (hL0 : lowerFn P f0 = some (LB.Collect (.agg n) f2)) (hL2 : lowerFn P f2 = some (LB.AppendSeq (.agg n) z bs)) (hz : z.fits (.agg n) = true) (hbs : bs ≤ 140737) (hf1 : f1 = ρ.f 6)
    (g : Nat) (caps : List V) (hb : Hp) (xs : List α) (hit : Iter P g caps hb (xs.map fun x => [e x])) (hl : xs.length ≤ 100000000)
    (cf : α → α → Int) (hO : SWO (ltOf cf)) (gc : Nat) (capc : List V) (hcmp : ∀ x y, Pure P gc ([e x, e y] ++ capc) Hp.none (.int .i64 (cf x y))) (h' : Hp) (nx : Nat) (hh : hb.has h') :
    ACalls P f [.fn (.func g) [] caps, .fn (.func gc) [] capc] h' nx fun v h'' _ => ∃ es, (∃ ys : List α, ys.Perm xs ∧ SortedBy cf ys ∧ es = ys.map e) ∧ FreshA nx h' (.agg n) es v h'' := by
  refine acalls_walk hL fun hd => ?_
  simp only [List.length_cons, List.length_nil, Nat.reduceAdd, Nat.reduceSub, List.replicate_succ, List.replicate_zero, List.cons_append, List.nil_append, V.undef]
  repeat (first | with_reducible refine lwp_seq ?_ | with_reducible refine lwp_block ?_ | with_reducible refine lwp_skip ?_ | with_reducible refine seqQ_normal ?_ | with_reducible refine blockQ_normal ?_ | with_reducible refine lwp_ops ?_ | (refine lops_go1 rfl (by simp only [ go_sem, reduceIte, Nat.reduceAdd, Nat.reduceSub, Nat.reduceLT, Nat.reduceLeDiff, reduceCtorEq, Nat.reduceEqDiff, Int.reduceToNat]; try omega) ?_; simp only [ go_sem, reduceIte, Nat.reduceAdd, Nat.reduceSub, Nat.reduceLT, Nat.reduceLeDiff, reduceCtorEq, Nat.reduceEqDiff, Int.reduceToNat]) | (with_reducible refine lops_done ?_))
  refine lops_call ((collect_lib e hfit hL0 hL2 hz hbs g caps hb xs hit hl _ _ hh).mono ?_)
  intro v h'' nx' hnx hv
  unfold callQ
  rcases hv with ⟨rfl, rfl, rfl⟩ | ⟨hne, id, hid, rfl, rfl⟩
  · simp only [go_sem, reduceIte, Nat.reduceAdd, Nat.reduceSub, Nat.reduceLT, Nat.reduceLeDiff, reduceCtorEq, Nat.reduceEqDiff, Int.reduceToNat]
    repeat (first | with_reducible refine lwp_seq ?_ | with_reducible refine lwp_block ?_ | with_reducible refine lwp_skip ?_ | with_reducible refine seqQ_normal ?_ | with_reducible refine blockQ_normal ?_ | with_reducible refine lwp_ops ?_ | (refine lops_go1 rfl (by simp only [ go_sem, reduceIte, Nat.reduceAdd, Nat.reduceSub, Nat.reduceLT, Nat.reduceLeDiff, reduceCtorEq, Nat.reduceEqDiff, Int.reduceToNat]; try omega) ?_; simp only [ go_sem, reduceIte, Nat.reduceAdd, Nat.reduceSub, Nat.reduceLT, Nat.reduceLeDiff, reduceCtorEq, Nat.reduceEqDiff, Int.reduceToNat]) | (with_reducible refine lops_done ?_))
    refine lops_call ?_
    subst hf1
    refine (sortFunc_none L hen (.agg n) _ _ _).mono ?_
    rintro v h'' nx'' _ ⟨rfl, rfl⟩
    unfold callQ
    simp only [go_sem, reduceIte, Nat.reduceAdd, Nat.reduceSub, Nat.reduceLT, Nat.reduceLeDiff, reduceCtorEq, Nat.reduceEqDiff, Int.reduceToNat]
    repeat (first | with_reducible refine lwp_seq ?_ | with_reducible refine lwp_block ?_ | with_reducible refine lwp_skip ?_ | with_reducible refine seqQ_normal ?_ | with_reducible refine blockQ_normal ?_ | with_reducible refine lwp_ops ?_ | (refine lops_go1 rfl (by simp only [ go_sem, reduceIte, Nat.reduceAdd, Nat.reduceSub, Nat.reduceLT, Nat.reduceLeDiff, reduceCtorEq, Nat.reduceEqDiff, Int.reduceToNat]; try omega) ?_; simp only [ go_sem, reduceIte, Nat.reduceAdd, Nat.reduceSub, Nat.reduceLT, Nat.reduceLeDiff, reduceCtorEq, Nat.reduceEqDiff, Int.reduceToNat]) | (with_reducible refine lops_done ?_))
    exact lwp_ret (ret_slot h'' (Hp.le_refl _) ⟨[], ⟨[], List.Perm.refl _, List.Pairwise.nil, rfl⟩, .inl ⟨rfl, rfl, rfl⟩⟩)
  · simp only [go_sem, reduceIte, Nat.reduceAdd, Nat.reduceSub, Nat.reduceLT, Nat.reduceLeDiff, reduceCtorEq, Nat.reduceEqDiff, Int.reduceToNat]
    repeat (first | with_reducible refine lwp_seq ?_ | with_reducible refine lwp_block ?_ | with_reducible refine lwp_skip ?_ | with_reducible refine seqQ_normal ?_ | with_reducible refine blockQ_normal ?_ | with_reducible refine lwp_ops ?_ | (refine lops_go1 rfl (by simp only [ go_sem, reduceIte, Nat.reduceAdd, Nat.reduceSub, Nat.reduceLT, Nat.reduceLeDiff, reduceCtorEq, Nat.reduceEqDiff, Int.reduceToNat]; try omega) ?_; simp only [ go_sem, reduceIte, Nat.reduceAdd, Nat.reduceSub, Nat.reduceLT, Nat.reduceLeDiff, reduceCtorEq, Nat.reduceEqDiff, Int.reduceToNat]) | (with_reducible refine lops_done ?_))
    refine lops_call ?_
    subst hf1
    refine (sort_structs L n aE zE hen e hfit cf hO gc capc hcmp id xs hne _ _ (by simp [Hp.set]) (by omega)).mono ?_
    rintro v h'' nx'' _ ⟨rfl, rfl, ys, hp, hs, rfl⟩
    unfold callQ
    simp only [go_sem, reduceIte, Nat.reduceAdd, Nat.reduceSub, Nat.reduceLT, Nat.reduceLeDiff, reduceCtorEq, Nat.reduceEqDiff, Int.reduceToNat]
    repeat (first | with_reducible refine lwp_seq ?_ | with_reducible refine lwp_block ?_ | with_reducible refine lwp_skip ?_ | with_reducible refine seqQ_normal ?_ | with_reducible refine blockQ_normal ?_ | with_reducible refine lwp_ops ?_ | (refine lops_go1 rfl (by simp only [ go_sem, reduceIte, Nat.reduceAdd, Nat.reduceSub, Nat.reduceLT, Nat.reduceLeDiff, reduceCtorEq, Nat.reduceEqDiff, Int.reduceToNat]; try omega) ?_; simp only [ go_sem, reduceIte, Nat.reduceAdd, Nat.reduceSub, Nat.reduceLT, Nat.reduceLeDiff, reduceCtorEq, Nat.reduceEqDiff, Int.reduceToNat]) | (with_reducible refine lops_done ?_))
    have hlen : ys.length = xs.length := hp.length_eq
    refine lwp_ret (ret_slot _ (Hp.le_refl _) ⟨ys.map e, ⟨ys, hp, hs, rfl⟩, .inr ⟨?_, id, hid, ?_, ?_⟩⟩)
    · intro hys
      have : ys = [] := by simpa using hys
      subst this
      exact hne (List.length_eq_zero_iff.1 (by simpa using hlen.symm))
    · simp only [List.length_map, hlen, go_sem, reduceIte, Nat.reduceAdd, Nat.reduceSub, Nat.reduceLT, Nat.reduceLeDiff, reduceCtorEq, Nat.reduceEqDiff, Int.reduceToNat]
    · funext m; simp only [Hp.set_app]; split <;> rfl

/-- The same, where the comparison parts whatever two that are not one. -/
theorem sortedFunc_pure {ρ : Ren} (L : SlLaysF0.n6 P ρ) {n : Nat} (hfit : ∀ x, (e x).fits (.agg n) = true) (hnm : ∀ x L, (e x).names L) (aE : ∀ w, (isAgg (ρ.t 24)).run P w = .ok true w) (zE : ∀ w, (Go.sizeOf (ρ.t 24)).run P w = .ok n w) (hen : enterable P (ρ.f 6) = true)
    {f f0 f1 f2 bs : Nat} {z : V} (hL : lowerFn P f = some (LB.SortedFunc (.agg n) f0 f1)) (hL0 : lowerFn P f0 = some (LB.Collect (.agg n) f2)) (hL2 : lowerFn P f2 = some (LB.AppendSeq (.agg n) z bs)) (hz : z.fits (.agg n) = true) (hbs : bs ≤ 140737) (hf1 : f1 = ρ.f 6)
    (g : Nat) (caps : List V) (hb : Hp) (xs : List α) (hit : Iter P g caps hb (xs.map fun x => [e x])) (hl : xs.length ≤ 100000000)
    (cf : α → α → Int) (hO : SWO (ltOf cf)) (hT : ∀ x y, ltOf cf x y = false → ltOf cf y x = false → x = y) (gc : Nat) (capc : List V) (hcmp : ∀ x y, Pure P gc ([e x, e y] ++ capc) Hp.none (.int .i64 (cf x y))) :
    Pure P f [.fn (.func g) [] caps, .fn (.func gc) [] capc] hb (lst (.agg n) ((sortOf cf xs).map e)) := by
  refine pure_of_loose (fun L => lst_names (fun L => namesL_map (fun x => hnm x L) _) L) fun h' nx hh => ?_
  have c := (sortedFunc_calls e L hfit aE zE hen hL hL0 hL2 hz hbs hf1 g caps hb xs hit hl cf hO gc capc hcmp h' nx hh).freezeA
  refine ⟨c.1, fun K cargs hlv hr hv => ((c.mono (R' := fun v' h'' _ => v'.loose = lst (.agg n) ((sortOf cf xs).map e) ∧ h'.le h'') ?_).2 K cargs hlv hr hv)⟩
  rintro v h'' nx' hnx ⟨es, ⟨ys, hp, hs, rfl⟩, hf⟩
  have hy : ys = sortOf cf xs := sorted_unique hT _ _ (hp.trans (sortOf_perm cf xs).symm) hs (sortOf_sorted hO xs)
  subst hy
  exact ⟨hf.loose, hf.le (fun m b hm => hlv m (hr.lt m b hm))⟩
end

end Go.Proofs.Ythcedfamidlbdaa
