/-
Texts of this proof, one behind the other. No conditions.
-/
import Derived.Test.YtmpmngakheoacaaKe
import Derived.Test.YtmpmngakheoacaaKg
import Derived.Test.YtmpmngakheoacaaKdb
/-
Contracts of package path, last part: from as a value, Least, All. No conditions.
-/
namespace Go.Proofs.Ytmpmngakheoacaa
open Go.Proofs.Ytmpmngakheoacaa renaming lops_id → uA, lops_go2 → uB, lops_guardT → uC, lops_guardF → uD, lops_guard_no → uE, dops_id → uF, dops_go1 → uG, dops_guardT → uH, dops_guardF → uI, dops_guard_no → uJ, dops_nil → uK, drawQ_nil → uL, drawQ_tl → uM, cond_id → uN, lwp_condB → uO, blockQ_other → uP, condG_s → uQ, draw_id → uR, lwp_draw → uS
open Nat renaming reduceAdd → jA, reduceSub → jB, reduceLT → jC, reduceLeDiff → jD, reduceEqDiff → jE
open Int renaming reduceToNat → jF, toNat_natCast → jG, natCast_add → jH, natCast_one → jI, natCast_zero → jJ
open List renaming length_map → jK, length_cons → jL, length_nil → jM, replicate_succ → jN, replicate_zero → jO, cons_append → jP, nil_append → jQ
set_option linter.unusedSimpArgs false
set_option linter.unusedVariables false
set_option linter.unusedSectionVars false
open Go.RowKit Go.Sort
attribute [local irreducible] IntKind.wrap
attribute [local go_sem] Option.some.injEq Prod.mk.injEq false_and and_false Bool.true_eq_false dRun dRest dbare dMerge nones if_true Bool.true_and dgoC dgoCRest fillV okAll nextAll LOper.ok LOper.next LOp.ok LOp.next LVal.ok LVal.out LArg.ev putV binOK pick_true pick_false pick_bool V.undef Sh.size addHp dokAll dnextAll LOper.dok LOper.dres LOp.dok LOp.dout dput conOK veqL leafEq List.take_succ_cons List.take_zero List.take_nil List.drop_succ_cons List.drop_zero List.drop_nil List.set_cons_succ List.set_cons_zero List.getD_cons_succ List.getD_cons_zero jL jM List.map_cons List.map_nil List.all_cons List.all_nil List.mem_cons List.not_mem_nil jN jO jP jQ List.append_nil List.isEmpty_cons List.isEmpty_nil appOwn appHp appOK Option.getD_some Option.isSome_some Option.isSome_none Nat.add_eq Nat.zero_add Nat.add_zero true_and and_true and_self true_implies implies_true false_implies forall_const forall_eq forall_eq_or_imp ne_eq not_false_eq_true not_true_eq_false Bool.not_true Bool.not_false decide_true decide_false Bool.and_true Bool.true_and Bool.and_false Bool.false_and true_or or_true false_or or_false eq_self Bool.false_eq_true nxNe nxNe' tupOf mkFrom bval ogive cutOwn cutE_nil cutE_full cutE_tok cutE_free_nil cutE_free_cons selems jG Int.toNat_zero List.take_length Hp.set_app Hp.del_app goOps goRest LOper.plain LOp.isCall LOper.dplain LOp.isStop lops_nil gRun gRest bare gMerge V.gd_true V.gd_false pick_gd pick_gdn pick_and pick_or partOK_self loadPart_self storePart_self dgoOps dgoRest beq_true beq_false partOK_ll partOK_al partOK_aa loadPart_l loadPart_a storePart_la storePart_aa fits_leaf fits_agg leafy_bool leafy_int leafy_str leafy_nilPtr leafy_ptr leafy_ept leafy_sl leafy_rs leafy_nilMap leafy_map leafy_nilChan leafy_chan leafy_fn leafy_nilFn leafy_yld leafy_iface leafy_nilIface veq_aa veq_li veq_lb veq_ls cells_agg cells_leaf cell_agg cell_leaf veq_ptr1 veq_ptr2 veq_ptr3 veq_ptr4 veq_ptr5 veq_slice1 veq_slice2 veq_func1 veq_func2 veq_func3 veq_iface1 veq_iface2 veq_iface3 veq_map1 veq_map2 veq_map3 veq_chan1 veq_chan2 veq_chan3 conAt_add conAt_zero untaken wrHp Hp.turn delHp Option.isNone_some Option.isNone_none nxFq goOps2 goRest2 LOper.plain2 LOp.isApp ltNe ltNe1 ltNe' ltNe1' delO_nil delO_tok
noncomputable def fromV (n : Nat) (l : List We) (a : Nat) : V := .sl .leaf .free ((fromL n l a).map fun m => lst (.agg 2) (m.map Pa.v))
theorem fromL_len (n : Nat) (l : List We) (a : Nat) : (fromL n l a).length = n := by simp [fromL]
theorem from_pure (ow : Own) (n : Nat) (l : List We) (a : Nat) (hfit : FitW n l) (ha : a < n) (hn : n ≤ 200) (hl : l.length ≤ 1000) (h : Hp) :
    Pure Try.prog 38 [.agg [.int .i64 n, wes ow l], .int .i64 a] h (fromV n l a) := by
  refine pure_of (fun L => ?_) fun h' nx hh => (acalls_freeze_rows (G := fun ls => ls = (fromL n l a).map (List.map Pa.v)) (from_walk ow n l a hfit ha hn hl h' nx)).mono ?_
  · unfold fromV
    simp only [V.names, true_and, and_true]
    refine ⟨fun n e => (by cases e), ?_⟩
    exact namesL_map (f := fun m : List Pa => lst (.agg 2) (m.map Pa.v)) (fun m => lst_names (fun L => namesL_map (Pa.names_v L) m) L) _
  rintro v h'' nx2 hnx ⟨ls, rfl, rfl, rfl⟩
  refine ⟨?_, rfl⟩
  simp only [fromV, List.map_map]
  rfl

theorem least_pure (o : Own) {P : Int} {ws : List Wy} {n : Nat} {l : List We} (R : RightM P ws n l) (hl : ws.length ≤ 1000) (a b : Int) (h : Hp) :
    Pure Try.prog 16 [mps o P ws, .int .i64 a, .int .i64 b] h (if 0 ≤ a ∧ a < n ∧ 0 ≤ b ∧ b < n then lst (.agg 2) ((leastL l a.toNat b.toNat).map Pa.v) else .sl (.agg 2) .nil []) := by
  have hr : rightM P ws = true := (rightM_iff P ws).2 ⟨n, l, R⟩
  have hP := R.pl
  have hn := R.le
  have hmf : (mps o P ws).fits (.agg 2) = true := by simp [mps, V.fits, V.leafy, wys]
  have hcell : (mps o P ws).cell 0 = .int .i64 P := rfl
  have hlw : l.length ≤ 1000 := by have := R.eq; rw [this] at hl; simpa using hl
  refine pure_of (fun L => ?_) fun h' nx hh => acalls_walk L.path_Least_low fun hd => ?_
  · split
    · exact lst_names (fun L => namesL_map (Pa.names_v L) _) L
    simp [V.names, namesL]
  simp only [jL, jM, jA, jB, jN, jO, jP, jQ, V.undef]
  have out : ∀ (hn' : ¬ (0 ≤ a ∧ a < n ∧ 0 ≤ b ∧ b < n)) (sl : List V) (nx2 : Nat), sl.getD 6 V.undef = .sl (.agg 2) .nil [] → postR [LRes.slot 6] (fun v' h'' x => (v' = if 0 ≤ a ∧ a < n ∧ 0 ≤ b ∧ b < n then lst (.agg 2) ((leastL l a.toNat b.toNat).map Pa.v) else .sl (.agg 2) .nil []) ∧ h'' = h') LExit.ret ⟨sl, h'.set nx (.arr (.agg 2) [mps o P ws]), nx2⟩ := fun hn' sl nx2 e => by
    refine ret_slot h' (by repeat (first | exact Hp.le_refl _ | refine le_of_fresh hd ?_ (by omega) _ | refine le_of_freshd hd ?_ (by omega))) ⟨by rw [if_neg hn']; exact e, rfl⟩
  subst hP
  by_cases h1 : a < 0
  · (repeat' (first | (with_reducible first | refine stp ?_ | refine uP (by decide) ?_ | refine uQ (fun _ => ?_) (fun _ => ?_)) | ((first | (with_reducible refine uA ?_; first | refine uB rfl ?_ ?_ | refine lops_pure (rightMap_pure o n ws hl _) rfl (has_refl _) ?_ | (first | refine uC rfl ?_ | refine uD rfl ?_) | refine uE rfl ?_) | (with_reducible refine uF ?_; first | refine uG rfl ?_ ?_  | (first | refine uH rfl ?_ | refine uI rfl ?_) | refine uJ rfl ?_ | refine uK (uL ?_) | refine uK (uM ?_)) | (with_reducible refine uN ?_; refine uO rfl ?_)) <;> try simp only [hmf, hcell, hr, h1, decide_true, decide_false, go_sem, reduceIte, jA, jB, jC, jD, reduceCtorEq, jE, jF]) | (with_reducible refine uR ?_; refine uS rfl ?_) | omega))
    exact out (by omega) _ _ rfl
  by_cases h2 : a ≥ n
  · (repeat' (first | (with_reducible first | refine stp ?_ | refine uP (by decide) ?_ | refine uQ (fun _ => ?_) (fun _ => ?_)) | ((first | (with_reducible refine uA ?_; first | refine uB rfl ?_ ?_ | refine lops_pure (rightMap_pure o n ws hl _) rfl (has_refl _) ?_ | (first | refine uC rfl ?_ | refine uD rfl ?_) | refine uE rfl ?_) | (with_reducible refine uF ?_; first | refine uG rfl ?_ ?_  | (first | refine uH rfl ?_ | refine uI rfl ?_) | refine uJ rfl ?_ | refine uK (uL ?_) | refine uK (uM ?_)) | (with_reducible refine uN ?_; refine uO rfl ?_)) <;> try simp only [hmf, hcell, hr, h1, h2, decide_true, decide_false, go_sem, reduceIte, jA, jB, jC, jD, reduceCtorEq, jE, jF]) | (with_reducible refine uR ?_; refine uS rfl ?_) | omega))
    exact out (by omega) _ _ rfl
  by_cases h3 : b < 0
  · (repeat' (first | (with_reducible first | refine stp ?_ | refine uP (by decide) ?_ | refine uQ (fun _ => ?_) (fun _ => ?_)) | ((first | (with_reducible refine uA ?_; first | refine uB rfl ?_ ?_ | refine lops_pure (rightMap_pure o n ws hl _) rfl (has_refl _) ?_ | (first | refine uC rfl ?_ | refine uD rfl ?_) | refine uE rfl ?_) | (with_reducible refine uF ?_; first | refine uG rfl ?_ ?_  | (first | refine uH rfl ?_ | refine uI rfl ?_) | refine uJ rfl ?_ | refine uK (uL ?_) | refine uK (uM ?_)) | (with_reducible refine uN ?_; refine uO rfl ?_)) <;> try simp only [hmf, hcell, hr, h1, h2, h3, decide_true, decide_false, go_sem, reduceIte, jA, jB, jC, jD, reduceCtorEq, jE, jF]) | (with_reducible refine uR ?_; refine uS rfl ?_) | omega))
    exact out (by omega) _ _ rfl
  by_cases h4 : b ≥ n
  · (repeat' (first | (with_reducible first | refine stp ?_ | refine uP (by decide) ?_ | refine uQ (fun _ => ?_) (fun _ => ?_)) | ((first | (with_reducible refine uA ?_; first | refine uB rfl ?_ ?_ | refine lops_pure (rightMap_pure o n ws hl _) rfl (has_refl _) ?_ | (first | refine uC rfl ?_ | refine uD rfl ?_) | refine uE rfl ?_) | (with_reducible refine uF ?_; first | refine uG rfl ?_ ?_  | (first | refine uH rfl ?_ | refine uI rfl ?_) | refine uJ rfl ?_ | refine uK (uL ?_) | refine uK (uM ?_)) | (with_reducible refine uN ?_; refine uO rfl ?_)) <;> try simp only [hmf, hcell, hr, h1, h2, h3, h4, decide_true, decide_false, go_sem, reduceIte, jA, jB, jC, jD, reduceCtorEq, jE, jF]) | (with_reducible refine uR ?_; refine uS rfl ?_) | omega))
    exact out (by omega) _ _ rfl
  obtain ⟨a', rfl⟩ : ∃ a' : Nat, a = a' := ⟨a.toNat, by omega⟩
  obtain ⟨b', rfl⟩ : ∃ b' : Nat, b = b' := ⟨b.toNat, by omega⟩
  have hm : mps o n ws = .agg [.int .i64 n, wes o l] := by rw [R.eq]; simp only [mps, wys, wes, List.map_map]; rfl
  have hf : ∀ h, Pure Try.prog 38 [mps o n ws, .int .i64 a'] h (fromV n l a') := fun h => by rw [hm]; exact from_pure o n l a' R.fit (by omega) hn hlw h
  have hbn : b' < (fromL n l a').length := by rw [fromL_len]; omega
  have hgd : ((fromL n l a').map fun m : List Pa => lst (.agg 2) (m.map Pa.v)).getD b' (.tup []) = lst (.agg 2) ((leastL l a' b').map Pa.v) := by
    rw [getD_map' _ _ _ hbn]; simp [fromL]
  have hll : (lst (.agg 2) ((leastL l a' b').map Pa.v)).leafy = true := by unfold lst; split <;> rfl
  have hb' : ((b' : Int) < (n : Int)) = True := eq_true (by omega)
  have hb0 : ((0 : Int) ≤ (b' : Int)) = True := eq_true (by omega)
  (repeat' (first | (with_reducible first | refine stp ?_ | refine uP (by decide) ?_ | refine uQ (fun _ => ?_) (fun _ => ?_)) | ((first | (with_reducible refine uA ?_; first | refine uB rfl ?_ ?_ | refine lops_pure (rightMap_pure o n ws hl _) rfl (has_refl _) ?_ | refine lops_pure (hf _) rfl (has_refl _) ?_ | (first | refine uC rfl ?_ | refine uD rfl ?_) | refine uE rfl ?_) | (with_reducible refine uF ?_; first | refine uG rfl ?_ ?_  | (first | refine uH rfl ?_ | refine uI rfl ?_) | refine uJ rfl ?_ | refine uK (uL ?_) | refine uK (uM ?_)) | (with_reducible refine uN ?_; refine uO rfl ?_)) <;> try simp only [hmf, hcell, hr, h1, h2, h3, h4, fromV, hgd, hll, hb', hb0, jK, fromL_len, and_self, decide_true, decide_false, go_sem, reduceIte, jA, jB, jC, jD, reduceCtorEq, jE, jF]) | (with_reducible refine uR ?_; refine uS rfl ?_) | omega))
  refine ret_slot h' (by repeat (first | exact Hp.le_refl _ | refine le_of_fresh hd ?_ (by omega) _ | refine le_of_freshd hd ?_ (by omega))) ⟨?_, rfl⟩
  rw [if_pos (by omega)]
  simp only [jG, go_sem, reduceIte, jA, jB, jC, jD, reduceCtorEq, jE, jF]
end Go.Proofs.Ytmpmngakheoacaa
/-
Least paths: they are there; one behind the other; with more ways none is farther. Plain laws. No conditions.
-/
namespace Go.Proofs.Ytmpmngakheoacaa
set_option linter.unusedSimpArgs false
set_option linter.unusedVariables false
set_option linter.unusedSectionVars false
open Go.RowKit Go.Sort
theorem min_ex (S : Nat → Prop) : ∀ n, S n → ∃ m, S m ∧ ∀ k, S k → m ≤ k := by
  intro n
  induction n using Nat.strongRecOn with
  | ind n ih =>
    intro hn
    by_cases h : ∃ k, k < n ∧ S k
    · obtain ⟨k, h1, h2⟩ := h
      exact ih k h1 h2
    exact ⟨n, hn, fun k hk => Nat.le_of_not_lt fun hlt => h ⟨k, hlt, hk⟩⟩
theorem least_side (ws : List We) (a k : Nat) (b : Bool) : (∀ p, Val ws a k p → p.n ≠ b) ∨ ∃ q, Val ws a k q ∧ q.n = b ∧ ∀ p, Val ws a k p → p.n = b → q.a ≤ p.a := by
  by_cases h : ∃ p, Val ws a k p ∧ p.n = b
  · obtain ⟨p, h1, h2⟩ := h
    obtain ⟨m, ⟨q, hq1, hq2, hq3⟩, hm⟩ := min_ex (fun m => ∃ q, Val ws a k q ∧ q.n = b ∧ q.a.toNat = m) _ ⟨p, h1, h2, rfl⟩
    refine .inr ⟨q, hq1, hq2, fun r hr hrb => ?_⟩
    have := hm _ ⟨r, hr, hrb, rfl⟩
    have o1 := hr.ok
    have o2 := hq1.ok
    simp only [Pa.ok, Bool.and_eq_true, decide_eq_true_eq] at o1 o2
    omega
  exact .inl fun p hp e => h ⟨p, hp, e⟩
theorem le_of_same {p q : Pa} (h : p.n = q.n) (h2 : p.a ≤ q.a) : p.le q = true := by
  obtain ⟨n, a⟩ := p; obtain ⟨m, b⟩ := q
  simp only at h h2
  subst h
  cases n <;> simp [Pa.le, h2]
theorem least_ex (ws : List We) (a k : Nat) : ∃ m, LeastOf ws a k m := by
  rcases least_side ws a k false with hF | ⟨f, f1, f2, f3⟩
  · rcases least_side ws a k true with hT | ⟨t, t1, t2, t3⟩
    · refine ⟨[], List.Pairwise.nil, (fun p hp => by cases hp), fun p hp => ?_⟩
      cases e : p.n with
      | false => exact absurd e (hF p hp)
      | true => exact absurd e (hT p hp)
    refine ⟨[t], by simp [Can], (fun p hp => by simp at hp; subst hp; exact t1), fun p hp => ⟨t, by simp, ?_⟩⟩
    cases e : p.n with
    | false => exact absurd e (hF p hp)
    | true => exact le_of_same (t2.trans e.symm) (t3 p hp e)
  rcases least_side ws a k true with hT | ⟨t, t1, t2, t3⟩
  · refine ⟨[f], by simp [Can], (fun p hp => by simp at hp; subst hp; exact f1), fun p hp => ⟨f, by simp, ?_⟩⟩
    cases e : p.n with
    | true => exact absurd e (hT p hp)
    | false => exact le_of_same (f2.trans e.symm) (f3 p hp e)
  by_cases h : t.a ≤ f.a
  · refine ⟨[t], by simp [Can], (fun p hp => by simp at hp; subst hp; exact t1), fun p hp => ⟨t, by simp, ?_⟩⟩
    cases e : p.n with
    | true => exact le_of_same (t2.trans e.symm) (t3 p hp e)
    | false =>
      have := f3 p hp e
      simp [Pa.le, t2, e]
      omega
  refine ⟨[f, t], by simp [Can, f2, t2]; omega, (fun p hp => by simp at hp; rcases hp with rfl | rfl <;> assumption), fun p hp => ?_⟩
  cases e : p.n with
  | true => exact ⟨t, by simp, le_of_same (t2.trans e.symm) (t3 p hp e)⟩
  | false => exact ⟨f, by simp, le_of_same (f2.trans e.symm) (f3 p hp e)⟩
theorem leastL_spec (ws : List We) (a k : Nat) : LeastOf ws a k (leastL ws a k) := by
  obtain ⟨m, hm⟩ := least_ex ws a k
  rw [leastL_eq hm]
  exact hm

def Pa.cat (p q : Pa) : Pa := if q.n = true then q else ⟨p.n, p.a + q.a⟩
theorem Pa.cat_assoc (p q r : Pa) : (p.cat q).cat r = p.cat (q.cat r) := by
  obtain ⟨n, a⟩ := p; obtain ⟨m, b⟩ := q; obtain ⟨o, c⟩ := r
  cases m <;> cases o <;> simp [Pa.cat, Int.add_assoc]
theorem Pa.cat_mono {p p' : Pa} (q : Pa) (h : p.le p' = true) : (p.cat q).le (p'.cat q) = true := by
  obtain ⟨n, a⟩ := p; obtain ⟨m, b⟩ := p'; obtain ⟨o, c⟩ := q
  cases o
  · cases n <;> cases m <;> simp [Pa.cat, Pa.le] at h ⊢ <;> omega
  simp [Pa.cat, Pa.le]
theorem Pa.thn_cat {p q r : Pa} (h : p.thn q = some r) : r = p.cat q := by
  unfold Pa.thn at h
  unfold Pa.cat
  split at h
  · cases h
  split at h
  · rename_i e; injection h with h; rw [if_pos e, h]
  rename_i e
  split at h
  · cases h
  injection h with h; rw [if_neg e, h]
def urun : Pa → List We → Pa
  | p, [] => p
  | p, w :: l => urun (p.cat w.p) l
theorem urun_append : ∀ (l m : List We) (p : Pa), urun p (l ++ m) = urun (urun p l) m
  | [], _, _ => rfl
  | w :: l, m, p => urun_append l m _
theorem urun_mono : ∀ (l : List We) {p p' : Pa}, p.le p' = true → (urun p l).le (urun p' l) = true
  | [], _, _, h => h
  | w :: l, _, _, h => urun_mono l (Pa.cat_mono w.p h)
theorem nought_cat (q : Pa) : Pa.nought.cat q = q := by
  obtain ⟨o, c⟩ := q
  cases o <;> simp [Pa.cat, Pa.nought]
theorem urun_cat : ∀ (l : List We) (p : Pa), urun p l = p.cat (urun Pa.nought l)
  | [], p => by simp [urun, Pa.cat, Pa.nought]
  | w :: l, p => by
    show urun (p.cat w.p) l = p.cat (urun (Pa.nought.cat w.p) l)
    rw [nought_cat, urun_cat l (p.cat w.p), urun_cat l w.p, Pa.cat_assoc]
theorem run_urun : ∀ (l : List We) {p q : Pa}, run p l = some q → urun p l = q
  | [], p, q, h => by have h : some p = some q := h; injection h
  | w :: l, p, q, h => by
    have h : ((p.thn w.p).bind fun q => run q l) = some q := h
    cases e : p.thn w.p with
    | none => rw [e] at h; cases h
    | some r => rw [e] at h; have := run_urun l h; show urun (p.cat w.p) l = q; rw [← Pa.thn_cat e]; exact this
theorem urun_up : ∀ (l : List We) (p : Pa), (∀ w ∈ l, w.p.n = false ∧ 0 ≤ w.p.a) → p.le (urun p l) = true
  | [], p, _ => Pa.le_refl p
  | w :: l, p, h => by
    refine Pa.le_trans ?_ (urun_up l (p.cat w.p) fun v hv => h v (by simp [hv]))
    have := h w (by simp)
    obtain ⟨n, a⟩ := p
    cases n <;> simp [Pa.cat, Pa.le, this.1] <;> omega
def adds (l : List We) : Int := (l.map fun w => w.p.a).sum
theorem adds_cons (w : We) (l : List We) : adds (w :: l) = w.p.a + adds l := by simp [adds]
theorem adds_pos : ∀ {ws : List We}, (∀ w ∈ ws, 0 ≤ w.p.a) → 0 ≤ adds ws
  | [], _ => Int.le_refl _
  | v :: ws, h => by
    have h1 := h v (by simp)
    have h2 := adds_pos fun w hw => h w (List.mem_cons_of_mem v hw)
    rw [adds_cons]
    omega
theorem run_bound : ∀ (l : List We) (p : Pa), p.ok = true → (∀ w ∈ l, w.p.ok = true) → p.a + adds l ≤ 1048576 → run p l = some (urun p l)
  | [], p, _, _, _ => rfl
  | w :: l, p, hp, hw, hs => by
    have hwo := hw w (by simp)
    have hl0 : 0 ≤ adds l := adds_pos fun v hv => by
      have := hw v (by simp [hv])
      simp only [Pa.ok, Bool.and_eq_true, decide_eq_true_eq] at this
      exact this.1
    rw [adds_cons] at hs
    have hpo := hp
    have hwo' := hwo
    simp only [Pa.ok, Bool.and_eq_true, decide_eq_true_eq] at hpo hwo'
    have key : p.thn w.p = some (p.cat w.p) ∧ (p.cat w.p).ok = true ∧ (p.cat w.p).a + adds l ≤ 1048576 := by
      unfold Pa.thn Pa.cat
      rw [hp, hwo]
      by_cases e : w.p.n = true
      · rw [if_neg (by simp), if_pos e, if_pos e]
        exact ⟨rfl, hwo, by omega⟩
      have ho : Pa.ok ⟨p.n, p.a + w.p.a⟩ = true := by
        simp only [Pa.ok, Bool.and_eq_true, decide_eq_true_eq]; omega
      rw [if_neg (by simp), if_neg e, if_neg e, ho]
      exact ⟨by simp, rfl, by simp only; omega⟩
    show ((p.thn w.p).bind fun q => run q l) = some (urun (p.cat w.p) l)
    rw [key.1]
    exact run_bound l _ key.2.1 (fun v hv => hw v (by simp [hv])) key.2.2
theorem ring_cut {ws : List We} (ht : NoTurn ws) {a k : Nat} {l : List We} (h : Walk ws a l k) (hnd : ¬ (stops a l).Nodup) :
    ∃ x c y b, l = x ++ (c ++ y) ∧ Walk ws a x b ∧ Walk ws b y k ∧ c ≠ [] ∧ (∀ w ∈ c, w.p.n = false) ∧ ∀ w ∈ c, w ∈ ws := by
  have : ∃ i j, ∃ hi : i < (stops a l).length, ∃ hj : j < (stops a l).length, i < j ∧ (stops a l)[i] = (stops a l)[j] := by
    refine Classical.byContradiction fun hno => hnd (List.pairwise_iff_getElem.2 fun i j hi hj hij e => hno ⟨i, j, hi, hj, hij, e⟩)
  obtain ⟨i, j, hi, hj, hij, e⟩ := this
  have hjl : j ≤ l.length := by rw [stops_len] at hj; omega
  obtain ⟨a1, b1⟩ := stops_at h i hi
  obtain ⟨a2, b2⟩ := stops_at h j hj
  have el : l = l.take i ++ ((l.drop i).take (j - i) ++ l.drop j) := by
    have e1 : l.drop j = (l.drop i).drop (j - i) := by rw [List.drop_drop]; congr 1; omega
    rw [e1, List.take_append_drop, List.take_append_drop]
  have hc : Walk ws (stops a l)[i] ((l.drop i).take (j - i)) (stops a l)[i] := by
    have ej : l.take j = l.take i ++ (l.drop i).take (j - i) := by
      rw [← List.take_add]; congr 1; omega
    rw [ej] at a2
    obtain ⟨x, q1, q2⟩ := Walk.split a2
    have : x = (stops a l)[i] := by
      have uniq : ∀ {m : List We} {u v v' : Nat}, Walk ws u m v → Walk ws u m v' → v = v' := by
        intro m
        induction m with
        | nil => intro u v v' h h'; exact (show u = v from h).symm.trans h'
        | cons w m ih => intro u v v' h h'; exact ih h.2.2 h'.2.2
      exact uniq q1 a1
    rw [this, ← e] at q2
    exact q2
  have hnn : ∀ w ∈ (l.drop i).take (j - i), w.p.n = false ∧ w ∈ ws := by
    intro w hwm
    obtain ⟨u, v, huv⟩ := List.append_of_mem hwm
    rw [huv] at hc
    obtain ⟨x, q1, q2⟩ := Walk.split hc
    obtain ⟨h1, h2, h3⟩ := q2
    refine ⟨?_, h1⟩
    cases hn : w.p.n with
    | false => rfl
    | true =>
      refine absurd ?_ (ht w h1 hn)
      rcases (h3.append q1).plus with h | h
      · exact .inl (by rw [h, h2])
      exact .inr (by rw [h2]; exact h)
  refine ⟨_, _, _, _, el, a1, ?_, ?_, fun w hw => (hnn w hw).1, fun w hw => (hnn w hw).2⟩
  · rw [e]; exact b2
  intro hnil
  have := congrArg List.length hnil
  simp at this
  omega
theorem nodup_walk {ws : List We} {n : Nat} (hfit : FitW n ws) (ht : NoTurn ws) {a k : Nat} : ∀ (r : Nat) (l : List We), l.length ≤ r → Walk ws a l k → ∃ m, Walk ws a m k ∧ (stops a m).Nodup ∧ (urun Pa.nought m).le (urun Pa.nought l) = true := by
  intro r
  induction r with
  | zero =>
    intro l hl h
    have : l = [] := List.length_eq_zero_iff.1 (by omega)
    subst this
    exact ⟨[], h, by simp [stops], Pa.le_refl _⟩
  | succ r ih =>
    intro l hl h
    by_cases hnd : (stops a l).Nodup
    · exact ⟨l, h, hnd, Pa.le_refl _⟩
    obtain ⟨x, c, y, b, e, h1, h2, h3, h4, h5⟩ := ring_cut ht h hnd
    have hcl : 0 < c.length := List.length_pos_iff.2 h3
    obtain ⟨m, k1, k2, k3⟩ := ih (x ++ y) (by rw [e] at hl; simp at hl ⊢; omega) (h1.append h2)
    refine ⟨m, k1, k2, Pa.le_trans k3 ?_⟩
    rw [e, urun_append, urun_append, urun_append]
    refine urun_mono y (urun_up c _ fun w hw => ⟨h4 w hw, ?_⟩)
    have := (hfit w (h5 w hw)).2.2
    simp only [Pa.ok, Bool.and_eq_true, decide_eq_true_eq] at this
    exact this.1
theorem stops_eq {ws : List We} : ∀ {l : List We} {a k : Nat}, Walk ws a l k → stops a l = l.map (·.f) ++ [k]
  | [], a, k, h => by have h : a = k := h; subst h; rfl
  | w :: l, a, k, ⟨h1, h2, h3⟩ => by
    show a :: stops w.t l = w.f :: (l.map (·.f) ++ [k])
    rw [stops_eq h3, h2]
theorem walk_sub {ws : List We} : ∀ {l : List We} {a k : Nat}, Walk ws a l k → ∀ w ∈ l, w ∈ ws
  | [], _, _, _, w, hw => by cases hw
  | v :: l, _, _, ⟨h1, _, h3⟩, w, hw => by
    rcases List.mem_cons.1 hw with rfl | hw
    · exact h1
    exact walk_sub h3 w hw
theorem adds_erase : ∀ {ws : List We} {w : We}, w ∈ ws → adds ws = w.p.a + adds (ws.erase w)
  | v :: ws, w, h => by
    by_cases e : v = w
    · subst e; rw [adds_cons]; simp
    have hw : w ∈ ws := by
      rcases List.mem_cons.1 h with h | h
      · exact absurd h.symm e
      exact h
    rw [List.erase_cons_tail (by simpa using e), adds_cons, adds_cons, adds_erase hw]
    omega
theorem adds_sub : ∀ {m ws : List We}, m.Nodup → (∀ w ∈ m, w ∈ ws) → (∀ w ∈ ws, 0 ≤ w.p.a) → adds m ≤ adds ws
  | [], ws, _, _, h => adds_pos h
  | w :: m, ws, hn, hs, h => by
    obtain ⟨h1, h2⟩ := List.nodup_cons.1 hn
    have hw := hs w (by simp)
    rw [adds_cons, adds_erase hw]
    have := adds_sub (ws := ws.erase w) h2 (fun v hv => (List.mem_erase_of_ne (by rintro rfl; exact h1 hv)).2 (hs v (by simp [hv]))) fun v hv => h v (List.mem_of_mem_erase hv)
    omega
theorem through {ws : List We} {n : Nat} (hfit : FitW n ws) (ht : NoTurn ws) (hsum : adds ws ≤ 1048576) {a b c : Nat} {p q r : Pa} (hp : Val ws a b p) (hq : Val ws b c q) (e : p.thn q = some r) : domi (leastL ws a c) r := by
  obtain ⟨l1, w1, r1⟩ := hp
  obtain ⟨l2, w2, r2⟩ := hq
  obtain ⟨m, k1, k2, k3⟩ := nodup_walk hfit ht (l1 ++ l2).length (l1 ++ l2) (Nat.le_refl _) (w1.append w2)
  have hu : urun Pa.nought (l1 ++ l2) = r := by
    rw [urun_append, urun_cat, run_urun _ r1, run_urun _ r2, Pa.thn_cat e]
  rw [hu] at k3
  have hnd : m.Nodup := by
    rw [stops_eq k1] at k2
    have := (List.nodup_append.1 k2).1
    exact List.Pairwise.of_map (·.f) (fun a b h e => h (by rw [e])) this
  have hok : ∀ w ∈ ws, w.p.ok = true := fun w hw => (hfit w hw).2.2
  have hms := walk_sub k1
  have hb : run Pa.nought m = some (urun Pa.nought m) := by
    refine run_bound m _ rfl (fun w hw => hok w (hms w hw)) ?_
    have := adds_sub hnd hms fun w hw => by
      have := hok w hw
      simp only [Pa.ok, Bool.and_eq_true, decide_eq_true_eq] at this
      exact this.1
    show 0 + adds m ≤ 1048576
    omega
  obtain ⟨x, hx, hxl⟩ := (leastL_spec ws a c).dom _ ⟨m, k1, hb⟩
  exact ⟨x, hx, Pa.le_trans hxl k3⟩
theorem canonW_idem (ws : List Wy) : canonW (canonW ws) = canonW ws :=
  Inc.unique Wy.ord (canonW_inc _) (canonW_inc _) fun x => by rw [canonW_mem]
theorem newOf_canon (P : Int) (ws : List Wy) : newOf P (canonW ws) = newOf P ws := by
  have e : (∃ w ∈ canonW ws, w.fit P = false) ↔ ∃ w ∈ ws, w.fit P = false := by simp only [canonW_mem]
  unfold newOf
  rw [canonW_idem]
  simp only [e]
theorem newOf_zero {P : Int} {ws : List Wy} (h : (newOf P ws).2 = 0) : (newOf P ws).1 = (P, canonW ws) := by
  unfold newOf at h ⊢
  split at h
  · cases h
  rename_i h1
  split at h
  · cases h
  rename_i h2
  split at h
  · cases h
  rename_i h3
  rw [if_neg h1, if_neg h2, if_neg h3]
theorem newOf_right {P : Int} {ws : List Wy} (h : (newOf P ws).2 = 0) : ∃ n l, RightM P (canonW ws) n l := by
  refine (rightM_iff P (canonW ws)).1 ?_
  unfold rightM
  rw [decide_eq_true_eq, newOf_canon]
  exact ⟨h, by rw [newOf_zero h]⟩
theorem addedW_we (l : List We) : addedW (l.map We.wy) = adds l := by
  unfold addedW adds
  rw [List.map_map]
  rfl
theorem RightM.adds {P : Int} {ws : List Wy} {n : Nat} {l : List We} (R : RightM P ws n l) : Proofs.Ytmpmngakheoacaa.adds l ≤ 1048576 := by
  have := R.sum
  rw [R.eq, addedW_we] at this
  exact this

def aliveW : List We := [⟨0, 1, ⟨false, 0⟩⟩, ⟨1, 0, ⟨false, 1⟩⟩]
def aliveL : List Wy := [⟨0, 1, ⟨false, 0⟩⟩, ⟨1, 0, ⟨false, 1⟩⟩]
theorem alive_canon : canonW aliveL = aliveL := by rw [canonW_ins]; decide
theorem alive_new : newOf 2 aliveL = ((2, aliveL), 0) := by
  have h1 : ¬ ((2 : Int) < 0 ∨ (200 : Int) < 2 ∨ ∃ w ∈ aliveL, w.fit 2 = false) := by decide
  have h2 : ¬ (1048576 : Int) < addedW aliveL := by decide
  have h3 : ¬ (Idle (aliveL.map Wy.we) ∨ Turns (aliveL.map Wy.we)) := by
    rintro (⟨y, hy⟩ | ⟨w, hw, hn, _⟩)
    · have e1 : ∀ a b, (a, b) ∈ zE (aliveL.map Wy.we) → a = 0 ∧ b = 1 := by
        intro a b h
        have h : (a, b) ∈ [((0 : Nat), (1 : Nat))] := h
        simpa using h
      cases hy with
      | one h => have := e1 _ _ h; omega
      | cons h k =>
        have h1 := e1 _ _ h
        have := k.closed (S := fun x => x = 1) (fun a b ha hb => (e1 _ _ hb).2) h1.2
        omega
    simp [aliveL, Wy.we] at hw
    rcases hw with rfl | rfl <;> cases hn
  unfold newOf
  rw [if_neg h1, alive_canon, if_neg h2, if_neg h3]
theorem alive_right : RightM 2 aliveL 2 aliveW := by
  have h : (newOf 2 aliveL).2 = 0 := by rw [alive_new]
  obtain ⟨n, l, R⟩ := newOf_right h
  rw [alive_canon] at R
  have hn : n = 2 := by have := R.pl; omega
  have hl : l = aliveW := by
    have h1 : aliveL = aliveW.map We.wy := rfl
    have h2 := R.eq
    rw [h1] at h2
    have inj : ∀ a b : We, a.wy = b.wy → a = b := by
      rintro ⟨f, t, p⟩ ⟨f', t', p'⟩ h
      simp only [We.wy, Wy.mk.injEq] at h
      simp only [We.mk.injEq]
      exact ⟨by omega, by omega, h.2.2⟩
    have : ∀ {x y : List We}, x.map We.wy = y.map We.wy → x = y := by
      intro x
      induction x with
      | nil => intro y h; cases y with
        | nil => rfl
        | cons => cases h
      | cons a x ih => intro y h; cases y with
        | nil => cases h
        | cons b y =>
          simp only [List.map_cons, List.cons.injEq] at h
          rw [inj a b h.1, ih h.2]
    exact (this h2).symm
  subst hn hl
  exact R
theorem alive_least : leastL aliveW 0 0 = [Pa.nought] :=
  leastL_eq ⟨by simp [Can], (fun p hp => by simp at hp; subst hp; exact Val.nought _ _), fun p ⟨l, h1, h2⟩ => ⟨Pa.nought, by simp, run_up l (fun w hw => by
    have := walk_sub h1 w hw
    simp [aliveW] at this
    rcases this with rfl | rfl <;> rfl) h2⟩⟩
end Go.Proofs.Ytmpmngakheoacaa
/-
corollarylaw22's alive and Large, corollarynum.Num; Least, whatever the map. No conditions.
-/
namespace Go.Proofs.Ytmpmngakheoacaa
open Go.Proofs.Ytmpmngakheoacaa renaming lops_id → uA, lops_go2 → uB, lops_guardT → uC, lops_guardF → uD, lops_guard_no → uE, dops_id → uF, dops_go1 → uG, dops_guardT → uH, dops_guardF → uI, dops_guard_no → uJ, dops_nil → uK, drawQ_nil → uL, drawQ_tl → uM, cond_id → uN, lwp_condB → uO, blockQ_other → uP, condG_s → uQ, draw_id → uR, lwp_draw → uS
open Nat renaming reduceAdd → jA, reduceSub → jB, reduceLT → jC, reduceLeDiff → jD, reduceEqDiff → jE
open Int renaming reduceToNat → jF, toNat_natCast → jG, natCast_add → jH, natCast_one → jI, natCast_zero → jJ
open List renaming length_map → jK, length_cons → jL, length_nil → jM, replicate_succ → jN, replicate_zero → jO, cons_append → jP, nil_append → jQ
set_option linter.unusedSimpArgs false
set_option linter.unusedVariables false
set_option linter.unusedSectionVars false
open Go.RowKit Go.Sort
attribute [local irreducible] IntKind.wrap
attribute [local go_sem] Option.some.injEq Prod.mk.injEq false_and and_false Bool.true_eq_false dRun dRest dbare dMerge nones if_true Bool.true_and dgoC dgoCRest fillV okAll nextAll LOper.ok LOper.next LOp.ok LOp.next LVal.ok LVal.out LArg.ev putV binOK pick_true pick_false pick_bool V.undef Sh.size addHp dokAll dnextAll LOper.dok LOper.dres LOp.dok LOp.dout dput conOK veqL leafEq List.take_succ_cons List.take_zero List.take_nil List.drop_succ_cons List.drop_zero List.drop_nil List.set_cons_succ List.set_cons_zero List.getD_cons_succ List.getD_cons_zero jL jM List.map_cons List.map_nil List.all_cons List.all_nil List.mem_cons List.not_mem_nil jN jO jP jQ List.append_nil List.isEmpty_cons List.isEmpty_nil appOwn appHp appOK Option.getD_some Option.isSome_some Option.isSome_none Nat.add_eq Nat.zero_add Nat.add_zero true_and and_true and_self true_implies implies_true false_implies forall_const forall_eq forall_eq_or_imp ne_eq not_false_eq_true not_true_eq_false Bool.not_true Bool.not_false decide_true decide_false Bool.and_true Bool.true_and Bool.and_false Bool.false_and true_or or_true false_or or_false eq_self Bool.false_eq_true nxNe nxNe' tupOf mkFrom bval ogive cutOwn cutE_nil cutE_full cutE_tok cutE_free_nil cutE_free_cons selems jG Int.toNat_zero List.take_length Hp.set_app Hp.del_app goOps goRest LOper.plain LOp.isCall LOper.dplain LOp.isStop lops_nil gRun gRest bare gMerge V.gd_true V.gd_false pick_gd pick_gdn pick_and pick_or partOK_self loadPart_self storePart_self dgoOps dgoRest beq_true beq_false partOK_ll partOK_al partOK_aa loadPart_l loadPart_a storePart_la storePart_aa fits_leaf fits_agg leafy_bool leafy_int leafy_str leafy_nilPtr leafy_ptr leafy_ept leafy_sl leafy_rs leafy_nilMap leafy_map leafy_nilChan leafy_chan leafy_fn leafy_nilFn leafy_yld leafy_iface leafy_nilIface veq_aa veq_li veq_lb veq_ls cells_agg cells_leaf cell_agg cell_leaf veq_ptr1 veq_ptr2 veq_ptr3 veq_ptr4 veq_ptr5 veq_slice1 veq_slice2 veq_func1 veq_func2 veq_func3 veq_iface1 veq_iface2 veq_iface3 veq_map1 veq_map2 veq_map3 veq_chan1 veq_chan2 veq_chan3 conAt_add conAt_zero untaken wrHp Hp.turn delHp Option.isNone_some Option.isNone_none nxFq goOps2 goRest2 LOper.plain2 LOp.isApp ltNe ltNe1 ltNe' ltNe1' delO_nil delO_tok
theorem num_pure (n : Int) (h : Hp) : Pure Try.prog 12 [errV n] h (.int .i64 n) := by
  refine pure_of (fun L => trivial) fun h' nx hh => acalls_walk L.corollarynum_Num_low fun hd => ?_
  simp only [jL, jM, jA, jB, jN, jO, jP, jQ, V.undef]
  by_cases hn : n = 0
  · subst hn
    (repeat' (first | (with_reducible first | refine stp ?_ | refine uP (by decide) ?_ | refine uQ (fun _ => ?_) (fun _ => ?_)) | ((first | (with_reducible refine uA ?_; first | refine uB rfl ?_ ?_  | (first | refine uC rfl ?_ | refine uD rfl ?_) | refine uE rfl ?_) | (with_reducible refine uF ?_; first | refine uG rfl ?_ ?_  | (first | refine uH rfl ?_ | refine uI rfl ?_) | refine uJ rfl ?_ | refine uK (uL ?_) | refine uK (uM ?_)) | (with_reducible refine uN ?_; refine uO rfl ?_)) <;> try simp only [errV_0, go_sem, reduceIte, jA, jB, jC, jD, reduceCtorEq, jE, jF]) | (with_reducible refine uR ?_; refine uS rfl ?_) | omega))
    refine ret_slot h' (by repeat (first | exact Hp.le_refl _ | refine le_of_fresh hd ?_ (by omega) _ | refine le_of_freshd hd ?_ (by omega))) ⟨?_, rfl⟩
    simp only [go_sem, reduceIte, jA, jB, jC, jD, reduceCtorEq, jE, jF]
  have e : errV n = .iface 72 (.int .i64 n) := by unfold errV; rw [if_neg hn]
  have e2 : (n != 0) = true := by simpa using hn
  (repeat' (first | (with_reducible first | refine stp ?_ | refine uP (by decide) ?_ | refine uQ (fun _ => ?_) (fun _ => ?_)) | ((first | (with_reducible refine uA ?_; first | refine uB rfl ?_ ?_  | (first | refine uC rfl ?_ | refine uD rfl ?_) | refine uE rfl ?_) | (with_reducible refine uF ?_; first | refine uG rfl ?_ ?_  | (first | refine uH rfl ?_ | refine uI rfl ?_) | refine uJ rfl ?_ | refine uK (uL ?_) | refine uK (uM ?_)) | (with_reducible refine uN ?_; refine uO rfl ?_)) <;> try simp only [e, e2, go_sem, reduceIte, jA, jB, jC, jD, reduceCtorEq, jE, jF]) | (with_reducible refine uR ?_; refine uS rfl ?_) | omega))
  refine ret_slot h' (by repeat (first | exact Hp.le_refl _ | refine le_of_fresh hd ?_ (by omega) _ | refine le_of_freshd hd ?_ (by omega))) ⟨?_, rfl⟩
  simp only [go_sem, reduceIte, jA, jB, jC, jD, reduceCtorEq, jE, jF]

theorem alive22_pure (h : Hp) : Pure Try.prog 7 [] h (.bool true) := by
  refine pure_of (fun L => trivial) fun h' nx hh => acalls_walk L.corollarylaw22_alive_low fun hd => ?_
  simp only [jL, jM, jA, jB, jN, jO, jP, jQ, V.undef]
  have hnew : ∀ o h, Pure Try.prog 9 [.int .i64 2, .sl (.agg 4) o [.agg [.int .i64 0, .int .i64 1, .bool false, .int .i64 0], .agg [.int .i64 1, .int .i64 0, .bool false, .int .i64 1]]] h (.tup [.agg [.int .i64 2, .sl (.agg 4) .free (aliveL.map Wy.v)], .nilIface]) := fun o h => by
    have := new_pure o 2 aliveL (by decide) h
    rw [alive_new] at this
    exact this
  have hleast : ∀ h, Pure Try.prog 16 [mps .free 2 aliveL, .int .i64 0, .int .i64 0] h (.sl (.agg 2) .free [.agg [.bool false, .int .i64 0]]) := fun h => by
    have := least_pure .free alive_right (by decide) 0 0 h
    rw [if_pos (by decide)] at this
    have e : leastL aliveW (0 : Int).toNat (0 : Int).toNat = [Pa.nought] := alive_least
    rw [e] at this
    exact this
  have q2 : (((2 : Nat) : Int) == (2 : Int)) = true := by decide
  have q1 : (((1 : Nat) : Int) == (1 : Int)) = true := by decide
  have q0 : ((0 : Int) == (0 : Int)) = true := by decide
  (repeat' (first | (with_reducible first | refine stp ?_ | refine uP (by decide) ?_ | refine uQ (fun _ => ?_) (fun _ => ?_)) | ((first | (with_reducible refine uA ?_; first | refine uB rfl ?_ ?_ | refine lops_pure (hnew _ _) rfl (has_refl _) ?_ | refine lops_pure (hleast _) rfl (has_refl _) ?_ | (first | refine uC rfl ?_ | refine uD rfl ?_) | refine uE rfl ?_) | (with_reducible refine uF ?_; first | refine uG rfl ?_ ?_  | (first | refine uH rfl ?_ | refine uI rfl ?_) | refine uJ rfl ?_ | refine uK (uL ?_) | refine uK (uM ?_)) | (with_reducible refine uN ?_; refine uO rfl ?_)) <;> try simp only [aliveL, Wy.v, q0, q1, q2, go_sem, reduceIte, jA, jB, jC, jD, reduceCtorEq, jE, jF]) | (with_reducible refine uR ?_; refine uS rfl ?_) | omega))
  refine ret_slot h' (by repeat (first | exact Hp.le_refl _ | refine le_of_fresh hd ?_ (by omega) _ | refine le_of_freshd hd ?_ (by omega))) ⟨?_, rfl⟩
  simp only [go_sem, reduceIte, jA, jB, jC, jD, reduceCtorEq, jE, jF]

def largeM (P : Int) (ws : List Wy) : Bool := (decide (14 < P) && decide (P ≤ 200)) || decide (40 < (ws.length : Int))
theorem large_pure (o : Own) (P : Int) (ws : List Wy) (h : Hp) : Pure Try.prog 8 [mps o P ws] h (.bool (largeM P ws)) := by
  have hmf : (mps o P ws).fits (.agg 2) = true := by simp [mps, V.fits, V.leafy, wys]
  refine pure_of (fun L => trivial) fun h' nx hh => acalls_walk L.corollarylaw22_Large_low fun hd => ?_
  simp only [jL, jM, jA, jB, jN, jO, jP, jQ, V.undef]
  unfold largeM
  cases h1 : decide (14 < P) <;> cases h2 : decide (P ≤ 200)
  all_goals ((repeat' (first | (with_reducible first | refine stp ?_ | refine uP (by decide) ?_ | refine uQ (fun _ => ?_) (fun _ => ?_)) | ((first | (with_reducible refine uA ?_; first | refine uB rfl ?_ ?_  | (first | refine uC rfl ?_ | refine uD rfl ?_) | refine uE rfl ?_) | (with_reducible refine uF ?_; first | refine uG rfl ?_ ?_  | (first | refine uH rfl ?_ | refine uI rfl ?_) | refine uJ rfl ?_ | refine uK (uL ?_) | refine uK (uM ?_)) | (with_reducible refine uN ?_; refine uO rfl ?_)) <;> try simp only [hmf, h1, h2, jK, go_sem, reduceIte, jA, jB, jC, jD, reduceCtorEq, jE, jF]) | (with_reducible refine uR ?_; refine uS rfl ?_) | omega)))
  all_goals refine ret_slot h' (by repeat (first | exact Hp.le_refl _ | refine le_of_fresh hd ?_ (by omega) _ | refine le_of_freshd hd ?_ (by omega))) ⟨?_, rfl⟩
  all_goals simp only [jK, Bool.false_or, Bool.true_or, go_sem, reduceIte, jA, jB, jC, jD, reduceCtorEq, jE, jF]
theorem large_len {P : Int} {ws : List Wy} (h : largeM P ws = false) : ws.length ≤ 40 := by
  unfold largeM at h
  rw [Bool.or_eq_false_iff] at h
  have := of_decide_eq_false h.2
  omega
/-
corollarylaw22's Ways, Document, same. No conditions.
-/
set_option maxRecDepth 100000 in
theorem ways_pure (o : Own) (l : List Wy) (hl : l.length ≤ 100000) (h : Hp) : Pure Try.prog 23 [wys o l] h (lst (.agg 4) (l.map Wy.v)) := by
  refine pure_of_loose (fun L => lst_names (fun L => namesL_map (Wy.names_v L) _) L) fun h' nx hh => acalls_walk L.corollarylaw22_Ways_low fun hd => ?_
  simp only [jL, jM, jA, jB, jN, jO, jP, jQ, V.undef]
  (repeat' (first | (with_reducible first | refine stp ?_ | refine uP (by decide) ?_ | refine uQ (fun _ => ?_) (fun _ => ?_)) | ((first | (with_reducible refine uA ?_; first | refine uB rfl ?_ ?_  | (first | refine uC rfl ?_ | refine uD rfl ?_) | refine uE rfl ?_) | (with_reducible refine uF ?_; first | refine uG rfl ?_ ?_  | (first | refine uH rfl ?_ | refine uI rfl ?_) | refine uJ rfl ?_ | refine uK (uL ?_) | refine uK (uM ?_)) | (with_reducible refine uN ?_; refine uO rfl ?_)) <;> try simp only [jK, go_sem, reduceIte, jA, jB, jC, jD, reduceCtorEq, jE, jF]) | (with_reducible refine uR ?_; refine uS rfl ?_) | omega))
  refine lwp_loopM (fun q : Nat × Own => mkFrom 25 0 [(3, wys q.2 (l.take q.1)), (6, wys o l), (7, .int .i64 l.length), (8, .int .i64 q.1)])
    (fun q hp nx1 => q.1 ≤ l.length ∧ nx ≤ nx1 ∧ DomB hp nx1 ∧ Hp.same nx h' hp ∧ Acc hp nx q.2 ((l.take q.1).map Wy.v))
    (fun q => l.length - q.1) (0, .nil) ⟨Nat.zero_le _, Nat.le_refl _, hd, Hp.same.rfl', Acc.nil⟩ ?_ ?_
  · simp only [WkL, mkFrom, jH, jI, jJ, wys, List.take_zero, List.map_nil, go_sem, reduceIte, jA, jB, jC, jD, reduceCtorEq, jE, jF]
  rintro ⟨i, oo⟩ hp nx1 ⟨hi, hnx, hdm, hsm, hacc⟩
  generalize hQ : roundM _ _ _ _ _ = Q0
  dsimp only at hi hacc
  simp only [mkFrom, go_sem, reduceIte, jA, jB, jC, jD, reduceCtorEq, jE, jF]
  rcases Nat.lt_or_ge i l.length with hlt | hge
  · have hc : decide ((i : Int) < (l.length : Int)) = true := decide_eq_true (by omega)
    have hg : (l.map Wy.v).getD i (.tup []) = .agg [.int .i64 l[i].f, .int .i64 l[i].t, .bool l[i].p.n, .int .i64 l[i].p.a] := getD_map' Wy.v l i hlt
    have hw : IntKind.i64.wrap ((i : Int) + 1) = ((i + 1 : Nat) : Int) := by rw [wrap_in] <;> omega
    have htk : (l.take (i + 1)).map Wy.v = (l.take i).map Wy.v ++ [.agg [.int .i64 l[i].f, .int .i64 l[i].t, .bool l[i].p.n, .int .i64 l[i].p.a]] := by
      rw [List.take_succ_eq_append_getElem hlt, List.map_append]; rfl
    have hlen : ((l.take i).map Wy.v).length = i := by simp; omega
    have hb1 : (i + 1) * 32 ≤ 140737488355328 := by omega
    have hrp : ∀ h, Pure Try.prog 43 [.agg [.bool l[i].p.n, .int .i64 l[i].p.a]] h (.agg [.bool l[i].p.n, .int .i64 l[i].p.a]) := fun h => rpath_pure l[i].p h
    rcases hacc with ⟨he, rfl⟩ | ⟨hne, id, hid, rfl, htip⟩
    · have hi0 : i = 0 := by rw [he] at hlen; simpa using hlen.symm
      (repeat' (first | (with_reducible first | refine stp ?_ | refine uP (by decide) ?_ | refine uQ (fun _ => ?_) (fun _ => ?_)) | ((first | (with_reducible refine uA ?_; first | refine uB rfl ?_ ?_  | (first | refine uC rfl ?_ | refine uD rfl ?_) | refine uE rfl ?_) | (with_reducible refine uF ?_; first | refine uG rfl ?_ ?_ | refine dops_pure (hrp _) rfl (none_has _) ?_ | (first | refine uH rfl ?_ | refine uI rfl ?_) | refine uJ rfl ?_ | refine uK (uL ?_) | refine uK (uM ?_)) | (with_reducible refine uN ?_; refine uO rfl ?_)) <;> try simp only [hc, hg, hlt, hw, he, jK, jG, go_sem, reduceIte, jA, jB, jC, jD, reduceCtorEq, jE, jF]) | (with_reducible refine uR ?_; refine uS rfl ?_) | omega))
      rw [← hQ]
      refine roundM_normal (i + 1, .tok (nx1 + 12)) (by dsimp only; omega) ⟨hlt, by omega, (by (try dsimp only); repeat (first | exact DomB.up hdm (by omega) | refine DomB.set2 ?_ (by omega) _ | refine DomB.del ?_ | refine DomB.delO ?_ _)), (by (try dsimp only); repeat (first | exact hsm | refine same_set ?_ (by omega) _ | refine same_del ?_ (by omega))), ?_⟩ ?_
      · dsimp only; rw [htk]; exact Acc.new _ (by simp) (by omega)
      simp only [WkL, mkFrom, jH, jI, jJ, wys, htk, he, go_sem, reduceIte, jA, jB, jC, jD, reduceCtorEq, jE, jF]
    have hidn : id < nx1 := hdm id _ htip
    have e1 : (id = nx1) = False := eq_false (by omega)
    have ca : conAt ((hp.set nx1 (Blk.arr (Sh.agg 4) [V.agg [V.int IntKind.i64 0, V.int IntKind.i64 0, V.bool false, V.int IntKind.i64 0]])).set nx1 (Blk.arr (Sh.agg 4) [V.agg [V.int IntKind.i64 l[i].f, V.int IntKind.i64 l[i].t, V.bool l[i].p.n, V.int IntKind.i64 l[i].p.a]])) (nx1 + 2) [0, 1, 2, 3, 4, 5, 6, 7, 8, 9] [none, none, none, none, none, none, none, none, none, some Blk.tip] [none, none, none, none, none, none, none, none, none, none] id Blk.tip :=
      ⟨by simp [untaken], .inl ⟨by omega, by simp only [htip, e1, go_sem, reduceIte, jA, jB, jC, jD, reduceCtorEq, jE, jF]⟩⟩
    (repeat' (first | (with_reducible first | refine stp ?_ | refine uP (by decide) ?_ | refine uQ (fun _ => ?_) (fun _ => ?_)) | ((first | (with_reducible refine uA ?_; first | refine uB rfl ?_ ?_  | (first | refine uC rfl ?_ | refine uD rfl ?_) | refine uE rfl ?_) | (with_reducible refine uF ?_; first | refine uG rfl ?_ ?_ | refine dops_pure (hrp _) rfl (none_has _) ?_ | (first | refine uH rfl ?_ | refine uI rfl ?_) | refine uJ rfl ?_ | refine uK (uL ?_) | refine uK (uM ?_)) | (with_reducible refine uN ?_; refine uO rfl ?_)) <;> try simp only [hc, hg, hlt, hw, hlen, htip, hidn, hb1, ca, jK, jG, go_sem, reduceIte, jA, jB, jC, jD, reduceCtorEq, jE, jF]) | (with_reducible refine uR ?_; refine uS rfl ?_) | omega))
    rw [← hQ]
    refine roundM_normal (i + 1, .tok (nx1 + 12)) (by dsimp only; omega) ⟨hlt, by omega, (by (try dsimp only); repeat (first | exact DomB.up hdm (by omega) | refine DomB.set2 ?_ (by omega) _ | refine DomB.del ?_ | refine DomB.delO ?_ _)), (by (try dsimp only); repeat (first | exact hsm | refine same_set ?_ (by omega) _ | refine same_del ?_ (by omega))), ?_⟩ ?_
    · dsimp only; rw [htk]; exact (Acc.new _ (by simp) (by omega)).del (fun e => by injection e; omega)
    simp only [WkL, mkFrom, jH, jI, jJ, wys, htk, go_sem, reduceIte, jA, jB, jC, jD, reduceCtorEq, jE, jF]
  have hc : decide ((i : Int) < (l.length : Int)) = false := decide_eq_false (by omega)
  (repeat' (first | (with_reducible first | refine stp ?_ | refine uP (by decide) ?_ | refine uQ (fun _ => ?_) (fun _ => ?_)) | ((first | (with_reducible refine uA ?_; first | refine uB rfl ?_ ?_  | (first | refine uC rfl ?_ | refine uD rfl ?_) | refine uE rfl ?_) | (with_reducible refine uF ?_; first | refine uG rfl ?_ ?_  | (first | refine uH rfl ?_ | refine uI rfl ?_) | refine uJ rfl ?_ | refine uK (uL ?_) | refine uK (uM ?_)) | (with_reducible refine uN ?_; refine uO rfl ?_)) <;> try simp only [hc, go_sem, reduceIte, jA, jB, jC, jD, reduceCtorEq, jE, jF]) | (with_reducible refine uR ?_; refine uS rfl ?_) | omega))
  rw [← hQ]
  (repeat' (first | (with_reducible first | refine stp ?_ | refine uP (by decide) ?_ | refine uQ (fun _ => ?_) (fun _ => ?_)) | ((first | (with_reducible refine uA ?_; first | refine uB rfl ?_ ?_  | (first | refine uC rfl ?_ | refine uD rfl ?_) | refine uE rfl ?_) | (with_reducible refine uF ?_; first | refine uG rfl ?_ ?_  | (first | refine uH rfl ?_ | refine uI rfl ?_) | refine uJ rfl ?_ | refine uK (uL ?_) | refine uK (uM ?_)) | (with_reducible refine uN ?_; refine uO rfl ?_)) <;> try simp only [ go_sem, reduceIte, jA, jB, jC, jD, reduceCtorEq, jE, jF]) | (with_reducible refine uR ?_; refine uS rfl ?_) | omega))
  have htl : l.take i = l := List.take_of_length_le (by omega)
  rw [htl] at hacc
  refine ret_slot h' (hsm.le hd (Hp.le_refl _)) ⟨?_, Hp.le_refl _⟩
  simp only [htl, go_sem, reduceIte, jA, jB, jC, jD, reduceCtorEq, jE, jF]
  rw [hacc.loose]
  rfl
theorem wdocument_pure (o : Own) (P : Int) (ws : List Wy) (hl : ws.length ≤ 100000) (h : Hp) : Pure Try.prog 10 [mps o P ws] h (mapV P ws) := by
  refine pure_of (fun L => mapV_names P ws L) fun h' nx hh => acalls_walk L.corollarylaw22_Document_low fun hd => ?_
  have hmf : (mps o P ws).fits (.agg 2) = true := by simp [mps, V.fits, V.leafy, wys]
  simp only [jL, jM, jA, jB, jN, jO, jP, jQ, V.undef]
  unfold mapV
  obtain ⟨o2, ho2⟩ := lst_eq (.agg 4) (ws.map Wy.v)
  have hmf2 : (V.agg [.int .i64 P, wys o2 ws]).fits (.agg 2) = true := by simp [V.fits, V.leafy]
  rw [ho2]
  have hwp : ∀ h, Pure Try.prog 23 [wys o ws] h (wys o2 ws) := fun h => by
    have e := ways_pure o ws hl h
    rw [ho2] at e
    exact e
  (repeat' (first | (with_reducible first | refine stp ?_ | refine uP (by decide) ?_ | refine uQ (fun _ => ?_) (fun _ => ?_)) | ((first | (with_reducible refine uA ?_; first | refine uB rfl ?_ ?_  | (first | refine uC rfl ?_ | refine uD rfl ?_) | refine uE rfl ?_) | (with_reducible refine uF ?_; first | refine uG rfl ?_ ?_ | refine dops_pure (hwp _) rfl (none_has _) ?_ | (first | refine uH rfl ?_ | refine uI rfl ?_) | refine uJ rfl ?_ | refine uK (uL ?_) | refine uK (uM ?_)) | (with_reducible refine uN ?_; refine uO rfl ?_)) <;> try simp only [hmf, hmf2, go_sem, reduceIte, jA, jB, jC, jD, reduceCtorEq, jE, jF]) | (with_reducible refine uR ?_; refine uS rfl ?_) | omega))
  refine ret_cell (by simp only [go_sem, reduceIte, jA, jB, jC, jD, reduceCtorEq, jE, jF]) h' (by repeat (first | exact Hp.le_refl _ | refine le_of_fresh hd ?_ (by omega) _ | refine le_of_freshd hd ?_ (by omega))) ⟨?_, rfl⟩
  simp only [go_sem, reduceIte, jA, jB, jC, jD, reduceCtorEq, jE, jF]
set_option maxRecDepth 100000 in
theorem same_pure (oa ob : Own) (a b : List Wy) (hl : a.length ≤ 100000) (h : Hp) : Pure Try.prog 13 [wys oa a, wys ob b] h (.bool (decide (a = b))) := by
  refine pure_of (fun L => trivial) fun h' nx hh => acalls_walk L.corollarylaw22_same_low fun hd => ?_
  obtain ⟨o2, ho2⟩ := lst_eq (.agg 4) (a.map Wy.v)
  have hwp : ∀ h, Pure Try.prog 23 [wys oa a] h (wys o2 a) := fun h => by
    have e := ways_pure oa a hl h
    rw [ho2] at e
    exact e
  simp only [jL, jM, jA, jB, jN, jO, jP, jQ, V.undef]
  by_cases hab : a.length = b.length
  rotate_left
  · have hc : ((a.length : Int) != (b.length : Int)) = true := by simp; omega
    (repeat' (first | (with_reducible first | refine stp ?_ | refine uP (by decide) ?_ | refine uQ (fun _ => ?_) (fun _ => ?_)) | ((first | (with_reducible refine uA ?_; first | refine uB rfl ?_ ?_ | refine lops_pure (hwp _) rfl (has_refl _) ?_ | (first | refine uC rfl ?_ | refine uD rfl ?_) | refine uE rfl ?_) | (with_reducible refine uF ?_; first | refine uG rfl ?_ ?_  | (first | refine uH rfl ?_ | refine uI rfl ?_) | refine uJ rfl ?_ | refine uK (uL ?_) | refine uK (uM ?_)) | (with_reducible refine uN ?_; refine uO rfl ?_)) <;> try simp only [hc, jK, go_sem, reduceIte, jA, jB, jC, jD, reduceCtorEq, jE, jF]) | (with_reducible refine uR ?_; refine uS rfl ?_) | omega))
    refine ret_slot h' (by repeat (first | exact Hp.le_refl _ | refine le_of_fresh hd ?_ (by omega) _ | refine le_of_freshd hd ?_ (by omega))) ⟨?_, rfl⟩
    have : a ≠ b := by rintro rfl; exact hab rfl
    simp only [this, go_sem, reduceIte, jA, jB, jC, jD, reduceCtorEq, jE, jF]
  have hc : ((a.length : Int) != (b.length : Int)) = false := by simp; omega
  (repeat' (first | (with_reducible first | refine stp ?_ | refine uP (by decide) ?_ | refine uQ (fun _ => ?_) (fun _ => ?_)) | ((first | (with_reducible refine uA ?_; first | refine uB rfl ?_ ?_ | refine lops_pure (hwp _) rfl (has_refl _) ?_ | (first | refine uC rfl ?_ | refine uD rfl ?_) | refine uE rfl ?_) | (with_reducible refine uF ?_; first | refine uG rfl ?_ ?_  | (first | refine uH rfl ?_ | refine uI rfl ?_) | refine uJ rfl ?_ | refine uK (uL ?_) | refine uK (uM ?_)) | (with_reducible refine uN ?_; refine uO rfl ?_)) <;> try simp only [hc, jK, go_sem, reduceIte, jA, jB, jC, jD, reduceCtorEq, jE, jF]) | (with_reducible refine uR ?_; refine uS rfl ?_) | omega))
  refine lwp_loopM (fun i : Nat => mkFrom 29 0 [(1, wys ob b), (5, wys o2 a), (15, .int .i64 a.length), (16, .int .i64 i)])
    (fun i hp nx1 => i ≤ a.length ∧ hp = h' ∧ a.take i = b.take i) (fun i => a.length - i) 0 ⟨Nat.zero_le _, rfl, rfl⟩ ?_ ?_
  · simp only [WkL, mkFrom, jH, jI, jJ, wys, go_sem, reduceIte, jA, jB, jC, jD, reduceCtorEq, jE, jF]
  rintro i hp nx1 ⟨hi, rfl, hno⟩
  generalize hQ : roundM _ _ _ _ _ = Q0
  simp only [mkFrom, go_sem, reduceIte, jA, jB, jC, jD, reduceCtorEq, jE, jF]
  rcases Nat.lt_or_ge i a.length with hlt | hge
  · have hc : decide ((i : Int) < (a.length : Int)) = true := decide_eq_true (by omega)
    have hlt' : i < b.length := by omega
    have hg := getD_map' Wy.v a i hlt
    have hg' := getD_map' Wy.v b i hlt'
    have hw : IntKind.i64.wrap ((i : Int) + 1) = ((i + 1 : Nat) : Int) := by rw [wrap_in] <;> omega
    by_cases he : a[i] = b[i]
    · have hd1 : decide (a[i] = b[i]) = true := decide_eq_true he
      (repeat' (first | (with_reducible first | refine stp ?_ | refine uP (by decide) ?_ | refine uQ (fun _ => ?_) (fun _ => ?_)) | ((first | (with_reducible refine uA ?_; first | refine uB rfl ?_ ?_  | (first | refine uC rfl ?_ | refine uD rfl ?_) | refine uE rfl ?_) | (with_reducible refine uF ?_; first | refine uG rfl ?_ ?_  | (first | refine uH rfl ?_ | refine uI rfl ?_) | refine uJ rfl ?_ | refine uK (uL ?_) | refine uK (uM ?_)) | (with_reducible refine uN ?_; refine uO rfl ?_)) <;> try simp only [hc, hg, hg', hlt, hlt', hw, veq_wy, hd1, Wy.fits_v, jK, jG, go_sem, reduceIte, jA, jB, jC, jD, reduceCtorEq, jE, jF]) | (with_reducible refine uR ?_; refine uS rfl ?_) | omega))
      rw [← hQ]
      refine roundM_normal (i + 1) (by omega) ⟨hlt, rfl, ?_⟩ ?_
      · rw [List.take_succ_eq_append_getElem hlt, List.take_succ_eq_append_getElem hlt', hno, he]
      simp only [WkL, mkFrom, jH, jI, jJ, wys, go_sem, reduceIte, jA, jB, jC, jD, reduceCtorEq, jE, jF]
    have hd1 : decide (a[i] = b[i]) = false := decide_eq_false he
    (repeat' (first | (with_reducible first | refine stp ?_ | refine uP (by decide) ?_ | refine uQ (fun _ => ?_) (fun _ => ?_)) | ((first | (with_reducible refine uA ?_; first | refine uB rfl ?_ ?_  | (first | refine uC rfl ?_ | refine uD rfl ?_) | refine uE rfl ?_) | (with_reducible refine uF ?_; first | refine uG rfl ?_ ?_  | (first | refine uH rfl ?_ | refine uI rfl ?_) | refine uJ rfl ?_ | refine uK (uL ?_) | refine uK (uM ?_)) | (with_reducible refine uN ?_; refine uO rfl ?_)) <;> try simp only [hc, hg, hg', hlt, hlt', hw, veq_wy, hd1, Wy.fits_v, jK, jG, go_sem, reduceIte, jA, jB, jC, jD, reduceCtorEq, jE, jF]) | (with_reducible refine uR ?_; refine uS rfl ?_) | omega))
    rw [← hQ]
    (repeat' (first | (with_reducible first | refine stp ?_ | refine uP (by decide) ?_ | refine uQ (fun _ => ?_) (fun _ => ?_)) | ((first | (with_reducible refine uA ?_; first | refine uB rfl ?_ ?_  | (first | refine uC rfl ?_ | refine uD rfl ?_) | refine uE rfl ?_) | (with_reducible refine uF ?_; first | refine uG rfl ?_ ?_  | (first | refine uH rfl ?_ | refine uI rfl ?_) | refine uJ rfl ?_ | refine uK (uL ?_) | refine uK (uM ?_)) | (with_reducible refine uN ?_; refine uO rfl ?_)) <;> try simp only [ go_sem, reduceIte, jA, jB, jC, jD, reduceCtorEq, jE, jF]) | (with_reducible refine uR ?_; refine uS rfl ?_) | omega))
    refine ret_slot hp (Hp.le_refl _) ⟨?_, rfl⟩
    have : a ≠ b := by rintro rfl; exact he rfl
    simp only [this, go_sem, reduceIte, jA, jB, jC, jD, reduceCtorEq, jE, jF]
  have hc : decide ((i : Int) < (a.length : Int)) = false := decide_eq_false (by omega)
  (repeat' (first | (with_reducible first | refine stp ?_ | refine uP (by decide) ?_ | refine uQ (fun _ => ?_) (fun _ => ?_)) | ((first | (with_reducible refine uA ?_; first | refine uB rfl ?_ ?_  | (first | refine uC rfl ?_ | refine uD rfl ?_) | refine uE rfl ?_) | (with_reducible refine uF ?_; first | refine uG rfl ?_ ?_  | (first | refine uH rfl ?_ | refine uI rfl ?_) | refine uJ rfl ?_ | refine uK (uL ?_) | refine uK (uM ?_)) | (with_reducible refine uN ?_; refine uO rfl ?_)) <;> try simp only [hc, go_sem, reduceIte, jA, jB, jC, jD, reduceCtorEq, jE, jF]) | (with_reducible refine uR ?_; refine uS rfl ?_) | omega))
  rw [← hQ]
  (repeat' (first | (with_reducible first | refine stp ?_ | refine uP (by decide) ?_ | refine uQ (fun _ => ?_) (fun _ => ?_)) | ((first | (with_reducible refine uA ?_; first | refine uB rfl ?_ ?_  | (first | refine uC rfl ?_ | refine uD rfl ?_) | refine uE rfl ?_) | (with_reducible refine uF ?_; first | refine uG rfl ?_ ?_  | (first | refine uH rfl ?_ | refine uI rfl ?_) | refine uJ rfl ?_ | refine uK (uL ?_) | refine uK (uM ?_)) | (with_reducible refine uN ?_; refine uO rfl ?_)) <;> try simp only [ go_sem, reduceIte, jA, jB, jC, jD, reduceCtorEq, jE, jF]) | (with_reducible refine uR ?_; refine uS rfl ?_) | omega))
  refine ret_slot hp (Hp.le_refl _) ⟨?_, rfl⟩
  have : a = b := by
    rw [List.take_of_length_le (by omega), List.take_of_length_le (by omega)] at hno
    exact hno
  simp only [this, go_sem, reduceIte, jA, jB, jC, jD, reduceCtorEq, jE, jF]
end Go.Proofs.Ytmpmngakheoacaa
/-
Which places lead to which, as a table that is worked on in place; tables of functions as lists. Plain laws. No conditions.
-/
namespace Go.Proofs.Ytmpmngakheoacaa
set_option linter.unusedSimpArgs false
set_option linter.unusedVariables false
set_option linter.unusedSectionVars false
open Go.RowKit Go.Sort
def upd (T : Nat → Nat → Bool) (i j : Nat) (b : Bool) : Nat → Nat → Bool := fun x y => if x = i ∧ y = j then b else T x y
def Wsh (E : Nat → Nat → Prop) (n k i j : Nat) (T : Nat → Nat → Bool) : Prop := ∀ x y, x < n → y < n → (T x y = true ↔ if x < i ∨ (x = i ∧ y < j) then Via E (k + 1) x y else Via E k x y)
section
variable {E : Nat → Nat → Prop} {n k i j : Nat} {T : Nat → Nat → Bool}
theorem Wsh.first (h : ∀ x y, x < n → y < n → (T x y = true ↔ E x y)) : Wsh E n 0 0 0 T := fun x y hx hy => by
  rw [if_neg (by omega)]; exact h x y hx hy
theorem Wsh.rowEnd (W : Wsh E n k i n T) : Wsh E n k (i + 1) 0 T := fun x y hx hy => by
  rw [W x y hx hy]
  by_cases e : x < i ∨ (x = i ∧ y < n)
  · rw [if_pos e, if_pos (by omega)]
  rw [if_neg e, if_neg (by omega)]
theorem via_col (x k' : Nat) : Via E (k' + 1) x k' ↔ Via E k' x k' := by
  constructor
  · rintro (h | ⟨h, _⟩) <;> exact h
  exact .inl
theorem via_row (y k' : Nat) : Via E (k' + 1) k' y ↔ Via E k' k' y := by
  constructor
  · rintro (h | ⟨_, h⟩) <;> exact h
  exact .inl
theorem Wsh.col (W : Wsh E n k i j T) (hk : k < n) (x : Nat) (hx : x < n) : T x k = true ↔ Via E k x k := by
  rw [W x k hx hk]; split
  · exact via_col x k
  exact Iff.rfl
theorem Wsh.row (W : Wsh E n k i j T) (hk : k < n) (y : Nat) (hy : y < n) : T k y = true ↔ Via E k k y := by
  rw [W k y hk hy]; split
  · exact via_row y k
  exact Iff.rfl
theorem Wsh.no (W : Wsh E n k i j T) (hk : k < n) (hi : i < n) (h : T i k = false) : Wsh E n k (i + 1) 0 T := fun x y hx hy => by
  have hn : ¬ Via E k i k := fun hv => by rw [(W.col hk i hi).2 hv] at h; cases h
  rw [W x y hx hy]
  by_cases e : x = i
  · subst e
    have he : Via E (k + 1) x y ↔ Via E k x y := ⟨fun hv => hv.elim id fun hv => absurd hv.1 hn, .inl⟩
    rw [if_pos (show x < x + 1 ∨ _ from .inl (by omega))]
    split
    · exact Iff.rfl
    exact he.symm
  by_cases e2 : x < i
  · rw [if_pos (.inl e2), if_pos (.inl (by omega))]
  rw [if_neg (by omega), if_neg (by omega)]
theorem Wsh.step (W : Wsh E n k i j T) (hk : k < n) (hi : i < n) (hj : j < n) (h : T i k = true) : Wsh E n k i (j + 1) (upd T i j (T i j || T k j)) := fun x y hx hy => by
  have hv := (W.col hk i hi).1 h
  by_cases e : x = i ∧ y = j
  · obtain ⟨rfl, rfl⟩ := e
    have h1 := W x y hx hy
    rw [if_neg (by omega)] at h1
    have h2 := W.row hk y hy
    rw [if_pos (.inr ⟨rfl, by omega⟩)]
    unfold upd
    rw [if_pos ⟨rfl, rfl⟩, Bool.or_eq_true, h1, h2]
    constructor
    · rintro (h | h)
      · exact .inl h
      exact .inr ⟨hv, h⟩
    rintro (h | h)
    · exact .inl h
    exact .inr h.2
  unfold upd
  rw [if_neg e, W x y hx hy]
  by_cases e2 : x < i ∨ (x = i ∧ y < j)
  · rw [if_pos e2, if_pos (by omega)]
  rw [if_neg e2, if_neg (by omega)]
theorem Wsh.next (W : Wsh E n k n 0 T) : Wsh E n (k + 1) 0 0 T := fun x y hx hy => by
  rw [W x y hx hy, if_pos (.inl hx), if_neg (by omega)]
theorem Wsh.done (W : Wsh E n n 0 0 T) (hE : ∀ i j, E i j → i < n ∧ j < n) (x y : Nat) (hx : x < n) (hy : y < n) : T x y = true ↔ Plus E x y := by
  rw [W x y hx hy, if_neg (by omega)]
  exact Via.iff hE x y
end

def tabL {α : Type} (n : Nat) (f : Nat → α) : List α := (List.range n).map f
theorem tabL_len {α : Type} (n : Nat) (f : Nat → α) : (tabL n f).length = n := by simp [tabL]
theorem tabL_getD {n i : Nat} (f : Nat → V) (h : i < n) : (tabL n f).getD i (.tup []) = f i := by
  unfold tabL
  rw [List.getD_eq_getElem?_getD, List.getElem?_eq_getElem (by simpa using h)]
  simp
theorem tabL_set {α : Type} {n i : Nat} (f : Nat → α) (v : α) : (tabL n f).set i v = tabL n fun x => if x = i then v else f x := by
  refine List.ext_getElem (by simp [tabL]) fun j h1 h2 => ?_
  rw [List.getElem_set]
  simp only [tabL, List.getElem_map, List.getElem_range]
  by_cases e : i = j
  · simp [e]
  have : ¬ j = i := fun h => e h.symm
  simp [e, this]
theorem tabL_const {α : Type} (n : Nat) (v : α) : List.replicate n v = tabL n fun _ => v := by
  refine List.ext_getElem (by simp [tabL]) fun j h1 h2 => ?_
  simp [tabL]
theorem tabL_congr {α : Type} {n : Nat} {f g : Nat → α} (h : ∀ i, i < n → f i = g i) : tabL n f = tabL n g := by
  unfold tabL
  exact List.map_congr_left fun i hi => h i (by simpa using hi)
/-
The least ones of some paths, as the document sieves them. Plain laws. No conditions.
-/
def gP (l : List Pa) (i : Nat) : Pa := l.getD i Pa.nought
def badB (l : List Pa) (i k : Nat) : Bool := (gP l k).le (gP l i) && (decide (gP l k ≠ gP l i) || decide (k < i))
def keepN (l : List Pa) (i m : Nat) : Bool := !((List.range m).any (badB l i))
def keepB (l : List Pa) (i : Nat) : Bool := keepN l i l.length
theorem keepN_zero (l : List Pa) (i : Nat) : keepN l i 0 = true := rfl
theorem keepN_succ (l : List Pa) (i m : Nat) : keepN l i (m + 1) = (keepN l i m && !(badB l i m)) := by
  simp [keepN, List.range_succ, List.any_append]
def sOf (b : Bool) (l : List Pa) (i : Nat) : List Pa := ((List.range i).filter fun j => keepB l j && (gP l j).n == b).map (gP l)
theorem sOf_zero (b : Bool) (l : List Pa) : sOf b l 0 = [] := rfl
theorem sOf_succ (b : Bool) (l : List Pa) (i : Nat) : sOf b l (i + 1) = sOf b l i ++ (if (keepB l i && (gP l i).n == b) = true then [gP l i] else []) := by
  unfold sOf
  rw [List.range_succ, List.filter_append, List.map_append]
  congr 1
  split
  · rename_i h; rw [List.filter_cons, if_pos h]; rfl
  rename_i h; rw [List.filter_cons, if_neg h]; rfl
def sieveL (l : List Pa) : List Pa := sOf false l l.length ++ sOf true l l.length
theorem sOf_len (b : Bool) (l : List Pa) (i : Nat) : (sOf b l i).length ≤ i := by
  unfold sOf
  rw [List.length_map]
  exact Nat.le_trans (List.length_filter_le _ _) (by simp)
theorem gP_mem {l : List Pa} {i : Nat} (h : i < l.length) : gP l i ∈ l := by
  unfold gP
  rw [List.getD_eq_getElem?_getD, List.getElem?_eq_getElem h]
  exact List.getElem_mem _
theorem keepB_iff (l : List Pa) (i : Nat) : keepB l i = true ↔ ∀ k, k < l.length → badB l i k = false := by
  unfold keepB keepN
  simp
theorem keep_anti {l : List Pa} {i j : Nat} (hi : i < l.length) (hj : j < l.length) (ki : keepB l i = true) (kj : keepB l j = true) (hij : i ≠ j) : (gP l i).le (gP l j) = false := by
  cases e : (gP l i).le (gP l j) with
  | false => rfl
  | true =>
    have h1 := (keepB_iff l j).1 kj i hi
    have h2 := (keepB_iff l i).1 ki j hj
    unfold badB at h1 h2
    rw [e, Bool.true_and, Bool.or_eq_false_iff] at h1
    have h3 : gP l i = gP l j := by
      have := of_decide_eq_false h1.1
      exact Classical.byContradiction this
    have h4 := of_decide_eq_false h1.2
    rw [h3, Pa.le_refl, Bool.true_and, Bool.or_eq_false_iff] at h2
    have := of_decide_eq_false h2.2
    omega
theorem keep_one {l : List Pa} {i j : Nat} (hi : i < l.length) (hj : j < l.length) (ki : keepB l i = true) (kj : keepB l j = true) (hn : (gP l i).n = (gP l j).n) : i = j := by
  refine Classical.byContradiction fun hij => ?_
  rcases Int.le_total (gP l i).a (gP l j).a with h | h
  · have := le_of_same hn h
    rw [keep_anti hi hj ki kj hij] at this
    cases this
  have := le_of_same hn.symm h
  rw [keep_anti hj hi kj ki (fun e => hij e.symm)] at this
  cases this
theorem sOf_mem {b : Bool} {l : List Pa} {x : Pa} : x ∈ sOf b l l.length ↔ ∃ i, i < l.length ∧ keepB l i = true ∧ (gP l i).n = b ∧ gP l i = x := by
  unfold sOf
  simp only [List.mem_map, List.mem_filter, List.mem_range, Bool.and_eq_true, beq_iff_eq]
  constructor
  · rintro ⟨i, ⟨h1, h2, h3⟩, h4⟩; exact ⟨i, h1, h2, h3, h4⟩
  rintro ⟨i, h1, h2, h3, h4⟩; exact ⟨i, ⟨h1, h2, h3⟩, h4⟩
theorem sOf_pair (b : Bool) (l : List Pa) (R : Pa → Pa → Prop) : (sOf b l l.length).Pairwise R := by
  unfold sOf
  rw [List.pairwise_map]
  have h1 : ((List.range l.length).filter fun j => keepB l j && (gP l j).n == b).Pairwise (· < ·) := (List.pairwise_lt_range).filter _
  refine h1.imp_of_mem fun {i j} hi hj hlt => ?_
  simp only [List.mem_filter, List.mem_range, Bool.and_eq_true, beq_iff_eq] at hi hj
  have := keep_one hi.1 hj.1 hi.2.1 hj.2.1 (hi.2.2.trans hj.2.2.symm)
  omega
theorem sieve_least {l : List Pa} (h0 : ∀ p ∈ l, 0 ≤ p.a) : Least1 l (sieveL l) := by
  refine ⟨List.pairwise_append.2 ⟨sOf_pair _ _ _, sOf_pair _ _ _, fun x hx y hy => ?_⟩, fun p hp => ?_, fun p hp => ?_⟩
  · obtain ⟨i, hi, ki, ni, rfl⟩ := sOf_mem.1 hx
    obtain ⟨j, hj, kj, nj, rfl⟩ := sOf_mem.1 hy
    refine ⟨ni, nj, ?_⟩
    have := keep_anti hj hi kj ki (fun e => by subst e; rw [ni] at nj; cases nj)
    simp [Pa.le, nj] at this
    exact this
  · rcases List.mem_append.1 hp with hp | hp <;> obtain ⟨i, hi, _, _, rfl⟩ := sOf_mem.1 hp <;> exact gP_mem hi
  obtain ⟨i0, hi0, e0⟩ := List.getElem_of_mem hp
  have eg : gP l i0 = p := by
    unfold gP
    rw [List.getD_eq_getElem?_getD, List.getElem?_eq_getElem hi0]
    exact e0
  let M : Pa → Nat := fun q => 2 * q.a.toNat + (if q.n = true then 0 else 1)
  obtain ⟨m, ⟨i, hi, hle, rfl⟩, hmin⟩ := min_ex (fun m => ∃ i, i < l.length ∧ (gP l i).le p = true ∧ M (gP l i) * (l.length + 1) + i = m) _ ⟨i0, hi0, by rw [eg]; exact Pa.le_refl p, rfl⟩
  have kp : keepB l i = true := by
    refine (keepB_iff l i).2 fun k hk => ?_
    cases eb : badB l i k with
    | false => rfl
    | true =>
      exfalso
      unfold badB at eb
      rw [Bool.and_eq_true, Bool.or_eq_true, decide_eq_true_eq, decide_eq_true_eq] at eb
      obtain ⟨h1, h2⟩ := eb
      have h3 := hmin _ ⟨k, hk, Pa.le_trans h1 hle, rfl⟩
      by_cases e : gP l k = gP l i
      · rw [e] at h3
        rcases h2 with h2 | h2
        · exact h2 e
        omega
      have a1 := h0 _ (gP_mem hk)
      have a2 := h0 _ (gP_mem hi)
      have hM : M (gP l k) + 1 ≤ M (gP l i) := by
        simp only [M]
        revert h1 e a1 a2
        generalize gP l k = q
        generalize gP l i = r
        obtain ⟨n, a⟩ := q; obtain ⟨o, c⟩ := r
        intro h1 e a1 a2
        cases n <;> cases o <;> simp [Pa.le] at * <;> omega
      have := Nat.mul_le_mul_right (l.length + 1) hM
      rw [Nat.add_mul] at this
      omega
  refine ⟨gP l i, ?_, hle⟩
  cases en : (gP l i).n with
  | false => exact List.mem_append_left _ (sOf_mem.2 ⟨i, hi, kp, en, rfl⟩)
  | true => exact List.mem_append_right _ (sOf_mem.2 ⟨i, hi, kp, en, rfl⟩)
end Go.Proofs.Ytmpmngakheoacaa
/-
Contracts of the document's functions on ways and paths (corollaryref22, corollaryref20). No conditions.
-/
namespace Go.Proofs.Ytmpmngakheoacaa
open Go.Proofs.Ytmpmngakheoacaa renaming lops_id → uA, lops_go2 → uB, lops_guardT → uC, lops_guardF → uD, lops_guard_no → uE, dops_id → uF, dops_go1 → uG, dops_guardT → uH, dops_guardF → uI, dops_guard_no → uJ, dops_nil → uK, drawQ_nil → uL, drawQ_tl → uM, cond_id → uN, lwp_condB → uO, blockQ_other → uP, condG_s → uQ, draw_id → uR, lwp_draw → uS
open Nat renaming reduceAdd → jA, reduceSub → jB, reduceLT → jC, reduceLeDiff → jD, reduceEqDiff → jE
open Int renaming reduceToNat → jF, toNat_natCast → jG, natCast_add → jH, natCast_one → jI, natCast_zero → jJ
open List renaming length_map → jK, length_cons → jL, length_nil → jM, replicate_succ → jN, replicate_zero → jO, cons_append → jP, nil_append → jQ
set_option linter.unusedSimpArgs false
set_option linter.unusedVariables false
set_option linter.unusedSectionVars false
open Go.RowKit Go.Sort
attribute [local irreducible] IntKind.wrap
attribute [local go_sem] Option.some.injEq Prod.mk.injEq false_and and_false Bool.true_eq_false dRun dRest dbare dMerge nones if_true Bool.true_and dgoC dgoCRest fillV okAll nextAll LOper.ok LOper.next LOp.ok LOp.next LVal.ok LVal.out LArg.ev putV binOK pick_true pick_false pick_bool V.undef Sh.size addHp dokAll dnextAll LOper.dok LOper.dres LOp.dok LOp.dout dput conOK veqL leafEq List.take_succ_cons List.take_zero List.take_nil List.drop_succ_cons List.drop_zero List.drop_nil List.set_cons_succ List.set_cons_zero List.getD_cons_succ List.getD_cons_zero jL jM List.map_cons List.map_nil List.all_cons List.all_nil List.mem_cons List.not_mem_nil jN jO jP jQ List.append_nil List.isEmpty_cons List.isEmpty_nil appOwn appHp appOK Option.getD_some Option.isSome_some Option.isSome_none Nat.add_eq Nat.zero_add Nat.add_zero true_and and_true and_self true_implies implies_true false_implies forall_const forall_eq forall_eq_or_imp ne_eq not_false_eq_true not_true_eq_false Bool.not_true Bool.not_false decide_true decide_false Bool.and_true Bool.true_and Bool.and_false Bool.false_and true_or or_true false_or or_false eq_self Bool.false_eq_true nxNe nxNe' tupOf mkFrom bval ogive cutOwn cutE_nil cutE_full cutE_tok cutE_free_nil cutE_free_cons selems jG Int.toNat_zero List.take_length Hp.set_app Hp.del_app goOps goRest LOper.plain LOp.isCall LOper.dplain LOp.isStop lops_nil gRun gRest bare gMerge V.gd_true V.gd_false pick_gd pick_gdn pick_and pick_or partOK_self loadPart_self storePart_self dgoOps dgoRest beq_true beq_false partOK_ll partOK_al partOK_aa loadPart_l loadPart_a storePart_la storePart_aa fits_leaf fits_agg leafy_bool leafy_int leafy_str leafy_nilPtr leafy_ptr leafy_ept leafy_sl leafy_rs leafy_nilMap leafy_map leafy_nilChan leafy_chan leafy_fn leafy_nilFn leafy_yld leafy_iface leafy_nilIface veq_aa veq_li veq_lb veq_ls cells_agg cells_leaf cell_agg cell_leaf veq_ptr1 veq_ptr2 veq_ptr3 veq_ptr4 veq_ptr5 veq_slice1 veq_slice2 veq_func1 veq_func2 veq_func3 veq_iface1 veq_iface2 veq_iface3 veq_map1 veq_map2 veq_map3 veq_chan1 veq_chan2 veq_chan3 conAt_add conAt_zero untaken wrHp Hp.turn delHp Option.isNone_some Option.isNone_none nxFq goOps2 goRest2 LOper.plain2 LOp.isApp ltNe ltNe1 ltNe' ltNe1' delO_nil delO_tok
theorem rpathAtMost_pure (p q : Pa) (h : Hp) : Pure Try.prog 57 [p.v, q.v] h (.bool (p.le q)) := by
  refine pure_of (fun L => trivial) fun h' nx hh => acalls_walk L.corollaryref20_PathAtMost_low fun hd => ?_
  obtain ⟨n, a⟩ := p
  obtain ⟨m, b⟩ := q
  simp only [jL, jM, jA, jB, jN, jO, jP, jQ, V.undef]
  cases n <;> cases m <;> (repeat' (first | (with_reducible first | refine stp ?_ | refine uP (by decide) ?_ | refine uQ (fun _ => ?_) (fun _ => ?_)) | ((first | (with_reducible refine uA ?_; first | refine uB rfl ?_ ?_  | (first | refine uC rfl ?_ | refine uD rfl ?_) | refine uE rfl ?_) | (with_reducible refine uF ?_; first | refine uG rfl ?_ ?_  | (first | refine uH rfl ?_ | refine uI rfl ?_) | refine uJ rfl ?_ | refine uK (uL ?_) | refine uK (uM ?_)) | (with_reducible refine uN ?_; refine uO rfl ?_)) <;> try simp only [Pa.v, go_sem, reduceIte, jA, jB, jC, jD, reduceCtorEq, jE, jF]) | (with_reducible refine uR ?_; refine uS rfl ?_) | omega))
  all_goals refine ret_slot h' (by repeat (first | exact Hp.le_refl _ | refine le_of_fresh hd ?_ (by omega) _ | refine le_of_freshd hd ?_ (by omega))) ⟨?_, rfl⟩
  all_goals simp [Pa.le]
theorem ok_sum {n m : Bool} {a b : Int} (h1 : Pa.ok ⟨n, a⟩ = true) (h2 : Pa.ok ⟨m, b⟩ = true) : Pa.ok ⟨n, a + b⟩ = decide (a + b ≤ 1048576) := by
  simp only [Pa.ok, Bool.and_eq_true, decide_eq_true_eq] at h1 h2 ⊢
  by_cases e : a + b ≤ 1048576
  · simp [e]; omega
  simp [e]
theorem rpthen_pure (p q : Pa) (h : Hp) : Pure Try.prog 41 [p.v, q.v] h (.tup [(p.then q).1.v, .int .i64 (p.then q).2]) := by
  refine pure_of (fun L => by simp [V.names, namesL, Pa.v]) fun h' nx hh => acalls_walk L.corollaryref20_Then_low fun hd => ?_
  obtain ⟨n, a⟩ := p
  obtain ⟨m, b⟩ := q
  have hw := then_wrap ⟨n, a⟩ ⟨m, b⟩
  simp only [jL, jM, jA, jB, jN, jO, jP, jQ, V.undef]
  (repeat' (first | (with_reducible first | refine stp ?_ | refine uP (by decide) ?_ | refine uQ (fun _ => ?_) (fun _ => ?_)) | ((first | (with_reducible refine uA ?_; first | refine uB rfl ?_ ?_ | refine lops_pure (rrightPath_pure ⟨_, _⟩ _) rfl (has_refl _) ?_ | (first | refine uC rfl ?_ | refine uD rfl ?_) | refine uE rfl ?_) | (with_reducible refine uF ?_; first | refine uG rfl ?_ ?_  | (first | refine uH rfl ?_ | refine uI rfl ?_) | refine uJ rfl ?_ | refine uK (uL ?_) | refine uK (uM ?_)) | (with_reducible refine uN ?_; refine uO rfl ?_)) <;> try simp only [Pa.v, go_sem, reduceIte, jA, jB, jC, jD, reduceCtorEq, jE, jF]) | (with_reducible refine uR ?_; refine uS rfl ?_) | omega))
  all_goals refine ret_cell_slot (by simp only [go_sem, reduceIte, jA, jB, jC, jD, reduceCtorEq, jE, jF]) h' (by repeat (first | exact Hp.le_refl _ | refine le_of_fresh hd ?_ (by omega) _ | refine le_of_freshd hd ?_ (by omega))) ⟨?_, rfl⟩
  all_goals simp only [go_sem, reduceIte, jA, jB, jC, jD, reduceCtorEq, jE, jF]
  all_goals cases hp : Pa.ok ⟨n, a⟩ <;> cases ht : Pa.ok ⟨m, b⟩ <;> (try have hsum := ok_sum hp ht) <;> simp_all [Pa.then, Pa.nought]
theorem less_pure (p q : Wy) (h : Hp) : Pure Try.prog 53 [p.v, q.v] h (.bool (p.less q)) := by
  refine pure_of (fun L => trivial) fun h' nx hh => acalls_walk L.corollaryref22_Less_low fun hd => ?_
  obtain ⟨f, t, n, a⟩ := p
  obtain ⟨f', t', m, b⟩ := q
  simp only [jL, jM, jA, jB, jN, jO, jP, jQ, V.undef]
  cases n <;> cases m <;> (repeat' (first | (with_reducible first | refine stp ?_ | refine uP (by decide) ?_ | refine uQ (fun _ => ?_) (fun _ => ?_)) | ((first | (with_reducible refine uA ?_; first | refine uB rfl ?_ ?_  | (first | refine uC rfl ?_ | refine uD rfl ?_) | refine uE rfl ?_) | (with_reducible refine uF ?_; first | refine uG rfl ?_ ?_  | (first | refine uH rfl ?_ | refine uI rfl ?_) | refine uJ rfl ?_ | refine uK (uL ?_) | refine uK (uM ?_)) | (with_reducible refine uN ?_; refine uO rfl ?_)) <;> try simp only [Wy.v, go_sem, reduceIte, jA, jB, jC, jD, reduceCtorEq, jE, jF]) | (with_reducible refine uR ?_; refine uS rfl ?_) | omega))
  all_goals refine ret_slot h' (by repeat (first | exact Hp.le_refl _ | refine le_of_fresh hd ?_ (by omega) _ | refine le_of_freshd hd ?_ (by omega))) ⟨?_, rfl⟩
  all_goals simp only [Wy.less, num, go_sem, reduceIte, jA, jB, jC, jD, reduceCtorEq, jE, jF]
  all_goals simp_all
  all_goals omega
/-
Contract of the document's Put: a way put into a list in order. No conditions.
-/
theorem conAt_add2 {h0 : Hp} {x a d c : Nat} {deps : List Nat} {adds : List (Option Blk)} {cons : List (Option Con)} {b : Blk} (e : c = a + d) (hd : d ∈ deps) (ha : adds.getD d none = some b) (hu : untaken (x + c) cons) : conAt h0 (x + a) deps adds cons (x + c) b := ⟨hu, .inr ⟨d, hd, by omega, ha⟩⟩
theorem rput_walk (o : Own) (l : List Wy) (w : Wy) (hl : l.length ≤ 100000) (h' : Hp) (nx : Nat) :
    ACalls Try.prog 35 [wys o l, w.v] h' nx fun v h'' nx2 => (v = wys o (insL Wy.less l w) ∧ h'' = h' ∧ l ≠ []) ∨ (∃ id, nx ≤ id ∧ id < nx2 ∧ v = wys (.tok id) (insL Wy.less l w) ∧ h'' = h'.set id .tip) := by
  refine acalls_walk L.corollaryref22_Put_low fun hd => ?_
  simp only [jL, jM, jA, jB, jN, jO, jP, jQ, V.undef]
  (repeat' (first | (with_reducible first | refine stp ?_ | refine uP (by decide) ?_ | refine uQ (fun _ => ?_) (fun _ => ?_)) | ((first | (with_reducible refine uA ?_; first | refine uB rfl ?_ ?_  | (first | refine uC rfl ?_ | refine uD rfl ?_) | refine uE rfl ?_) | (with_reducible refine uF ?_; first | refine uG rfl ?_ ?_  | (first | refine uH rfl ?_ | refine uI rfl ?_) | refine uJ rfl ?_ | refine uK (uL ?_) | refine uK (uM ?_)) | (with_reducible refine uN ?_; refine uO rfl ?_)) <;> try simp only [Wy.fits_v w, go_sem, reduceIte, jA, jB, jC, jD, reduceCtorEq, jE, jF]) | (with_reducible refine uR ?_; refine uS rfl ?_) | omega))
  refine lwp_loopM (fun i : Nat => mkFrom 45 0 [(0, wys o l), (3, .ptr nx (.agg 4) 0 0), (5, .int .i64 i)])
    (fun i hp nx1 => i ≤ l.length ∧ nx + 1 ≤ nx1 ∧ DomB hp nx1 ∧ hp = h'.set nx (.arr (.agg 4) [w.v]) ∧ ∀ j (hj : j < i) (hj' : j < l.length), l[j].less w = true)
    (fun i => l.length - i) 0 ⟨Nat.zero_le _, Nat.le_refl _, (by (try dsimp only); repeat (first | exact DomB.up hd (by omega) | refine DomB.set2 ?_ (by omega) _ | refine DomB.del ?_ | refine DomB.delO ?_ _)), rfl, fun j hj => absurd hj (by omega)⟩ ?_ ?_
  · simp only [WkL, mkFrom, jH, jI, jJ, wys, go_sem, reduceIte, jA, jB, jC, jD, reduceCtorEq, jE, jF]
  rintro i hp nx1 ⟨hi, hnx, hdm, rfl, hles⟩
  generalize hQ : roundM _ _ _ _ _ = Q0
  have hlt0 : nx < nx1 := by omega
  have hta : ((l.map Wy.v).take i).length = i := by simp; omega
  have htb : ((l.map Wy.v).take i ++ [w.v]).length = i + 1 := by simp; omega
  have hb1 : (i + 1) * 32 ≤ 140737488355328 := by omega
  have ca1 : ∀ H, conAt H (nx1 + 24) [0, 1, 2, 3, 4, 5, 6] [some Blk.tip, none, none, none, some Blk.tip, none, some Blk.tip] [none, none, none, none, some { n := nx1 + 24, old := Blk.tip, new := none }, none, none] (nx1 + 28) Blk.tip := fun H => conAt_add2 (d := 4) rfl (by decide) rfl ⟨by simp, trivial⟩
  have ca2 : ∀ H, conAt H (nx1 + 24) [0, 1, 2, 3, 4, 5, 6, 7, 8, 9, 10] [some Blk.tip, none, none, none, some Blk.tip, none, some Blk.tip, some Blk.tip, none, none, none] [none, none, none, none, some { n := nx1 + 24, old := Blk.tip, new := none }, none, none, some { n := nx1 + 28, old := Blk.tip, new := none }, none, none, none] (nx1 + 31) Blk.tip := fun H => conAt_add2 (d := 7) rfl (by decide) rfl ⟨by simp, by simp, trivial⟩
  simp only [mkFrom, go_sem, reduceIte, jA, jB, jC, jD, reduceCtorEq, jE, jF]
  rcases Nat.lt_or_ge i l.length with hlt | hge
  · have hc : decide ((i : Int) < (l.length : Int)) = true := by simpa using hlt
    have hg := getD_map' Wy.v l i hlt
    have hw : IntKind.i64.wrap ((i : Int) + 1) = ((i + 1 : Nat) : Int) := by rw [wrap_in] <;> omega
    cases hls : l[i].less w with
    | true =>
      (repeat' (first | (with_reducible first | refine stp ?_ | refine uP (by decide) ?_ | refine uQ (fun _ => ?_) (fun _ => ?_)) | ((first | (with_reducible refine uA ?_; first | refine uB rfl ?_ ?_  | (first | refine uC rfl ?_ | refine uD rfl ?_) | refine uE rfl ?_) | (with_reducible refine uF ?_; first | refine uG rfl ?_ ?_ | refine dops_pure (less_pure l[i] w _) rfl (none_has _) ?_ | (first | refine uH rfl ?_ | refine uI rfl ?_) | refine uJ rfl ?_ | refine uK (uL ?_) | refine uK (uM ?_)) | (with_reducible refine uN ?_; refine uO rfl ?_)) <;> try simp only [hc, hg, hlt, hw, hls, hlt0, Wy.fits_v, jK, go_sem, reduceIte, jA, jB, jC, jD, reduceCtorEq, jE, jF]) | (with_reducible refine uR ?_; refine uS rfl ?_) | omega))
      rw [← hQ]
      refine roundM_normal (i + 1) (by omega) ⟨hlt, by omega, (by (try dsimp only); repeat (first | exact DomB.up hdm (by omega) | refine DomB.set2 ?_ (by omega) _ | refine DomB.del ?_ | refine DomB.delO ?_ _)), rfl, fun j hj hj' => ?_⟩ ?_
      · rcases Nat.lt_or_ge j i with h | h
        · exact hles j h hj'
        have : j = i := by omega
        subst this; exact hls
      simp only [WkL, mkFrom, jH, jI, jJ, wys, go_sem, reduceIte, jA, jB, jC, jD, reduceCtorEq, jE, jF]
    | false =>
      have hput := insL_at (lt := Wy.less) (w := w) i hi hles (fun _ => hls)
      (repeat' (first | (with_reducible first | refine stp ?_ | refine uP (by decide) ?_ | refine uQ (fun _ => ?_) (fun _ => ?_)) | ((first | (with_reducible refine uA ?_; first | refine uB rfl ?_ ?_  | (first | refine uC rfl ?_ | refine uD rfl ?_) | refine uE rfl ?_) | (with_reducible refine uF ?_; first | refine uG rfl ?_ ?_ | refine dops_pure (less_pure l[i] w _) rfl (none_has _) ?_ | (first | refine uH rfl ?_ | refine uI rfl ?_) | refine uJ rfl ?_ | refine uK (uL ?_) | refine uK (uM ?_)) | (with_reducible refine uN ?_; refine uO rfl ?_)) <;> try simp only [hc, hg, hlt, hw, hls, hlt0, Wy.fits_v, jK, go_sem, reduceIte, jA, jB, jC, jD, reduceCtorEq, jE, jF]) | (with_reducible refine uR ?_; refine uS rfl ?_) | omega))
      rw [← hQ]
      (repeat' (first | (with_reducible first | refine stp ?_ | refine uP (by decide) ?_ | refine uQ (fun _ => ?_) (fun _ => ?_)) | ((first | (with_reducible refine uA ?_; first | refine uB rfl ?_ ?_  | (first | refine uC rfl ?_ | refine uD rfl ?_) | refine uE rfl ?_) | (with_reducible refine uF ?_; first | refine uG rfl ?_ ?_  | (first | refine uH rfl ?_ | refine uI rfl ?_) | refine uJ rfl ?_ | refine uK (uL ?_) | refine uK (uM ?_)) | (with_reducible refine uN ?_; refine uO rfl ?_)) <;> try simp only [hc, hg, hlt, hw, hls, hlt0, Wy.fits_v, veq_wy, Option.isSome_some, Option.getD_some, hta, htb, hb1, ca1, ca2, List.length_drop, List.length_take, true_and, and_true, jK, go_sem, reduceIte, jA, jB, jC, jD, reduceCtorEq, jE, jF]) | (with_reducible refine uR ?_; refine uS rfl ?_) | omega))
      · rename_i hx
        refine ret_slot h' (by repeat (first | exact Hp.le_refl _ | refine le_of_fresh hd ?_ (by omega) _ | refine le_of_freshd hd ?_ (by omega))) (.inl ⟨?_, rfl, fun e => by rw [e] at hlt; simp at hlt⟩)
        simp only [go_sem, reduceIte, jA, jB, jC, jD, reduceCtorEq, jE, jF]
        rw [hput, if_pos (by rw [List.getElem?_eq_getElem hlt, of_decide_eq_true hx])]
      rename_i hx
      refine ret_slot (h'.set (nx1 + 35) .tip) ?_ (.inr ⟨nx1 + 35, by omega, by dsimp only; omega, ?_, rfl⟩)
      · intro x b hx
        by_cases e : x = nx1 + 35
        · subst e; simp only [go_sem, reduceIte, jA, jB, jC, jD, reduceCtorEq, jE, jF] at hx ⊢; exact hx
        have hx' : h' x = some b := by unfold Hp.set at hx; rwa [if_neg e] at hx
        have := hd x b hx'
        have e1 : (x = nx) = False := eq_false (by omega)
        have e2 : (x = nx1 + 24) = False := eq_false (by omega)
        have e3 : (x = nx1 + 28) = False := eq_false (by omega)
        have e4 : (x = nx1 + 30) = False := eq_false (by omega)
        have e5 : (x = nx1 + 31) = False := eq_false (by omega)
        simp only [e, e1, e2, e3, e4, e5, go_sem, reduceIte, jA, jB, jC, jD, reduceCtorEq, jE, jF]; exact hx'
      simp only [go_sem, reduceIte, jA, jB, jC, jD, reduceCtorEq, jE, jF]
      rw [hput, if_neg (by rw [List.getElem?_eq_getElem hlt]; intro e; injection e with e; exact of_decide_eq_false hx e)]
      have htl : List.take l.length (l.map Wy.v) = l.map Wy.v := List.take_of_length_le (by simp)
      simp [htl]
  have hc : decide ((i : Int) < (l.length : Int)) = false := by simpa using hge
  have hput := insL_at (lt := Wy.less) (w := w) i hi hles (fun h => absurd h (by omega))
  (repeat' (first | (with_reducible first | refine stp ?_ | refine uP (by decide) ?_ | refine uQ (fun _ => ?_) (fun _ => ?_)) | ((first | (with_reducible refine uA ?_; first | refine uB rfl ?_ ?_  | (first | refine uC rfl ?_ | refine uD rfl ?_) | refine uE rfl ?_) | (with_reducible refine uF ?_; first | refine uG rfl ?_ ?_  | (first | refine uH rfl ?_ | refine uI rfl ?_) | refine uJ rfl ?_ | refine uK (uL ?_) | refine uK (uM ?_)) | (with_reducible refine uN ?_; refine uO rfl ?_)) <;> try simp only [hc, jK, go_sem, reduceIte, jA, jB, jC, jD, reduceCtorEq, jE, jF]) | (with_reducible refine uR ?_; refine uS rfl ?_) | omega))
  rw [← hQ]
  (repeat' (first | (with_reducible first | refine stp ?_ | refine uP (by decide) ?_ | refine uQ (fun _ => ?_) (fun _ => ?_)) | ((first | (with_reducible refine uA ?_; first | refine uB rfl ?_ ?_  | (first | refine uC rfl ?_ | refine uD rfl ?_) | refine uE rfl ?_) | (with_reducible refine uF ?_; first | refine uG rfl ?_ ?_  | (first | refine uH rfl ?_ | refine uI rfl ?_) | refine uJ rfl ?_ | refine uK (uL ?_) | refine uK (uM ?_)) | (with_reducible refine uN ?_; refine uO rfl ?_)) <;> try simp only [hc, hlt0, Wy.fits_v, veq_wy, Option.isSome_some, Option.getD_some, hta, htb, hb1, ca1, ca2, List.length_drop, List.length_take, true_and, and_true, jK, go_sem, reduceIte, jA, jB, jC, jD, reduceCtorEq, jE, jF]) | (with_reducible refine uR ?_; refine uS rfl ?_) | omega))
  refine ret_slot (h'.set (nx1 + 35) .tip) ?_ (.inr ⟨nx1 + 35, by omega, by dsimp only; omega, ?_, rfl⟩)
  · intro x b hx
    by_cases e : x = nx1 + 35
    · subst e; simp only [go_sem, reduceIte, jA, jB, jC, jD, reduceCtorEq, jE, jF] at hx ⊢; exact hx
    have hx' : h' x = some b := by unfold Hp.set at hx; rwa [if_neg e] at hx
    have := hd x b hx'
    have e1 : (x = nx) = False := eq_false (by omega)
    have e2 : (x = nx1 + 24) = False := eq_false (by omega)
    have e3 : (x = nx1 + 28) = False := eq_false (by omega)
    have e4 : (x = nx1 + 30) = False := eq_false (by omega)
    have e5 : (x = nx1 + 31) = False := eq_false (by omega)
    simp only [e, e1, e2, e3, e4, e5, go_sem, reduceIte, jA, jB, jC, jD, reduceCtorEq, jE, jF]; exact hx'
  simp only [go_sem, reduceIte, jA, jB, jC, jD, reduceCtorEq, jE, jF]
  rw [hput, if_neg (by rw [List.getElem?_eq_none (by omega)]; simp)]
  have htl : List.take l.length (l.map Wy.v) = l.map Wy.v := List.take_of_length_le (by simp)
  simp [htl]
end Go.Proofs.Ytmpmngakheoacaa
/-
The abstract layer: of a call's many results, less is known. No program in sight. No conditions.
-/
namespace Go.Proofs.Ytmpmngakheoacaa
set_option linter.unusedSimpArgs false
set_option linter.unusedVariables false
set_option linter.unusedSectionVars false
open Go.RowKit
def V.loose2 : V → V
  | .tup vs => .tup (vs.map V.loose)
  | v => v.loose
theorem VR.loose2 {K : Ker} {v : V} {cv : Value} (r : VR K v cv) : VR K v.loose2 cv := by
  cases v with
  | tup vs =>
    cases r with
    | tup _ ccs hl hv =>
      refine .tup _ ccs (by simpa using hl) fun i hi => ?_
      have hi' : i < vs.length := by simpa using hi
      have := hv i hi'
      simp only [List.getD_eq_getElem?_getD, List.getElem?_map, List.getElem?_eq_getElem hi', Option.map_some, Option.getD_some] at this ⊢
      exact this.loose
  | _ => exact r.loose
theorem ACalls.conv2 {P : Program} {f : FuncId} {args : List V} {h : Hp} {nx : Nat} {R R' : V → Hp → Nat → Prop} (c : ACalls P f args h nx R) (hc : ∀ v h' nx', nx ≤ nx' → DomB h' nx' → R v h' nx' → ∃ h2, h2.le h' ∧ R' v.loose2 h2 nx') : ACalls P f args h nx R' := by
  refine ⟨c.1, fun K cargs hl hr hv => (c.2 K cargs hl hr hv).mono ?_⟩
  rintro e w' ⟨K', v, cv, h', nx', rfl, he, hle, hvr, hrel, hlv, hnx, hR⟩
  obtain ⟨h2, q1, q2⟩ := hc v h' nx' hnx (fun m b hm => (hlv m (hrel.lt m b hm)).1) hR
  exact ⟨K', v.loose2, cv, h2, nx', rfl, he, hle, hvr.loose2, hrel.weaken q1, hlv, hnx, q2⟩
theorem pure_of_loose2 {P : Program} {f : FuncId} {args : List V} {h : Hp} {v : V} (hv : ∀ L, v.names L) (hc : ∀ h' nx, h.has h' → ACalls P f args h' nx fun v' h'' _ => v'.loose2 = v ∧ h'.le h'') : Pure P f args h v :=
  pure_of hv fun h' nx hh => (hc h' nx hh).conv2 fun v' h'' nx' _ _ hq => ⟨h', hq.2, hq.1, rfl⟩
end Go.Proofs.Ytmpmngakheoacaa
