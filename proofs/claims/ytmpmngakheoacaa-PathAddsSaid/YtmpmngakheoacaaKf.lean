/-
Texts of this proof, one behind the other. No conditions.
-/
import Derived.Test.YtmpmngakheoacaaKLow
import Derived.Test.YtmpmngakheoacaaKe
/-
Contracts of package stamp and of the document's times. No conditions.
-/
namespace Go.Proofs.Ytmpmngakheoacaa
set_option linter.unusedSimpArgs false
set_option linter.unusedVariables false
set_option linter.unusedSectionVars false
open Go.RowKit
attribute [local go_sem] okAll nextAll LOper.ok LOper.next LOp.ok LOp.next LVal.ok LVal.out LArg.ev putV binOK pick_true pick_false pick_bool V.fits V.leafy V.cells V.cell V.undef partOK loadPart storePart Sh.size Hp.set Hp.del addHp delHp dokAll dnextAll LOper.dok LOper.dres LOp.dok LOp.dout dput conOK conAt untaken wrHp Hp.turn veq veqL leafEq List.take_succ_cons List.take_zero List.take_nil List.drop_succ_cons List.drop_zero List.drop_nil List.set_cons_succ List.set_cons_zero List.getD_cons_succ List.getD_cons_zero List.length_cons List.length_nil List.map_cons List.map_nil List.all_cons List.all_nil List.mem_cons List.not_mem_nil List.replicate_succ List.replicate_zero List.cons_append List.nil_append List.append_nil List.isEmpty_cons List.isEmpty_nil appOwn appHp appOK Option.getD_some Option.isSome_some Option.isSome_none Nat.add_eq Nat.zero_add Nat.add_zero true_and and_true and_self true_implies implies_true false_implies forall_const forall_eq forall_eq_or_imp ne_eq not_false_eq_true not_true_eq_false Bool.not_true Bool.not_false decide_true decide_false Bool.and_true Bool.true_and Bool.and_false Bool.false_and true_or or_true false_or or_false eq_self Bool.false_eq_true nxNe nxNe' tupOf mkFrom bval ogive cutOwn cutE_nil cutE_full cutE_tok cutE_free_nil cutE_free_cons selems Int.toNat_natCast Int.toNat_zero List.take_length

/-- A time. -/
structure Tm where
  e : Int
  r : Int
  deriving DecidableEq, Inhabited
def Tm.v (t : Tm) : V := .agg [.int .i64 t.e, .int .i64 t.r]
theorem Tm.names_v (L : Nat → Prop) (t : Tm) : t.v.names L := by simp [Tm.v, V.names, namesL]
def Tm.le (a b : Tm) : Bool := decide (a.e ≤ b.e) && decide (a.r ≤ b.r)
def Tm.ok (t : Tm) : Bool := decide (0 ≤ t.e) && decide (t.e ≤ 1048576) && (decide (0 ≤ t.r) && decide (t.r ≤ 1048576))
def Tm.less (a b : Tm) : Bool := decide (a.e < b.e) || (decide (a.e = b.e) && decide (a.r < b.r))

theorem within_pure (n m : Int) (h : Hp) : Pure Try.prog 56 [.int .i64 n, .int .i64 m] h (.bool (decide (0 ≤ n) && decide (n ≤ m))) := by
  refine pure_of (fun L => trivial) fun h' nx hh => acalls_walk L.stamp_within_low fun hd => ?_
  simp only [List.length_cons, List.length_nil, Nat.reduceAdd, Nat.reduceSub, List.replicate_succ, List.replicate_zero, List.cons_append, List.nil_append, V.undef]
  by_cases h0 : 0 ≤ n
  all_goals
    refine lwp_seq (lwp_ops ?_)
    refine lops_take 1 rfl (by simp only [L.stamp_within_r0,  go_sem, reduceIte, Nat.reduceAdd, Nat.reduceSub, Nat.reduceLT, Nat.reduceLeDiff, reduceCtorEq, Nat.reduceEqDiff, Int.reduceToNat]; try omega) ?_
    simp only [L.stamp_within_r0,  go_sem, reduceIte, Nat.reduceAdd, Nat.reduceSub, Nat.reduceLT, Nat.reduceLeDiff, reduceCtorEq, Nat.reduceEqDiff, Int.reduceToNat]
    refine seqQ_normal (lwp_seq (lwp_ops ?_))
    refine lops_take 8 rfl (by simp only [L.stamp_within_r1, h0, go_sem, reduceIte, Nat.reduceAdd, Nat.reduceSub, Nat.reduceLT, Nat.reduceLeDiff, reduceCtorEq, Nat.reduceEqDiff, Int.reduceToNat]; try omega) ?_
    simp only [L.stamp_within_r1, h0, go_sem, reduceIte, Nat.reduceAdd, Nat.reduceSub, Nat.reduceLT, Nat.reduceLeDiff, reduceCtorEq, Nat.reduceEqDiff, Int.reduceToNat]
    exact seqQ_normal (lwp_ret ⟨h', Hp.le_refl _, rfl, rfl⟩)

end Go.Proofs.Ytmpmngakheoacaa
/-
Contracts: the document's times, and what package chain asks of slices. No conditions.
-/
namespace Go.Proofs.Ytmpmngakheoacaa
set_option linter.unusedSimpArgs false
set_option linter.unusedVariables false
set_option linter.unusedSectionVars false
open Go.RowKit
attribute [local go_sem] okAll nextAll LOper.ok LOper.next LOp.ok LOp.next LVal.ok LVal.out LArg.ev putV binOK pick_true pick_false pick_bool V.fits V.leafy V.cells V.cell V.undef partOK loadPart storePart Sh.size Hp.set Hp.del addHp delHp dokAll dnextAll LOper.dok LOper.dres LOp.dok LOp.dout dput conOK conAt untaken wrHp Hp.turn veq veqL leafEq List.take_succ_cons List.take_zero List.take_nil List.drop_succ_cons List.drop_zero List.drop_nil List.set_cons_succ List.set_cons_zero List.getD_cons_succ List.getD_cons_zero List.length_cons List.length_nil List.map_cons List.map_nil List.all_cons List.all_nil List.mem_cons List.not_mem_nil List.replicate_succ List.replicate_zero List.cons_append List.nil_append List.append_nil List.isEmpty_cons List.isEmpty_nil appOwn appHp appOK Option.getD_some Option.isSome_some Option.isSome_none Nat.add_eq Nat.zero_add Nat.add_zero true_and and_true and_self true_implies implies_true false_implies forall_const forall_eq forall_eq_or_imp ne_eq not_false_eq_true not_true_eq_false Bool.not_true Bool.not_false decide_true decide_false Bool.and_true Bool.true_and Bool.and_false Bool.false_and true_or or_true false_or or_false eq_self Bool.false_eq_true nxNe nxNe' tupOf mkFrom bval ogive cutOwn cutE_nil cutE_full cutE_tok cutE_free_nil cutE_free_cons selems Int.toNat_natCast Int.toNat_zero List.take_length

end Go.Proofs.Ytmpmngakheoacaa
/-
Contracts of package stamp's paths and of the document's. No conditions.
-/
namespace Go.Proofs.Ytmpmngakheoacaa
set_option linter.unusedSimpArgs false
set_option linter.unusedVariables false
set_option linter.unusedSectionVars false
open Go.RowKit
attribute [local irreducible] IntKind.wrap
attribute [local go_sem] Option.some.injEq Prod.mk.injEq false_and and_false Bool.true_eq_false dRun dRest dbare dMerge nones if_true Bool.true_and dgoC dgoCRest fillV okAll nextAll LOper.ok LOper.next LOp.ok LOp.next LVal.ok LVal.out LArg.ev putV binOK pick_true pick_false pick_bool V.undef Sh.size addHp dokAll dnextAll LOper.dok LOper.dres LOp.dok LOp.dout dput conOK veqL leafEq List.take_succ_cons List.take_zero List.take_nil List.drop_succ_cons List.drop_zero List.drop_nil List.set_cons_succ List.set_cons_zero List.getD_cons_succ List.getD_cons_zero List.length_cons List.length_nil List.map_cons List.map_nil List.all_cons List.all_nil List.mem_cons List.not_mem_nil List.replicate_succ List.replicate_zero List.cons_append List.nil_append List.append_nil List.isEmpty_cons List.isEmpty_nil appOwn appHp appOK Option.getD_some Option.isSome_some Option.isSome_none Nat.add_eq Nat.zero_add Nat.add_zero true_and and_true and_self true_implies implies_true false_implies forall_const forall_eq forall_eq_or_imp ne_eq not_false_eq_true not_true_eq_false Bool.not_true Bool.not_false decide_true decide_false Bool.and_true Bool.true_and Bool.and_false Bool.false_and true_or or_true false_or or_false eq_self Bool.false_eq_true nxNe nxNe' tupOf mkFrom bval ogive cutOwn cutE_nil cutE_full cutE_tok cutE_free_nil cutE_free_cons selems Int.toNat_natCast Int.toNat_zero List.take_length Hp.set_app Hp.del_app goOps goRest LOper.plain LOp.isCall LOper.dplain LOp.isStop lops_nil gRun gRest bare gMerge V.gd_true V.gd_false pick_gd pick_gdn pick_and pick_or partOK_self loadPart_self storePart_self dgoOps dgoRest beq_true beq_false partOK_ll partOK_al partOK_aa loadPart_l loadPart_a storePart_la storePart_aa fits_leaf fits_agg leafy_bool leafy_int leafy_str leafy_nilPtr leafy_ptr leafy_ept leafy_sl leafy_rs leafy_nilMap leafy_map leafy_nilChan leafy_chan leafy_fn leafy_nilFn leafy_yld leafy_iface leafy_nilIface veq_aa veq_li veq_lb veq_ls cells_agg cells_leaf cell_agg cell_leaf veq_ptr1 veq_ptr2 veq_ptr3 veq_ptr4 veq_ptr5 veq_slice1 veq_slice2 veq_func1 veq_func2 veq_func3 veq_iface1 veq_iface2 veq_iface3 veq_map1 veq_map2 veq_map3 veq_chan1 veq_chan2 veq_chan3 conAt_add conAt_zero untaken wrHp Hp.turn delHp Option.isNone_some Option.isNone_none nxFq goOps2 goRest2 LOper.plain2 LOp.isApp ltNe ltNe1 ltNe' ltNe1' delO_nil delO_tok

def Pa.v (p : Pa) : V := .agg [.bool p.n, .int .i64 p.a]
theorem Pa.names_v (L : Nat → Prop) (p : Pa) : p.v.names L := by simp [Pa.v, V.names, namesL]
theorem Pa.fits_v (p : Pa) : p.v.fits (.agg 2) = true := by simp [Pa.v, V.fits, V.leafy]
/-- What a path makes of a time; an error's number. -/
def Pa.of (p : Pa) (t : Tm) : Tm × Int :=
  if (!p.ok || !t.ok) = true then (⟨0, 0⟩, 2)
  else if Tm.ok ⟨t.e, if p.n = true then p.a else p.a + t.r⟩ = false then (⟨0, 0⟩, 1) else (⟨t.e, if p.n = true then p.a else p.a + t.r⟩, 0)
/-- An error, as a value. -/
def errV (n : Int) : V := if n = 0 then .nilIface else .iface 72 (.int .i64 n)
theorem rightPath_pure (p : Pa) (h : Hp) : Pure Try.prog 39 [p.v] h (.bool p.ok) := by
  refine pure_of (fun L => trivial) fun h' nx hh => acalls_walk L.stamp_RightPath_low fun hd => ?_
  simp only [List.length_cons, List.length_nil, Nat.reduceAdd, Nat.reduceSub, List.replicate_succ, List.replicate_zero, List.cons_append, List.nil_append, V.undef]
  (repeat' (first | (with_reducible first | refine lwp_seq ?_ | refine lwp_ops ?_ | refine seqQ_normal ?_ | refine lops_done ?_ | refine blockQ_normal ?_ | refine lwp_block ?_ | refine lwp_skip ?_ | refine lwp_ret ?_ | refine seqQ_ret ?_ | refine blockQ_ret ?_ | refine roundM_ret ?_ | refine lwp_exit ?_ | refine seqQ_exit ?_ | refine roundM_exit ?_ | refine blockQ_exit ?_ | refine blockQ_other (by decide) ?_) | (with_reducible refine lops_id ?_; (first | refine lops_go2 rfl (by simp only [Pa.v, go_sem, reduceIte, Nat.reduceAdd, Nat.reduceSub, Nat.reduceLT, Nat.reduceLeDiff, reduceCtorEq, Nat.reduceEqDiff, Int.reduceToNat]; try omega) ?_ | refine lops_pure (within_pure _ _ _) rfl (has_refl _) ?_ | ((first | refine lops_guardT rfl ?_ | refine lops_guardF rfl ?_); with_reducible first | refine condG_t ?_ | refine condG_f ?_ | refine condG_s (fun _ => ?_) (fun _ => ?_)) | refine lops_guard_no rfl ?_) <;> try simp only [Pa.v, go_sem, reduceIte, Nat.reduceAdd, Nat.reduceSub, Nat.reduceLT, Nat.reduceLeDiff, reduceCtorEq, Nat.reduceEqDiff, Int.reduceToNat]) | (with_reducible refine cond_id ?_; refine lwp_condB rfl ?_; with_reducible first | refine condG_t ?_ | refine condG_f ?_ | refine condG_s (fun _ => ?_) (fun _ => ?_)) | (with_reducible refine draw_id ?_; refine lwp_draw rfl ?_) | (with_reducible refine dops_id ?_; (first | refine dops_go1 rfl (by simp only [Pa.v, go_sem, reduceIte, Nat.reduceAdd, Nat.reduceSub, Nat.reduceLT, Nat.reduceLeDiff, reduceCtorEq, Nat.reduceEqDiff, Int.reduceToNat]; try omega) ?_  | ((first | refine dops_guardT rfl ?_ | refine dops_guardF rfl ?_); with_reducible first | refine condG_t ?_ | refine condG_f ?_ | refine condG_s (fun _ => ?_) (fun _ => ?_)) | refine dops_guard_no rfl ?_ | refine dops_nil (drawQ_nil ?_)) <;> try simp only [Pa.v, go_sem, reduceIte, Nat.reduceAdd, Nat.reduceSub, Nat.reduceLT, Nat.reduceLeDiff, reduceCtorEq, Nat.reduceEqDiff, Int.reduceToNat])))
  exact ret_slot h' (by repeat (first | exact Hp.le_refl _ | refine le_of_fresh hd ?_ (by omega) _ | refine le_of_freshd hd ?_ (by omega))) ⟨rfl, rfl⟩

theorem errV_names (L : Nat → Prop) (n : Int) : (errV n).names L := by unfold errV; split <;> simp [V.names]
theorem veq_err (n : Int) : veq (.iface true) (errV n) .nilIface = some (decide (n = 0)) := by
  unfold errV
  split <;> simp_all [veq]
end Go.Proofs.Ytmpmngakheoacaa
/-
Ways as data: their order, and lists of ways in order, each once. Plain laws. No conditions.
-/
namespace Go.Proofs.Ytmpmngakheoacaa
set_option linter.unusedSimpArgs false
set_option linter.unusedVariables false
set_option linter.unusedSectionVars false
open Go.RowKit Go.Sort

/-- A way, as it is handed over. -/
structure Wy where
  f : Int
  t : Int
  p : Pa
  deriving DecidableEq, Inhabited
def num (b : Bool) : Int := if b = true then 1 else 0
def Wy.cmp (a b : Wy) : Int := orI [cmpI a.f b.f, cmpI a.t b.t, cmpI (num a.p.n) (num b.p.n), cmpI a.p.a b.p.a]
def Wy.less (a b : Wy) : Bool := decide (a.f < b.f ∨ (a.f = b.f ∧ (a.t < b.t ∨ (a.t = b.t ∧ (num a.p.n < num b.p.n ∨ (num a.p.n = num b.p.n ∧ a.p.a < b.p.a))))))
theorem cmpI_lt (a b : Int) : cmpI a b < 0 ↔ a < b := by unfold cmpI; (repeat' split) <;> omega
theorem cmpI_eq (a b : Int) : cmpI a b = 0 ↔ a = b := by unfold cmpI; (repeat' split) <;> omega
theorem orI_nil : orI [] = 0 := rfl
theorem orI_cons (x : Int) (l : List Int) : orI (x :: l) = if x = 0 then orI l else x := by
  rw [orI]
theorem Wy.cmp_lt (a b : Wy) : a.cmp b < 0 ↔ a.less b = true := by
  unfold Wy.cmp Wy.less
  simp only [orI_cons, orI_nil, decide_eq_true_eq]
  have h1 := cmpI_lt a.f b.f; have k1 := cmpI_eq a.f b.f
  have h2 := cmpI_lt a.t b.t; have k2 := cmpI_eq a.t b.t
  have h3 := cmpI_lt (num a.p.n) (num b.p.n); have k3 := cmpI_eq (num a.p.n) (num b.p.n)
  have h4 := cmpI_lt a.p.a b.p.a; have k4 := cmpI_eq a.p.a b.p.a
  (repeat' split) <;> omega
theorem Wy.lt_of (a b : Wy) : ltOf Wy.cmp a b = a.less b := by
  unfold ltOf
  rw [Bool.eq_iff_iff]
  simp [Wy.cmp_lt]
theorem Wy.ord : Ord Wy.less where
  irr x := by simp [Wy.less]
  trans x y z h1 h2 := by simp only [Wy.less, decide_eq_true_eq] at *; omega
  tot x y h1 h2 := by
    obtain ⟨f, t, n, a⟩ := x; obtain ⟨f', t', n', a'⟩ := y
    simp only [Wy.less, decide_eq_false_iff_not] at *
    have e : num n = num n' ∧ f = f' ∧ t = t' ∧ a = a' := by omega
    have en : n = n' := by cases n <;> cases n' <;> simp [num] at e ⊢
    simp [e, en]
theorem Wy.swo : SWO (ltOf Wy.cmp) := by
  refine ⟨fun x => ?_, fun x y z => ?_, fun x y z => ?_⟩ <;> simp only [Wy.lt_of, Wy.less, decide_eq_true_eq, decide_eq_false_iff_not] <;> omega
theorem Wy.tot (x y : Wy) (h1 : ltOf Wy.cmp x y = false) (h2 : ltOf Wy.cmp y x = false) : x = y := by
  rw [Wy.lt_of] at h1 h2
  exact Wy.ord.tot x y h1 h2
/-- Ways in order, each once. -/
def canonW (l : List Wy) : List Wy := cs (sortOf Wy.cmp l)
theorem canonW_ins (l : List Wy) : canonW l = insAll Wy.less l := by
  refine insAll_cs Wy.ord (sortOf_perm Wy.cmp l) ?_
  have := sortOf_sorted Wy.swo l
  exact this.imp fun {x y} h => by rw [← Wy.lt_of]; exact h
theorem canonW_mem (l : List Wy) (x : Wy) : x ∈ canonW l ↔ x ∈ l := by
  rw [canonW_ins]
  have := (insAll_aux Wy.ord l [] List.Pairwise.nil).2 x
  unfold insAll
  simpa using this
theorem canonW_inc (l : List Wy) : Inc Wy.less (canonW l) := by
  rw [canonW_ins]
  exact (insAll_aux Wy.ord l [] List.Pairwise.nil).1
theorem canonW_len (l : List Wy) : (canonW l).length ≤ l.length := by
  have := cs_len (sortOf Wy.cmp l)
  rw [(sortOf_perm Wy.cmp l).length_eq] at this
  exact this
end Go.Proofs.Ytmpmngakheoacaa
/-
Maps of ways: which are right. Plain definitions and laws. No conditions.
-/
namespace Go.Proofs.Ytmpmngakheoacaa
set_option linter.unusedSimpArgs false
set_option linter.unusedVariables false
set_option linter.unusedSectionVars false
open Go.RowKit Go.Sort

def We.wy (w : We) : Wy := ⟨w.f, w.t, w.p⟩
def Wy.we (w : Wy) : We := ⟨w.f.toNat, w.t.toNat, w.p⟩
def Wy.fit (P : Int) (w : Wy) : Bool := decide (0 ≤ w.f) && (decide (w.f < P) && (decide (0 ≤ w.t) && (decide (w.t < P) && w.p.ok)))
theorem Wy.we_wy {P : Int} {w : Wy} (h : w.fit P = true) : w.we.wy = w := by
  obtain ⟨f, t, p⟩ := w
  simp only [Wy.fit, Bool.and_eq_true, decide_eq_true_eq] at h
  simp only [Wy.we, We.wy, Wy.mk.injEq, and_true]
  omega
/-- All ends are places. -/
def FitW (n : Nat) (l : List We) : Prop := ∀ w ∈ l, w.f < n ∧ w.t < n ∧ w.p.ok = true
theorem fit_list {P : Int} {ws : List Wy} (h : ∀ w ∈ ws, w.fit P = true) : ws = (ws.map Wy.we).map We.wy ∧ FitW P.toNat (ws.map Wy.we) := by
  constructor
  · rw [List.map_map]
    have : ws.map (We.wy ∘ Wy.we) = ws.map id := List.map_congr_left fun w hw => Wy.we_wy (h w hw)
    rw [this, List.map_id]
  · intro w hw
    obtain ⟨v, hv, rfl⟩ := List.mem_map.1 hw
    have := h v hv
    simp only [Wy.fit, Bool.and_eq_true, decide_eq_true_eq] at this
    refine ⟨?_, ?_, this.2.2.2.2⟩
    · show v.f.toNat < P.toNat; omega
    · show v.t.toNat < P.toNat; omega
/-- The ways that add nothing. -/
def zE (l : List We) : List (Nat × Nat) := l.filterMap fun w => if w.p.a = 0 then some (w.f, w.t) else none
theorem zE_mem (l : List We) (e : Nat × Nat) : e ∈ zE l ↔ ∃ w ∈ l, w.p.a = 0 ∧ (w.f, w.t) = e := by
  unfold zE
  simp only [List.mem_filterMap]
  constructor
  · rintro ⟨w, hw, h⟩
    split at h
    · rename_i h0; injection h with h; exact ⟨w, hw, h0, h⟩
    · cases h
  · rintro ⟨w, hw, h0, rfl⟩
    exact ⟨w, hw, by rw [if_pos h0]⟩
theorem zE_append (a b : List We) : zE (a ++ b) = zE a ++ zE b := List.filterMap_append
theorem zE_lt {n : Nat} {l : List We} (h : FitW n l) : ∀ e ∈ zE l, e.1 < n ∧ e.2 < n := by
  intro e he
  obtain ⟨w, hw, _, rfl⟩ := (zE_mem l e).1 he
  exact ⟨(h w hw).1, (h w hw).2.1⟩
/-- Some ring adds nothing. -/
def Idle (l : List We) : Prop := ∃ y, Plus (fun a b => (a, b) ∈ zE l) y y
/-- Some ring has a way that begins anew. -/
def Turns (l : List We) : Prop := ∃ w ∈ l, w.p.n = true ∧ (w.t = w.f ∨ Plus (Edge l) w.t w.f)
theorem noTurn_iff (l : List We) : NoTurn l ↔ ¬ Turns l := by
  constructor
  · rintro h ⟨w, h1, h2, h3⟩; exact h w h1 h2 h3
  · intro h w h1 h2 h3; exact h ⟨w, h1, h2, h3⟩
def addedW (l : List Wy) : Int := (l.map fun w => w.p.a).sum
open Classical in
noncomputable def newOf (P : Int) (ws : List Wy) : (Int × List Wy) × Int :=
  if P < 0 ∨ 200 < P ∨ ∃ w ∈ ws, w.fit P = false then ((0, []), 1)
  else if 1048576 < addedW (canonW ws) then ((0, []), 1)
  else if Idle ((canonW ws).map Wy.we) ∨ Turns ((canonW ws).map Wy.we) then ((0, []), 9)
  else ((P, canonW ws), 0)
/-- A right map, and its ways as they are walked. -/
structure RightM (P : Int) (ws : List Wy) (n : Nat) (l : List We) : Prop where
  pl : P = n
  le : n ≤ 200
  eq : ws = l.map We.wy
  fit : FitW n l
  idle : ¬ Idle l
  turn : NoTurn l
  sum : addedW ws ≤ 1048576
  canon : canonW ws = ws
open Classical in
noncomputable def rightM (P : Int) (ws : List Wy) : Bool := decide ((newOf P ws).2 = 0 ∧ (newOf P ws).1.2 = ws)
theorem rightM_iff (P : Int) (ws : List Wy) : rightM P ws = true ↔ ∃ n l, RightM P ws n l := by
  unfold rightM
  rw [decide_eq_true_eq]
  constructor
  · rintro ⟨h1, h2⟩
    unfold newOf at h1 h2
    split at h1
    · cases h1
    · rename_i h3
      rw [if_neg h3] at h2
      split at h1
      · cases h1
      · rename_i h4
        rw [if_neg h4] at h2
        split at h1
        · cases h1
        · rename_i h5
          rw [if_neg h5] at h2
          have h2 : canonW ws = ws := h2
          have hfit : ∀ w ∈ ws, w.fit P = true := fun w hw => by
            cases e : w.fit P with
            | true => rfl
            | false => exact absurd (.inr (.inr ⟨w, hw, e⟩)) h3
          have hP : 0 ≤ P ∧ P ≤ 200 := by
            constructor
            · exact Classical.byContradiction fun h => h3 (.inl (by omega))
            · exact Classical.byContradiction fun h => h3 (.inr (.inl (by omega)))
          rw [h2] at h4 h5
          obtain ⟨k1, k2⟩ := fit_list hfit
          refine ⟨P.toNat, ws.map Wy.we, by omega, by omega, k1, k2, fun h => h5 (.inl h), (noTurn_iff _).2 fun h => h5 (.inr h), by omega, h2⟩
  · rintro ⟨n, l, h⟩
    obtain ⟨h1, h2, h3, h4, h5, h6, h7, h8⟩ := h
    have hwe : ws.map Wy.we = l := by
      rw [h3, List.map_map]
      have : l.map (Wy.we ∘ We.wy) = l.map id := List.map_congr_left fun w _ => by obtain ⟨f, t, p⟩ := w; simp [We.wy, Wy.we]
      rw [this, List.map_id]
    have hno : ¬ (P < 0 ∨ 200 < P ∨ ∃ w ∈ ws, w.fit P = false) := by
      rintro (h | h | ⟨w, hw, h⟩)
      · omega
      · omega
      · rw [h3] at hw
        obtain ⟨v, hv, rfl⟩ := List.mem_map.1 hw
        have := h4 v hv
        have ht : (We.wy v).fit P = true := by
          have h3 := this.1
          have h4 := this.2.1
          have h5 := this.2.2
          show (decide ((0 : Int) ≤ v.f) && (decide ((v.f : Int) < P) && (decide ((0 : Int) ≤ v.t) && (decide ((v.t : Int) < P) && v.p.ok)))) = true
          rw [h5, decide_eq_true (by omega), decide_eq_true (by omega), decide_eq_true (by omega), decide_eq_true (by omega)]
          rfl
        rw [ht] at h
        cases h
    unfold newOf
    rw [if_neg hno, h8, if_neg (by omega), hwe, if_neg (fun h => h.elim h5 (fun h => (noTurn_iff l).1 h6 h))]
    exact ⟨rfl, rfl⟩
end Go.Proofs.Ytmpmngakheoacaa
/-
Contracts of package path, first part: ways, their order, which are within. No conditions.
-/
namespace Go.Proofs.Ytmpmngakheoacaa
set_option linter.unusedSimpArgs false
set_option linter.unusedVariables false
set_option linter.unusedSectionVars false
open Go.RowKit Go.Sort
attribute [local irreducible] IntKind.wrap
attribute [local go_sem] Option.some.injEq Prod.mk.injEq false_and and_false Bool.true_eq_false dRun dRest dbare dMerge nones if_true Bool.true_and dgoC dgoCRest fillV okAll nextAll LOper.ok LOper.next LOp.ok LOp.next LVal.ok LVal.out LArg.ev putV binOK pick_true pick_false pick_bool V.undef Sh.size addHp dokAll dnextAll LOper.dok LOper.dres LOp.dok LOp.dout dput conOK veqL leafEq List.take_succ_cons List.take_zero List.take_nil List.drop_succ_cons List.drop_zero List.drop_nil List.set_cons_succ List.set_cons_zero List.getD_cons_succ List.getD_cons_zero List.length_cons List.length_nil List.map_cons List.map_nil List.all_cons List.all_nil List.mem_cons List.not_mem_nil List.replicate_succ List.replicate_zero List.cons_append List.nil_append List.append_nil List.isEmpty_cons List.isEmpty_nil appOwn appHp appOK Option.getD_some Option.isSome_some Option.isSome_none Nat.add_eq Nat.zero_add Nat.add_zero true_and and_true and_self true_implies implies_true false_implies forall_const forall_eq forall_eq_or_imp ne_eq not_false_eq_true not_true_eq_false Bool.not_true Bool.not_false decide_true decide_false Bool.and_true Bool.true_and Bool.and_false Bool.false_and true_or or_true false_or or_false eq_self Bool.false_eq_true nxNe nxNe' tupOf mkFrom bval ogive cutOwn cutE_nil cutE_full cutE_tok cutE_free_nil cutE_free_cons selems Int.toNat_natCast Int.toNat_zero List.take_length Hp.set_app Hp.del_app goOps goRest LOper.plain LOp.isCall LOper.dplain LOp.isStop lops_nil gRun gRest bare gMerge V.gd_true V.gd_false pick_gd pick_gdn pick_and pick_or partOK_self loadPart_self storePart_self dgoOps dgoRest beq_true beq_false partOK_ll partOK_al partOK_aa loadPart_l loadPart_a storePart_la storePart_aa fits_leaf fits_agg leafy_bool leafy_int leafy_str leafy_nilPtr leafy_ptr leafy_ept leafy_sl leafy_rs leafy_nilMap leafy_map leafy_nilChan leafy_chan leafy_fn leafy_nilFn leafy_yld leafy_iface leafy_nilIface veq_aa veq_li veq_lb veq_ls cells_agg cells_leaf cell_agg cell_leaf veq_ptr1 veq_ptr2 veq_ptr3 veq_ptr4 veq_ptr5 veq_slice1 veq_slice2 veq_func1 veq_func2 veq_func3 veq_iface1 veq_iface2 veq_iface3 veq_map1 veq_map2 veq_map3 veq_chan1 veq_chan2 veq_chan3 conAt_add conAt_zero untaken wrHp Hp.turn delHp Option.isNone_some Option.isNone_none nxFq goOps2 goRest2 LOper.plain2 LOp.isApp ltNe ltNe1 ltNe' ltNe1' delO_nil delO_tok

def Wy.v (w : Wy) : V := .agg [.int .i64 w.f, .int .i64 w.t, .bool w.p.n, .int .i64 w.p.a]
theorem Wy.names_v (L : Nat → Prop) (w : Wy) : w.v.names L := by simp [Wy.v, V.names, namesL]
theorem Wy.fits_v (w : Wy) : w.v.fits (.agg 4) = true := by simp [Wy.v, V.fits, V.leafy]
abbrev wys (own : Own) (l : List Wy) : V := .sl (.agg 4) own (l.map Wy.v)
abbrev pas (own : Own) (l : List Pa) : V := .sl (.agg 2) own (l.map Pa.v)
theorem low_CmpInt : lowerFn Try.prog 49 = some (LB.CmpInt 61) := by kernel_rfl
theorem low_NaN : lowerFn Try.prog 61 = some LB.NaNInt := by kernel_rfl
theorem low_OrInt : lowerFn Try.prog 48 = some LB.OrInt := by kernel_rfl
theorem low_ContainsFunc_Wy : lowerFn Try.prog 26 = some (LB.ContainsFunc (.agg 4) 44) := by kernel_rfl
theorem low_IndexFunc_Wy : lowerFn Try.prog 44 = some (LB.IndexFunc (.agg 4)) := by kernel_rfl
theorem low_SortedFunc_Wy : lowerFn Try.prog 28 = some (LB.SortedFunc (.agg 4) 45 46) := by kernel_rfl
theorem low_Collect_Wy : lowerFn Try.prog 45 = some (LB.Collect (.agg 4) 58) := by kernel_rfl
theorem low_AppendSeq_Wy : lowerFn Try.prog 58 = some (LB.AppendSeq (.agg 4) (.agg [.int .i64 0, .int .i64 0, .bool false, .int .i64 0]) 32) := by kernel_rfl
theorem low_Values_Wy : lowerFn Try.prog 29 = some (LB.Values (.agg 4) 47) := by kernel_rfl
theorem low_ValuesIt_Wy : lowerFn Try.prog 47 = some (LB.ValuesIt (.agg 4) (.agg [.int .i64 0, .int .i64 0, .bool false, .int .i64 0])) := by kernel_rfl
theorem low_Equal_Wy : lowerFn Try.prog 37 = some (LB.Equal (.agg 4) (.plain (.agg 4) [.int, .int, .bool, .int])) := by kernel_rfl
theorem low_Clone_Pa : lowerFn Try.prog 54 = some (LB.Clone (.agg 2) 16) := by kernel_rfl
theorem low_ContainsFunc_Pa : lowerFn Try.prog 62 = some (LB.ContainsFunc (.agg 2) 78) := by kernel_rfl
theorem low_IndexFunc_Pa : lowerFn Try.prog 78 = some (LB.IndexFunc (.agg 2)) := by kernel_rfl

theorem number_pure (b : Bool) (h : Hp) : Pure Try.prog 50 [.bool b] h (.int .i64 (num b)) := by
  refine pure_of (fun L => trivial) fun h' nx hh => acalls_walk L.path_number_low fun hd => ?_
  simp only [List.length_cons, List.length_nil, Nat.reduceAdd, Nat.reduceSub, List.replicate_succ, List.replicate_zero, List.cons_append, List.nil_append, V.undef]
  cases b <;> (repeat' (first | (with_reducible first | refine lwp_seq ?_ | refine lwp_ops ?_ | refine seqQ_normal ?_ | refine lops_done ?_ | refine blockQ_normal ?_ | refine lwp_block ?_ | refine lwp_skip ?_ | refine lwp_ret ?_ | refine seqQ_ret ?_ | refine blockQ_ret ?_ | refine roundM_ret ?_ | refine lwp_exit ?_ | refine seqQ_exit ?_ | refine roundM_exit ?_ | refine blockQ_exit ?_ | refine blockQ_other (by decide) ?_) | (with_reducible refine lops_id ?_; (first | refine lops_go2 rfl (by simp only [ go_sem, reduceIte, Nat.reduceAdd, Nat.reduceSub, Nat.reduceLT, Nat.reduceLeDiff, reduceCtorEq, Nat.reduceEqDiff, Int.reduceToNat]; try omega) ?_  | ((first | refine lops_guardT rfl ?_ | refine lops_guardF rfl ?_); with_reducible first | refine condG_t ?_ | refine condG_f ?_ | refine condG_s (fun _ => ?_) (fun _ => ?_)) | refine lops_guard_no rfl ?_) <;> try simp only [ go_sem, reduceIte, Nat.reduceAdd, Nat.reduceSub, Nat.reduceLT, Nat.reduceLeDiff, reduceCtorEq, Nat.reduceEqDiff, Int.reduceToNat]) | (with_reducible refine cond_id ?_; refine lwp_condB rfl ?_; with_reducible first | refine condG_t ?_ | refine condG_f ?_ | refine condG_s (fun _ => ?_) (fun _ => ?_)) | (with_reducible refine draw_id ?_; refine lwp_draw rfl ?_) | (with_reducible refine dops_id ?_; (first | refine dops_go1 rfl (by simp only [ go_sem, reduceIte, Nat.reduceAdd, Nat.reduceSub, Nat.reduceLT, Nat.reduceLeDiff, reduceCtorEq, Nat.reduceEqDiff, Int.reduceToNat]; try omega) ?_  | ((first | refine dops_guardT rfl ?_ | refine dops_guardF rfl ?_); with_reducible first | refine condG_t ?_ | refine condG_f ?_ | refine condG_s (fun _ => ?_) (fun _ => ?_)) | refine dops_guard_no rfl ?_ | refine dops_nil (drawQ_nil ?_)) <;> try simp only [ go_sem, reduceIte, Nat.reduceAdd, Nat.reduceSub, Nat.reduceLT, Nat.reduceLeDiff, reduceCtorEq, Nat.reduceEqDiff, Int.reduceToNat]))) <;> exact ret_slot h' (by repeat (first | exact Hp.le_refl _ | refine le_of_fresh hd ?_ (by omega) _ | refine le_of_freshd hd ?_ (by omega))) ⟨rfl, rfl⟩

theorem order_pure (a b : Wy) : Pure Try.prog 30 [a.v, b.v] Hp.none (.int .i64 (a.cmp b)) := by
  refine pure_of (fun L => trivial) fun h' nx hh => acalls_walk L.path_order_low fun hd => ?_
  simp only [List.length_cons, List.length_nil, Nat.reduceAdd, Nat.reduceSub, List.replicate_succ, List.replicate_zero, List.cons_append, List.nil_append, V.undef]
  (repeat' (first | (with_reducible first | refine lwp_seq ?_ | refine lwp_ops ?_ | refine seqQ_normal ?_ | refine lops_done ?_ | refine blockQ_normal ?_ | refine lwp_block ?_ | refine lwp_skip ?_ | refine lwp_ret ?_ | refine seqQ_ret ?_ | refine blockQ_ret ?_ | refine roundM_ret ?_ | refine lwp_exit ?_ | refine seqQ_exit ?_ | refine roundM_exit ?_ | refine blockQ_exit ?_ | refine blockQ_other (by decide) ?_) | (with_reducible refine lops_id ?_; (first | refine lops_go2 rfl (by simp only [Wy.v, go_sem, reduceIte, Nat.reduceAdd, Nat.reduceSub, Nat.reduceLT, Nat.reduceLeDiff, reduceCtorEq, Nat.reduceEqDiff, Int.reduceToNat]; try omega) ?_  | ((first | refine lops_guardT rfl ?_ | refine lops_guardF rfl ?_); with_reducible first | refine condG_t ?_ | refine condG_f ?_ | refine condG_s (fun _ => ?_) (fun _ => ?_)) | refine lops_guard_no rfl ?_) <;> try simp only [Wy.v, go_sem, reduceIte, Nat.reduceAdd, Nat.reduceSub, Nat.reduceLT, Nat.reduceLeDiff, reduceCtorEq, Nat.reduceEqDiff, Int.reduceToNat]) | (with_reducible refine cond_id ?_; refine lwp_condB rfl ?_; with_reducible first | refine condG_t ?_ | refine condG_f ?_ | refine condG_s (fun _ => ?_) (fun _ => ?_)) | (with_reducible refine draw_id ?_; refine lwp_draw rfl ?_) | (with_reducible refine dops_id ?_; (first | refine dops_go1 rfl (by simp only [Wy.v, go_sem, reduceIte, Nat.reduceAdd, Nat.reduceSub, Nat.reduceLT, Nat.reduceLeDiff, reduceCtorEq, Nat.reduceEqDiff, Int.reduceToNat]; try omega) ?_ | refine dops_pure (cmpInt_lib low_CmpInt low_NaN _ _ _) rfl (none_has _) ?_ | refine dops_pure (number_pure _ _) rfl (none_has _) ?_ | refine dops_pure (orInt_lib low_OrInt _ [cmpI a.f b.f, cmpI a.t b.t, cmpI (num a.p.n) (num b.p.n), cmpI a.p.a b.p.a] (by simp) _) rfl (none_has _) ?_ | ((first | refine dops_guardT rfl ?_ | refine dops_guardF rfl ?_); with_reducible first | refine condG_t ?_ | refine condG_f ?_ | refine condG_s (fun _ => ?_) (fun _ => ?_)) | refine dops_guard_no rfl ?_ | refine dops_nil (drawQ_nil ?_)) <;> try simp only [Wy.v, go_sem, reduceIte, Nat.reduceAdd, Nat.reduceSub, Nat.reduceLT, Nat.reduceLeDiff, reduceCtorEq, Nat.reduceEqDiff, Int.reduceToNat])))
  exact ret_slot h' (by repeat (first | exact Hp.le_refl _ | refine le_of_fresh hd ?_ (by omega) _ | refine le_of_freshd hd ?_ (by omega))) ⟨rfl, rfl⟩

theorem pwithin_pure (w : Wy) (P : Int) (h : Hp) : Pure Try.prog 25 [w.v, .int .i64 P] h (.bool (w.fit P)) := by
  refine pure_of (fun L => trivial) fun h' nx hh => acalls_walk L.path_within_low fun hd => ?_
  obtain ⟨f, t, n, a⟩ := w
  simp only [List.length_cons, List.length_nil, Nat.reduceAdd, Nat.reduceSub, List.replicate_succ, List.replicate_zero, List.cons_append, List.nil_append, V.undef]
  (repeat' (first | (with_reducible first | refine lwp_seq ?_ | refine lwp_ops ?_ | refine seqQ_normal ?_ | refine lops_done ?_ | refine blockQ_normal ?_ | refine lwp_block ?_ | refine lwp_skip ?_ | refine lwp_ret ?_ | refine seqQ_ret ?_ | refine blockQ_ret ?_ | refine roundM_ret ?_ | refine lwp_exit ?_ | refine seqQ_exit ?_ | refine roundM_exit ?_ | refine blockQ_exit ?_ | refine blockQ_other (by decide) ?_) | (with_reducible refine lops_id ?_; (first | refine lops_go2 rfl (by simp only [Wy.v, go_sem, reduceIte, Nat.reduceAdd, Nat.reduceSub, Nat.reduceLT, Nat.reduceLeDiff, reduceCtorEq, Nat.reduceEqDiff, Int.reduceToNat]; try omega) ?_ | refine lops_pure (rightPath_pure ⟨_, _⟩ _) rfl (has_refl _) ?_ | ((first | refine lops_guardT rfl ?_ | refine lops_guardF rfl ?_); with_reducible first | refine condG_t ?_ | refine condG_f ?_ | refine condG_s (fun _ => ?_) (fun _ => ?_)) | refine lops_guard_no rfl ?_) <;> try simp only [Wy.v, go_sem, reduceIte, Nat.reduceAdd, Nat.reduceSub, Nat.reduceLT, Nat.reduceLeDiff, reduceCtorEq, Nat.reduceEqDiff, Int.reduceToNat]) | (with_reducible refine cond_id ?_; refine lwp_condB rfl ?_; with_reducible first | refine condG_t ?_ | refine condG_f ?_ | refine condG_s (fun _ => ?_) (fun _ => ?_)) | (with_reducible refine draw_id ?_; refine lwp_draw rfl ?_) | (with_reducible refine dops_id ?_; (first | refine dops_go1 rfl (by simp only [Wy.v, go_sem, reduceIte, Nat.reduceAdd, Nat.reduceSub, Nat.reduceLT, Nat.reduceLeDiff, reduceCtorEq, Nat.reduceEqDiff, Int.reduceToNat]; try omega) ?_  | ((first | refine dops_guardT rfl ?_ | refine dops_guardF rfl ?_); with_reducible first | refine condG_t ?_ | refine condG_f ?_ | refine condG_s (fun _ => ?_) (fun _ => ?_)) | refine dops_guard_no rfl ?_ | refine dops_nil (drawQ_nil ?_)) <;> try simp only [Wy.v, go_sem, reduceIte, Nat.reduceAdd, Nat.reduceSub, Nat.reduceLT, Nat.reduceLeDiff, reduceCtorEq, Nat.reduceEqDiff, Int.reduceToNat])))
  all_goals refine ret_slot h' (by repeat (first | exact Hp.le_refl _ | refine le_of_fresh hd ?_ (by omega) _ | refine le_of_freshd hd ?_ (by omega))) ⟨?_, rfl⟩
  all_goals ((try simp_all [Wy.fit]) <;> (try omega))
end Go.Proofs.Ytmpmngakheoacaa
/-
Contracts of package path, second part: how much ways add, breadth first, places in a row. No conditions.
-/
namespace Go.Proofs.Ytmpmngakheoacaa
set_option linter.unusedSimpArgs false
set_option linter.unusedVariables false
set_option linter.unusedSectionVars false
open Go.RowKit Go.Sort
attribute [local irreducible] IntKind.wrap
attribute [local go_sem] Option.some.injEq Prod.mk.injEq false_and and_false Bool.true_eq_false dRun dRest dbare dMerge nones if_true Bool.true_and dgoC dgoCRest fillV okAll nextAll LOper.ok LOper.next LOp.ok LOp.next LVal.ok LVal.out LArg.ev putV binOK pick_true pick_false pick_bool V.undef Sh.size addHp dokAll dnextAll LOper.dok LOper.dres LOp.dok LOp.dout dput conOK veqL leafEq List.take_succ_cons List.take_zero List.take_nil List.drop_succ_cons List.drop_zero List.drop_nil List.set_cons_succ List.set_cons_zero List.getD_cons_succ List.getD_cons_zero List.length_cons List.length_nil List.map_cons List.map_nil List.all_cons List.all_nil List.mem_cons List.not_mem_nil List.replicate_succ List.replicate_zero List.cons_append List.nil_append List.append_nil List.isEmpty_cons List.isEmpty_nil appOwn appHp appOK Option.getD_some Option.isSome_some Option.isSome_none Nat.add_eq Nat.zero_add Nat.add_zero true_and and_true and_self true_implies implies_true false_implies forall_const forall_eq forall_eq_or_imp ne_eq not_false_eq_true not_true_eq_false Bool.not_true Bool.not_false decide_true decide_false Bool.and_true Bool.true_and Bool.and_false Bool.false_and true_or or_true false_or or_false eq_self Bool.false_eq_true nxNe nxNe' tupOf mkFrom bval ogive cutOwn cutE_nil cutE_full cutE_tok cutE_free_nil cutE_free_cons selems Int.toNat_natCast Int.toNat_zero List.take_length Hp.set_app Hp.del_app goOps goRest LOper.plain LOp.isCall LOper.dplain LOp.isStop lops_nil gRun gRest bare gMerge V.gd_true V.gd_false pick_gd pick_gdn pick_and pick_or partOK_self loadPart_self storePart_self dgoOps dgoRest beq_true beq_false partOK_ll partOK_al partOK_aa loadPart_l loadPart_a storePart_la storePart_aa fits_leaf fits_agg leafy_bool leafy_int leafy_str leafy_nilPtr leafy_ptr leafy_ept leafy_sl leafy_rs leafy_nilMap leafy_map leafy_nilChan leafy_chan leafy_fn leafy_nilFn leafy_yld leafy_iface leafy_nilIface veq_aa veq_li veq_lb veq_ls cells_agg cells_leaf cell_agg cell_leaf veq_ptr1 veq_ptr2 veq_ptr3 veq_ptr4 veq_ptr5 veq_slice1 veq_slice2 veq_func1 veq_func2 veq_func3 veq_iface1 veq_iface2 veq_iface3 veq_map1 veq_map2 veq_map3 veq_chan1 veq_chan2 veq_chan3 conAt_add conAt_zero untaken wrHp Hp.turn delHp Option.isNone_some Option.isNone_none nxFq goOps2 goRest2 LOper.plain2 LOp.isApp ltNe ltNe1 ltNe' ltNe1' delO_nil delO_tok

/-- A way's cells. -/
def We.v (w : We) : V := .agg [.int .i64 w.f, .int .i64 w.t, .bool w.p.n, .int .i64 w.p.a]
theorem We.fits_v (w : We) : w.v.fits (.agg 4) = true := by simp [We.v, V.fits, V.leafy]
theorem wy_map (l : List We) : (l.map We.wy).map Wy.v = l.map We.v := by rw [List.map_map]; rfl
abbrev wes (own : Own) (l : List We) : V := .sl (.agg 4) own (l.map We.v)
theorem getD_int (l : List Int) (i : Nat) (h : i < l.length) : (l.map (V.int .i64)).getD i (.tup []) = .int .i64 (l.getD i 0) := by
  rw [getD_map' (V.int .i64) l i h, List.getD_eq_getElem?_getD, List.getElem?_eq_getElem h]; rfl
theorem getD_bool (l : List Bool) (i : Nat) (h : i < l.length) : (l.map V.bool).getD i (.tup []) = .bool (l.getD i false) := by
  rw [getD_map' V.bool l i h, List.getD_eq_getElem?_getD, List.getElem?_eq_getElem h]; rfl

theorem added_pure (own : Own) (l : List Wy) (hl : l.length ≤ 1000) (hb : ∀ w ∈ l, 0 ≤ w.p.a ∧ w.p.a ≤ 1048576) (h : Hp) : Pure Try.prog 31 [wys own l] h (.int .i64 (addedW l)) := by
  refine pure_of (fun L => trivial) fun h' nx hh => acalls_walk L.path_added_low fun hd => ?_
  simp only [List.length_cons, List.length_nil, Nat.reduceAdd, Nat.reduceSub, List.replicate_succ, List.replicate_zero, List.cons_append, List.nil_append, V.undef]
  (repeat' (first | (with_reducible first | refine lwp_seq ?_ | refine lwp_ops ?_ | refine seqQ_normal ?_ | refine lops_done ?_ | refine blockQ_normal ?_ | refine lwp_block ?_ | refine lwp_skip ?_ | refine lwp_ret ?_ | refine seqQ_ret ?_ | refine blockQ_ret ?_ | refine roundM_ret ?_ | refine lwp_exit ?_ | refine seqQ_exit ?_ | refine roundM_exit ?_ | refine blockQ_exit ?_ | refine blockQ_other (by decide) ?_) | (with_reducible refine lops_id ?_; (first | refine lops_go2 rfl (by simp only [List.length_map, go_sem, reduceIte, Nat.reduceAdd, Nat.reduceSub, Nat.reduceLT, Nat.reduceLeDiff, reduceCtorEq, Nat.reduceEqDiff, Int.reduceToNat]; try omega) ?_  | ((first | refine lops_guardT rfl ?_ | refine lops_guardF rfl ?_); with_reducible first | refine condG_t ?_ | refine condG_f ?_ | refine condG_s (fun _ => ?_) (fun _ => ?_)) | refine lops_guard_no rfl ?_) <;> try simp only [List.length_map, go_sem, reduceIte, Nat.reduceAdd, Nat.reduceSub, Nat.reduceLT, Nat.reduceLeDiff, reduceCtorEq, Nat.reduceEqDiff, Int.reduceToNat]) | (with_reducible refine cond_id ?_; refine lwp_condB rfl ?_; with_reducible first | refine condG_t ?_ | refine condG_f ?_ | refine condG_s (fun _ => ?_) (fun _ => ?_)) | (with_reducible refine draw_id ?_; refine lwp_draw rfl ?_) | (with_reducible refine dops_id ?_; (first | refine dops_go1 rfl (by simp only [List.length_map, go_sem, reduceIte, Nat.reduceAdd, Nat.reduceSub, Nat.reduceLT, Nat.reduceLeDiff, reduceCtorEq, Nat.reduceEqDiff, Int.reduceToNat]; try omega) ?_  | ((first | refine dops_guardT rfl ?_ | refine dops_guardF rfl ?_); with_reducible first | refine condG_t ?_ | refine condG_f ?_ | refine condG_s (fun _ => ?_) (fun _ => ?_)) | refine dops_guard_no rfl ?_ | refine dops_nil (drawQ_nil ?_)) <;> try simp only [List.length_map, go_sem, reduceIte, Nat.reduceAdd, Nat.reduceSub, Nat.reduceLT, Nat.reduceLeDiff, reduceCtorEq, Nat.reduceEqDiff, Int.reduceToNat])))
  have hsum : ∀ i, i ≤ l.length → 0 ≤ addedW (l.take i) ∧ addedW (l.take i) ≤ 1048576 * i := by
    intro i hi
    induction i with
    | zero => simp [addedW]
    | succ i ih =>
      have ih := ih (by omega)
      have := hb l[i] (List.getElem_mem _)
      rw [List.take_succ_eq_append_getElem (by omega)]
      simp only [addedW, List.map_append, List.map_cons, List.map_nil, List.sum_append, List.sum_cons, List.sum_nil] at ih ⊢
      omega
  refine lwp_loopM (fun i : Nat => mkFrom 19 0 [(3, .int .i64 (addedW (l.take i))), (6, wys own l), (7, .int .i64 l.length), (8, .int .i64 i)]) (fun i hp nx1 => i ≤ l.length ∧ nx ≤ nx1 ∧ Hp.same nx h' hp) (fun i => l.length - i) 0 ⟨Nat.zero_le _, Nat.le_refl _, Hp.same.rfl'⟩ ?_ ?_
  · simp only [WkL, mkFrom, Int.natCast_add, Int.natCast_one, Int.natCast_zero, wys, addedW, List.take_zero, List.map_nil, List.sum_nil, go_sem, reduceIte, Nat.reduceAdd, Nat.reduceSub, Nat.reduceLT, Nat.reduceLeDiff, reduceCtorEq, Nat.reduceEqDiff, Int.reduceToNat]
  · rintro i hp nx1 ⟨hi, hnx, hsm⟩
    generalize hQ : roundM _ _ _ _ _ = Q0
    simp only [mkFrom, go_sem, reduceIte, Nat.reduceAdd, Nat.reduceSub, Nat.reduceLT, Nat.reduceLeDiff, reduceCtorEq, Nat.reduceEqDiff, Int.reduceToNat]
    rcases Nat.lt_or_ge i l.length with hlt | hge
    · have hc : decide ((i : Int) < (l.length : Int)) = true := decide_eq_true (by omega)
      have hg : (l.map Wy.v).getD i (.tup []) = .agg [.int .i64 l[i].f, .int .i64 l[i].t, .bool l[i].p.n, .int .i64 l[i].p.a] := getD_map' Wy.v l i hlt
      have hs1 := hsum i hi
      have hs2 := hsum (i + 1) (by omega)
      have hb1 := hb l[i] (List.getElem_mem _)
      have hsn : addedW (l.take (i + 1)) = addedW (l.take i) + l[i].p.a := by
        rw [List.take_succ_eq_append_getElem hlt]; simp only [addedW, List.map_append, List.map_cons, List.map_nil, List.sum_append, List.sum_cons, List.sum_nil]; omega
      have hw : IntKind.i64.wrap ((i : Int) + 1) = ((i + 1 : Nat) : Int) := by rw [wrap_in] <;> omega
      have hw2 : IntKind.i64.wrap (addedW (l.take i) + l[i].p.a) = addedW (l.take (i + 1)) := by rw [hsn, wrap_in] <;> omega
      (repeat' (first | (with_reducible first | refine lwp_seq ?_ | refine lwp_ops ?_ | refine seqQ_normal ?_ | refine lops_done ?_ | refine blockQ_normal ?_ | refine lwp_block ?_ | refine lwp_skip ?_ | refine lwp_ret ?_ | refine seqQ_ret ?_ | refine blockQ_ret ?_ | refine roundM_ret ?_ | refine lwp_exit ?_ | refine seqQ_exit ?_ | refine roundM_exit ?_ | refine blockQ_exit ?_ | refine blockQ_other (by decide) ?_) | (with_reducible refine lops_id ?_; (first | refine lops_go2 rfl (by simp only [hc, hg, hw, hw2, hlt, List.length_map, go_sem, reduceIte, Nat.reduceAdd, Nat.reduceSub, Nat.reduceLT, Nat.reduceLeDiff, reduceCtorEq, Nat.reduceEqDiff, Int.reduceToNat]; try omega) ?_  | ((first | refine lops_guardT rfl ?_ | refine lops_guardF rfl ?_); with_reducible first | refine condG_t ?_ | refine condG_f ?_ | refine condG_s (fun _ => ?_) (fun _ => ?_)) | refine lops_guard_no rfl ?_) <;> try simp only [hc, hg, hw, hw2, hlt, List.length_map, go_sem, reduceIte, Nat.reduceAdd, Nat.reduceSub, Nat.reduceLT, Nat.reduceLeDiff, reduceCtorEq, Nat.reduceEqDiff, Int.reduceToNat]) | (with_reducible refine cond_id ?_; refine lwp_condB rfl ?_; with_reducible first | refine condG_t ?_ | refine condG_f ?_ | refine condG_s (fun _ => ?_) (fun _ => ?_)) | (with_reducible refine draw_id ?_; refine lwp_draw rfl ?_) | (with_reducible refine dops_id ?_; (first | refine dops_go1 rfl (by simp only [hc, hg, hw, hw2, hlt, List.length_map, go_sem, reduceIte, Nat.reduceAdd, Nat.reduceSub, Nat.reduceLT, Nat.reduceLeDiff, reduceCtorEq, Nat.reduceEqDiff, Int.reduceToNat]; try omega) ?_  | ((first | refine dops_guardT rfl ?_ | refine dops_guardF rfl ?_); with_reducible first | refine condG_t ?_ | refine condG_f ?_ | refine condG_s (fun _ => ?_) (fun _ => ?_)) | refine dops_guard_no rfl ?_ | refine dops_nil (drawQ_nil ?_)) <;> try simp only [hc, hg, hw, hw2, hlt, List.length_map, go_sem, reduceIte, Nat.reduceAdd, Nat.reduceSub, Nat.reduceLT, Nat.reduceLeDiff, reduceCtorEq, Nat.reduceEqDiff, Int.reduceToNat])))
      rw [← hQ]
      refine roundM_normal (i + 1) (by omega) ⟨hlt, by omega, (by (try dsimp only); repeat (first | exact hsm | refine same_set ?_ (by omega) _ | refine same_del ?_ (by omega)))⟩ ?_
      simp only [WkL, mkFrom, Int.natCast_add, Int.natCast_one, Int.natCast_zero, wys, go_sem, reduceIte, Nat.reduceAdd, Nat.reduceSub, Nat.reduceLT, Nat.reduceLeDiff, reduceCtorEq, Nat.reduceEqDiff, Int.reduceToNat]
    · have hc : decide ((i : Int) < (l.length : Int)) = false := decide_eq_false (by omega)
      (repeat' (first | (with_reducible first | refine lwp_seq ?_ | refine lwp_ops ?_ | refine seqQ_normal ?_ | refine lops_done ?_ | refine blockQ_normal ?_ | refine lwp_block ?_ | refine lwp_skip ?_ | refine lwp_ret ?_ | refine seqQ_ret ?_ | refine blockQ_ret ?_ | refine roundM_ret ?_ | refine lwp_exit ?_ | refine seqQ_exit ?_ | refine roundM_exit ?_ | refine blockQ_exit ?_ | refine blockQ_other (by decide) ?_) | (with_reducible refine lops_id ?_; (first | refine lops_go2 rfl (by simp only [hc, go_sem, reduceIte, Nat.reduceAdd, Nat.reduceSub, Nat.reduceLT, Nat.reduceLeDiff, reduceCtorEq, Nat.reduceEqDiff, Int.reduceToNat]; try omega) ?_  | ((first | refine lops_guardT rfl ?_ | refine lops_guardF rfl ?_); with_reducible first | refine condG_t ?_ | refine condG_f ?_ | refine condG_s (fun _ => ?_) (fun _ => ?_)) | refine lops_guard_no rfl ?_) <;> try simp only [hc, go_sem, reduceIte, Nat.reduceAdd, Nat.reduceSub, Nat.reduceLT, Nat.reduceLeDiff, reduceCtorEq, Nat.reduceEqDiff, Int.reduceToNat]) | (with_reducible refine cond_id ?_; refine lwp_condB rfl ?_; with_reducible first | refine condG_t ?_ | refine condG_f ?_ | refine condG_s (fun _ => ?_) (fun _ => ?_)) | (with_reducible refine draw_id ?_; refine lwp_draw rfl ?_) | (with_reducible refine dops_id ?_; (first | refine dops_go1 rfl (by simp only [hc, go_sem, reduceIte, Nat.reduceAdd, Nat.reduceSub, Nat.reduceLT, Nat.reduceLeDiff, reduceCtorEq, Nat.reduceEqDiff, Int.reduceToNat]; try omega) ?_  | ((first | refine dops_guardT rfl ?_ | refine dops_guardF rfl ?_); with_reducible first | refine condG_t ?_ | refine condG_f ?_ | refine condG_s (fun _ => ?_) (fun _ => ?_)) | refine dops_guard_no rfl ?_ | refine dops_nil (drawQ_nil ?_)) <;> try simp only [hc, go_sem, reduceIte, Nat.reduceAdd, Nat.reduceSub, Nat.reduceLT, Nat.reduceLeDiff, reduceCtorEq, Nat.reduceEqDiff, Int.reduceToNat])))
      rw [← hQ]
      (repeat' (first | (with_reducible first | refine lwp_seq ?_ | refine lwp_ops ?_ | refine seqQ_normal ?_ | refine lops_done ?_ | refine blockQ_normal ?_ | refine lwp_block ?_ | refine lwp_skip ?_ | refine lwp_ret ?_ | refine seqQ_ret ?_ | refine blockQ_ret ?_ | refine roundM_ret ?_ | refine lwp_exit ?_ | refine seqQ_exit ?_ | refine roundM_exit ?_ | refine blockQ_exit ?_ | refine blockQ_other (by decide) ?_) | (with_reducible refine lops_id ?_; (first | refine lops_go2 rfl (by simp only [ go_sem, reduceIte, Nat.reduceAdd, Nat.reduceSub, Nat.reduceLT, Nat.reduceLeDiff, reduceCtorEq, Nat.reduceEqDiff, Int.reduceToNat]; try omega) ?_  | ((first | refine lops_guardT rfl ?_ | refine lops_guardF rfl ?_); with_reducible first | refine condG_t ?_ | refine condG_f ?_ | refine condG_s (fun _ => ?_) (fun _ => ?_)) | refine lops_guard_no rfl ?_) <;> try simp only [ go_sem, reduceIte, Nat.reduceAdd, Nat.reduceSub, Nat.reduceLT, Nat.reduceLeDiff, reduceCtorEq, Nat.reduceEqDiff, Int.reduceToNat]) | (with_reducible refine cond_id ?_; refine lwp_condB rfl ?_; with_reducible first | refine condG_t ?_ | refine condG_f ?_ | refine condG_s (fun _ => ?_) (fun _ => ?_)) | (with_reducible refine draw_id ?_; refine lwp_draw rfl ?_) | (with_reducible refine dops_id ?_; (first | refine dops_go1 rfl (by simp only [ go_sem, reduceIte, Nat.reduceAdd, Nat.reduceSub, Nat.reduceLT, Nat.reduceLeDiff, reduceCtorEq, Nat.reduceEqDiff, Int.reduceToNat]; try omega) ?_  | ((first | refine dops_guardT rfl ?_ | refine dops_guardF rfl ?_); with_reducible first | refine condG_t ?_ | refine condG_f ?_ | refine condG_s (fun _ => ?_) (fun _ => ?_)) | refine dops_guard_no rfl ?_ | refine dops_nil (drawQ_nil ?_)) <;> try simp only [ go_sem, reduceIte, Nat.reduceAdd, Nat.reduceSub, Nat.reduceLT, Nat.reduceLeDiff, reduceCtorEq, Nat.reduceEqDiff, Int.reduceToNat])))
      refine ret_slot h' (hsm.le hd (Hp.le_refl _)) ⟨?_, rfl⟩
      simp only [go_sem, reduceIte, Nat.reduceAdd, Nat.reduceSub, Nat.reduceLT, Nat.reduceLeDiff, reduceCtorEq, Nat.reduceEqDiff, Int.reduceToNat]
      rw [show i = l.length by omega, List.take_length]

open Classical in
noncomputable def reachB (l : List We) (a b : Nat) : Bool := decide (b = a ∨ Plus (Edge l) a b)
open Classical in
theorem reachB_iff (l : List We) (a b : Nat) : reachB l a b = true ↔ (b = a ∨ Plus (Edge l) a b) := by unfold reachB; exact decide_eq_true_iff
theorem reachB_false {l : List We} {a b : Nat} (h : ¬ (b = a ∨ Plus (Edge l) a b)) : reachB l a b = false := by
  cases e : reachB l a b with
  | false => rfl
  | true => exact absurd ((reachB_iff l a b).1 e) h
theorem ipos (m : Nat) : decide ((0 : Int) < ((m + 1 : Nat) : Int)) = true := decide_eq_true (by omega)
theorem idx0 (m : Nat) : (0 : Int) < ((m + 1 : Nat) : Int) := by omega
abbrev nats (id : Nat) (l : List Nat) : V := .sl .leaf (.tok id) (l.map fun x : Nat => .int .i64 (x : Int))
set_option maxHeartbeats 1000000 in
theorem preaches_pure (own : Own) (n : Nat) (l : List We) (a b : Nat) (hfit : FitW n l) (ha : a < n) (hn : n ≤ 200) (hl : l.length ≤ 1000) (h : Hp) : Pure Try.prog 52 [.int .i64 n, wes own l, .int .i64 a, .int .i64 b] h (.bool (reachB l a b)) := by
  refine pure_of (fun L => trivial) fun h' nx hh => acalls_walk L.path_reaches_low fun hd => ?_
  simp only [List.length_cons, List.length_nil, Nat.reduceAdd, Nat.reduceSub, List.replicate_succ, List.replicate_zero, List.cons_append, List.nil_append, V.undef]
  (repeat' (first | (with_reducible first | refine lwp_seq ?_ | refine lwp_ops ?_ | refine seqQ_normal ?_ | refine lops_done ?_ | refine blockQ_normal ?_ | refine lwp_block ?_ | refine lwp_skip ?_ | refine lwp_ret ?_ | refine seqQ_ret ?_ | refine blockQ_ret ?_ | refine roundM_ret ?_ | refine lwp_exit ?_ | refine seqQ_exit ?_ | refine roundM_exit ?_ | refine blockQ_exit ?_ | refine blockQ_other (by decide) ?_) | (with_reducible refine lops_id ?_; (first | refine lops_go2 rfl (by simp only [List.length_map, go_sem, reduceIte, Nat.reduceAdd, Nat.reduceSub, Nat.reduceLT, Nat.reduceLeDiff, reduceCtorEq, Nat.reduceEqDiff, Int.reduceToNat]; try omega) ?_  | ((first | refine lops_guardT rfl ?_ | refine lops_guardF rfl ?_); with_reducible first | refine condG_t ?_ | refine condG_f ?_ | refine condG_s (fun _ => ?_) (fun _ => ?_)) | refine lops_guard_no rfl ?_) <;> try simp only [List.length_map, go_sem, reduceIte, Nat.reduceAdd, Nat.reduceSub, Nat.reduceLT, Nat.reduceLeDiff, reduceCtorEq, Nat.reduceEqDiff, Int.reduceToNat]) | (with_reducible refine cond_id ?_; refine lwp_condB rfl ?_; with_reducible first | refine condG_t ?_ | refine condG_f ?_ | refine condG_s (fun _ => ?_) (fun _ => ?_)) | (with_reducible refine draw_id ?_; refine lwp_draw rfl ?_) | (with_reducible refine dops_id ?_; (first | refine dops_go1 rfl (by simp only [List.length_map, go_sem, reduceIte, Nat.reduceAdd, Nat.reduceSub, Nat.reduceLT, Nat.reduceLeDiff, reduceCtorEq, Nat.reduceEqDiff, Int.reduceToNat]; try omega) ?_  | ((first | refine dops_guardT rfl ?_ | refine dops_guardF rfl ?_); with_reducible first | refine condG_t ?_ | refine condG_f ?_ | refine condG_s (fun _ => ?_) (fun _ => ?_)) | refine dops_guard_no rfl ?_ | refine dops_nil (drawQ_nil ?_)) <;> try simp only [List.length_map, go_sem, reduceIte, Nat.reduceAdd, Nat.reduceSub, Nat.reduceLT, Nat.reduceLeDiff, reduceCtorEq, Nat.reduceEqDiff, Int.reduceToNat])))
  refine lwp_loopM (fun q : List Bool × List Nat × Nat => mkFrom 57 0 [(1, wes own l), (3, .int .i64 b), (9, .rs nx .leaf 0 n), (10, nats q.2.2 q.2.1)])
    (fun q hp nx1 => nx < q.2.2 ∧ q.2.2 < nx1 ∧ hp nx = some (.arr .leaf (q.1.map V.bool)) ∧ hp q.2.2 = some .tip ∧ Hp.same nx h' hp ∧ Bfs n (Edge l) a b q.1 q.2.1 ∧ unseen q.1 + q.2.1.length ≤ n + 1)
    (fun q => unseen q.1 + q.2.1.length) (List.replicate n false, [a], nx + 1) ⟨by dsimp only; omega, by dsimp only; omega, ?_, ?_, (by (try dsimp only); repeat (first | exact Hp.same.rfl' | refine same_set ?_ (by omega) _ | refine same_del ?_ (by omega))), Bfs.first ha, ?_⟩ ?_ ?_
  · simp only [List.map_replicate, go_sem, reduceIte, Nat.reduceAdd, Nat.reduceSub, Nat.reduceLT, Nat.reduceLeDiff, reduceCtorEq, Nat.reduceEqDiff, Int.reduceToNat]
  · simp only [go_sem, reduceIte, Nat.reduceAdd, Nat.reduceSub, Nat.reduceLT, Nat.reduceLeDiff, reduceCtorEq, Nat.reduceEqDiff, Int.reduceToNat]
  · have : unseen (List.replicate n false) ≤ n := Nat.le_trans (List.length_filter_le _ _) (by simp)
    simp; omega
  · simp only [WkL, mkFrom, Int.natCast_add, Int.natCast_one, Int.natCast_zero, nats, go_sem, reduceIte, Nat.reduceAdd, Nat.reduceSub, Nat.reduceLT, Nat.reduceLeDiff, reduceCtorEq, Nat.reduceEqDiff, Int.reduceToNat]
  · rintro ⟨seen, todo, id⟩ hp nx1 ⟨q1, q2, q3, q4, q5, q6, q7⟩
    generalize hQ : roundM _ _ _ _ _ = Q0
    dsimp only at q1 q2 q3 q4 q6 q7
    simp only [mkFrom, go_sem, reduceIte, Nat.reduceAdd, Nat.reduceSub, Nat.reduceLT, Nat.reduceLeDiff, reduceCtorEq, Nat.reduceEqDiff, Int.reduceToNat]
    cases todo with
    | nil =>
      have hc : decide ((0 : Int) < ((0 : Nat) : Int)) = false := by decide
      (repeat' (first | (with_reducible first | refine lwp_seq ?_ | refine lwp_ops ?_ | refine seqQ_normal ?_ | refine lops_done ?_ | refine blockQ_normal ?_ | refine lwp_block ?_ | refine lwp_skip ?_ | refine lwp_ret ?_ | refine seqQ_ret ?_ | refine blockQ_ret ?_ | refine roundM_ret ?_ | refine lwp_exit ?_ | refine seqQ_exit ?_ | refine roundM_exit ?_ | refine blockQ_exit ?_ | refine blockQ_other (by decide) ?_) | (with_reducible refine lops_id ?_; (first | refine lops_go2 rfl (by simp only [nats, hc, List.length_map, go_sem, reduceIte, Nat.reduceAdd, Nat.reduceSub, Nat.reduceLT, Nat.reduceLeDiff, reduceCtorEq, Nat.reduceEqDiff, Int.reduceToNat]; try omega) ?_  | ((first | refine lops_guardT rfl ?_ | refine lops_guardF rfl ?_); with_reducible first | refine condG_t ?_ | refine condG_f ?_ | refine condG_s (fun _ => ?_) (fun _ => ?_)) | refine lops_guard_no rfl ?_) <;> try simp only [nats, hc, List.length_map, go_sem, reduceIte, Nat.reduceAdd, Nat.reduceSub, Nat.reduceLT, Nat.reduceLeDiff, reduceCtorEq, Nat.reduceEqDiff, Int.reduceToNat]) | (with_reducible refine cond_id ?_; refine lwp_condB rfl ?_; with_reducible first | refine condG_t ?_ | refine condG_f ?_ | refine condG_s (fun _ => ?_) (fun _ => ?_)) | (with_reducible refine draw_id ?_; refine lwp_draw rfl ?_) | (with_reducible refine dops_id ?_; (first | refine dops_go1 rfl (by simp only [nats, hc, List.length_map, go_sem, reduceIte, Nat.reduceAdd, Nat.reduceSub, Nat.reduceLT, Nat.reduceLeDiff, reduceCtorEq, Nat.reduceEqDiff, Int.reduceToNat]; try omega) ?_  | ((first | refine dops_guardT rfl ?_ | refine dops_guardF rfl ?_); with_reducible first | refine condG_t ?_ | refine condG_f ?_ | refine condG_s (fun _ => ?_) (fun _ => ?_)) | refine dops_guard_no rfl ?_ | refine dops_nil (drawQ_nil ?_)) <;> try simp only [nats, hc, List.length_map, go_sem, reduceIte, Nat.reduceAdd, Nat.reduceSub, Nat.reduceLT, Nat.reduceLeDiff, reduceCtorEq, Nat.reduceEqDiff, Int.reduceToNat])))
      rw [← hQ]
      (repeat' (first | (with_reducible first | refine lwp_seq ?_ | refine lwp_ops ?_ | refine seqQ_normal ?_ | refine lops_done ?_ | refine blockQ_normal ?_ | refine lwp_block ?_ | refine lwp_skip ?_ | refine lwp_ret ?_ | refine seqQ_ret ?_ | refine blockQ_ret ?_ | refine roundM_ret ?_ | refine lwp_exit ?_ | refine seqQ_exit ?_ | refine roundM_exit ?_ | refine blockQ_exit ?_ | refine blockQ_other (by decide) ?_) | (with_reducible refine lops_id ?_; (first | refine lops_go2 rfl (by simp only [ go_sem, reduceIte, Nat.reduceAdd, Nat.reduceSub, Nat.reduceLT, Nat.reduceLeDiff, reduceCtorEq, Nat.reduceEqDiff, Int.reduceToNat]; try omega) ?_  | ((first | refine lops_guardT rfl ?_ | refine lops_guardF rfl ?_); with_reducible first | refine condG_t ?_ | refine condG_f ?_ | refine condG_s (fun _ => ?_) (fun _ => ?_)) | refine lops_guard_no rfl ?_) <;> try simp only [ go_sem, reduceIte, Nat.reduceAdd, Nat.reduceSub, Nat.reduceLT, Nat.reduceLeDiff, reduceCtorEq, Nat.reduceEqDiff, Int.reduceToNat]) | (with_reducible refine cond_id ?_; refine lwp_condB rfl ?_; with_reducible first | refine condG_t ?_ | refine condG_f ?_ | refine condG_s (fun _ => ?_) (fun _ => ?_)) | (with_reducible refine draw_id ?_; refine lwp_draw rfl ?_) | (with_reducible refine dops_id ?_; (first | refine dops_go1 rfl (by simp only [ go_sem, reduceIte, Nat.reduceAdd, Nat.reduceSub, Nat.reduceLT, Nat.reduceLeDiff, reduceCtorEq, Nat.reduceEqDiff, Int.reduceToNat]; try omega) ?_  | ((first | refine dops_guardT rfl ?_ | refine dops_guardF rfl ?_); with_reducible first | refine condG_t ?_ | refine condG_f ?_ | refine condG_s (fun _ => ?_) (fun _ => ?_)) | refine dops_guard_no rfl ?_ | refine dops_nil (drawQ_nil ?_)) <;> try simp only [ go_sem, reduceIte, Nat.reduceAdd, Nat.reduceSub, Nat.reduceLT, Nat.reduceLeDiff, reduceCtorEq, Nat.reduceEqDiff, Int.reduceToNat])))
      refine ret_slot h' (q5.le hd (Hp.le_refl _)) ⟨?_, rfl⟩
      simp only [go_sem, reduceIte, Nat.reduceAdd, Nat.reduceSub, Nat.reduceLT, Nat.reduceLeDiff, reduceCtorEq, Nat.reduceEqDiff, Int.reduceToNat]
      rw [reachB_false q6.no]
    | cons k rest =>
      by_cases hkb : k = b
      · have hcb : ((k : Int) == (b : Int)) = true := by simp [hkb]
        (repeat' (first | (with_reducible first | refine lwp_seq ?_ | refine lwp_ops ?_ | refine seqQ_normal ?_ | refine lops_done ?_ | refine blockQ_normal ?_ | refine lwp_block ?_ | refine lwp_skip ?_ | refine lwp_ret ?_ | refine seqQ_ret ?_ | refine blockQ_ret ?_ | refine roundM_ret ?_ | refine lwp_exit ?_ | refine seqQ_exit ?_ | refine roundM_exit ?_ | refine blockQ_exit ?_ | refine blockQ_other (by decide) ?_) | (with_reducible refine lops_id ?_; (first | refine lops_go2 rfl (by simp only [nats, ipos, idx0, hcb, List.length_map, go_sem, reduceIte, Nat.reduceAdd, Nat.reduceSub, Nat.reduceLT, Nat.reduceLeDiff, reduceCtorEq, Nat.reduceEqDiff, Int.reduceToNat]; try omega) ?_  | ((first | refine lops_guardT rfl ?_ | refine lops_guardF rfl ?_); with_reducible first | refine condG_t ?_ | refine condG_f ?_ | refine condG_s (fun _ => ?_) (fun _ => ?_)) | refine lops_guard_no rfl ?_) <;> try simp only [nats, ipos, idx0, hcb, List.length_map, go_sem, reduceIte, Nat.reduceAdd, Nat.reduceSub, Nat.reduceLT, Nat.reduceLeDiff, reduceCtorEq, Nat.reduceEqDiff, Int.reduceToNat]) | (with_reducible refine cond_id ?_; refine lwp_condB rfl ?_; with_reducible first | refine condG_t ?_ | refine condG_f ?_ | refine condG_s (fun _ => ?_) (fun _ => ?_)) | (with_reducible refine draw_id ?_; refine lwp_draw rfl ?_) | (with_reducible refine dops_id ?_; (first | refine dops_go1 rfl (by simp only [nats, ipos, idx0, hcb, List.length_map, go_sem, reduceIte, Nat.reduceAdd, Nat.reduceSub, Nat.reduceLT, Nat.reduceLeDiff, reduceCtorEq, Nat.reduceEqDiff, Int.reduceToNat]; try omega) ?_  | ((first | refine dops_guardT rfl ?_ | refine dops_guardF rfl ?_); with_reducible first | refine condG_t ?_ | refine condG_f ?_ | refine condG_s (fun _ => ?_) (fun _ => ?_)) | refine dops_guard_no rfl ?_ | refine dops_nil (drawQ_nil ?_)) <;> try simp only [nats, ipos, idx0, hcb, List.length_map, go_sem, reduceIte, Nat.reduceAdd, Nat.reduceSub, Nat.reduceLT, Nat.reduceLeDiff, reduceCtorEq, Nat.reduceEqDiff, Int.reduceToNat])))
        rw [← hQ]
        (repeat' (first | (with_reducible first | refine lwp_seq ?_ | refine lwp_ops ?_ | refine seqQ_normal ?_ | refine lops_done ?_ | refine blockQ_normal ?_ | refine lwp_block ?_ | refine lwp_skip ?_ | refine lwp_ret ?_ | refine seqQ_ret ?_ | refine blockQ_ret ?_ | refine roundM_ret ?_ | refine lwp_exit ?_ | refine seqQ_exit ?_ | refine roundM_exit ?_ | refine blockQ_exit ?_ | refine blockQ_other (by decide) ?_) | (with_reducible refine lops_id ?_; (first | refine lops_go2 rfl (by simp only [ go_sem, reduceIte, Nat.reduceAdd, Nat.reduceSub, Nat.reduceLT, Nat.reduceLeDiff, reduceCtorEq, Nat.reduceEqDiff, Int.reduceToNat]; try omega) ?_  | ((first | refine lops_guardT rfl ?_ | refine lops_guardF rfl ?_); with_reducible first | refine condG_t ?_ | refine condG_f ?_ | refine condG_s (fun _ => ?_) (fun _ => ?_)) | refine lops_guard_no rfl ?_) <;> try simp only [ go_sem, reduceIte, Nat.reduceAdd, Nat.reduceSub, Nat.reduceLT, Nat.reduceLeDiff, reduceCtorEq, Nat.reduceEqDiff, Int.reduceToNat]) | (with_reducible refine cond_id ?_; refine lwp_condB rfl ?_; with_reducible first | refine condG_t ?_ | refine condG_f ?_ | refine condG_s (fun _ => ?_) (fun _ => ?_)) | (with_reducible refine draw_id ?_; refine lwp_draw rfl ?_) | (with_reducible refine dops_id ?_; (first | refine dops_go1 rfl (by simp only [ go_sem, reduceIte, Nat.reduceAdd, Nat.reduceSub, Nat.reduceLT, Nat.reduceLeDiff, reduceCtorEq, Nat.reduceEqDiff, Int.reduceToNat]; try omega) ?_  | ((first | refine dops_guardT rfl ?_ | refine dops_guardF rfl ?_); with_reducible first | refine condG_t ?_ | refine condG_f ?_ | refine condG_s (fun _ => ?_) (fun _ => ?_)) | refine dops_guard_no rfl ?_ | refine dops_nil (drawQ_nil ?_)) <;> try simp only [ go_sem, reduceIte, Nat.reduceAdd, Nat.reduceSub, Nat.reduceLT, Nat.reduceLeDiff, reduceCtorEq, Nat.reduceEqDiff, Int.reduceToNat])))
        refine ret_slot h' (q5.le hd (Hp.le_refl _)) ⟨?_, rfl⟩
        simp only [go_sem, reduceIte, Nat.reduceAdd, Nat.reduceSub, Nat.reduceLT, Nat.reduceLeDiff, reduceCtorEq, Nat.reduceEqDiff, Int.reduceToNat]
        subst hkb
        rw [(reachB_iff l a k).2 q6.yes]
      · have hcb : ((k : Int) == (b : Int)) = false := by simp; omega
        (repeat' (first | (with_reducible first | refine lwp_seq ?_ | refine lwp_ops ?_ | refine seqQ_normal ?_ | refine lops_done ?_ | refine blockQ_normal ?_ | refine lwp_block ?_ | refine lwp_skip ?_ | refine lwp_ret ?_ | refine seqQ_ret ?_ | refine blockQ_ret ?_ | refine roundM_ret ?_ | refine lwp_exit ?_ | refine seqQ_exit ?_ | refine roundM_exit ?_ | refine blockQ_exit ?_ | refine blockQ_other (by decide) ?_) | (with_reducible refine lops_id ?_; (first | refine lops_go2 rfl (by simp only [nats, ipos, idx0, hcb, List.length_map, go_sem, reduceIte, Nat.reduceAdd, Nat.reduceSub, Nat.reduceLT, Nat.reduceLeDiff, reduceCtorEq, Nat.reduceEqDiff, Int.reduceToNat]; try omega) ?_  | ((first | refine lops_guardT rfl ?_ | refine lops_guardF rfl ?_); with_reducible first | refine condG_t ?_ | refine condG_f ?_ | refine condG_s (fun _ => ?_) (fun _ => ?_)) | refine lops_guard_no rfl ?_) <;> try simp only [nats, ipos, idx0, hcb, List.length_map, go_sem, reduceIte, Nat.reduceAdd, Nat.reduceSub, Nat.reduceLT, Nat.reduceLeDiff, reduceCtorEq, Nat.reduceEqDiff, Int.reduceToNat]) | (with_reducible refine cond_id ?_; refine lwp_condB rfl ?_; with_reducible first | refine condG_t ?_ | refine condG_f ?_ | refine condG_s (fun _ => ?_) (fun _ => ?_)) | (with_reducible refine draw_id ?_; refine lwp_draw rfl ?_) | (with_reducible refine dops_id ?_; (first | refine dops_go1 rfl (by simp only [nats, ipos, idx0, hcb, List.length_map, go_sem, reduceIte, Nat.reduceAdd, Nat.reduceSub, Nat.reduceLT, Nat.reduceLeDiff, reduceCtorEq, Nat.reduceEqDiff, Int.reduceToNat]; try omega) ?_  | ((first | refine dops_guardT rfl ?_ | refine dops_guardF rfl ?_); with_reducible first | refine condG_t ?_ | refine condG_f ?_ | refine condG_s (fun _ => ?_) (fun _ => ?_)) | refine dops_guard_no rfl ?_ | refine dops_nil (drawQ_nil ?_)) <;> try simp only [nats, ipos, idx0, hcb, List.length_map, go_sem, reduceIte, Nat.reduceAdd, Nat.reduceSub, Nat.reduceLT, Nat.reduceLeDiff, reduceCtorEq, Nat.reduceEqDiff, Int.reduceToNat])))
        refine lwp_loopM (fun q : Nat × List Bool × List Nat × Nat => mkFrom 57 0 [(1, wes own l), (3, .int .i64 b), (9, .rs nx .leaf 0 n), (10, nats q.2.2.2 (k :: q.2.2.1)), (27, wes own l), (28, .int .i64 l.length), (29, .int .i64 q.1)])
          (fun q hp2 nx2 => q.1 ≤ l.length ∧ nx < q.2.2.2 ∧ q.2.2.2 < nx2 ∧ hp2 nx = some (.arr .leaf (q.2.1.map V.bool)) ∧ hp2 q.2.2.2 = some .tip ∧ Hp.same nx h' hp2 ∧ BfsIn n (Edge l) a b k (fun y => ∃ w ∈ l.take q.1, w.f = k ∧ w.t = y) q.2.1 q.2.2.1 ∧ unseen q.2.1 + q.2.2.1.length ≤ unseen seen + rest.length)
          (fun q => l.length - q.1) (0, seen, rest, id) ⟨Nat.zero_le _, q1, by dsimp only; omega, q3, q4, q5, (q6.start' hkb).more (fun y hy => by simp at hy), Nat.le_refl _⟩ ?_ ?_
        · simp only [WkL, mkFrom, Int.natCast_add, Int.natCast_one, Int.natCast_zero, nats, wes, List.map_cons, go_sem, reduceIte, Nat.reduceAdd, Nat.reduceSub, Nat.reduceLT, Nat.reduceLeDiff, reduceCtorEq, Nat.reduceEqDiff, Int.reduceToNat]
        · rintro ⟨j, seen2, rest2, id2⟩ hp2 nx2 ⟨r1, r2, r3, r4, r5, r6, r7, r8⟩
          generalize hQ2 : roundM _ _ _ _ _ = Q2
          dsimp only at r1 r2 r3 r4 r5 r7 r8
          simp only [mkFrom, go_sem, reduceIte, Nat.reduceAdd, Nat.reduceSub, Nat.reduceLT, Nat.reduceLeDiff, reduceCtorEq, Nat.reduceEqDiff, Int.reduceToNat]
          rcases Nat.lt_or_ge j l.length with hlt | hge
          · have hc : decide ((j : Int) < (l.length : Int)) = true := decide_eq_true (by omega)
            have hg : (l.map We.v).getD j (.tup []) = .agg [.int .i64 l[j].f, .int .i64 l[j].t, .bool l[j].p.n, .int .i64 l[j].p.a] := getD_map' We.v l j hlt
            have hw : IntKind.i64.wrap ((j : Int) + 1) = ((j + 1 : Nat) : Int) := by rw [wrap_in] <;> omega
            have htn : l[j].t < n := (hfit l[j] (List.getElem_mem _)).2.1
            have hgs := getD_bool seen2 l[j].t (by rw [r7.len]; exact htn)
            have hsl := r7.len
            have hl1 : nx < nx2 := by omega
            have htk : l.take (j + 1) = l.take j ++ [l[j]] := List.take_succ_eq_append_getElem hlt
            have hcap : (rest2.length + 1 + 1) * 8 ≤ 140737488355328 := by simp only [List.length_cons] at q7; omega
            have hDD : ∀ y, (∃ w ∈ l.take (j + 1), w.f = k ∧ w.t = y) → (∃ w ∈ l.take j, w.f = k ∧ w.t = y) ∨ (l[j].f = k ∧ y = l[j].t) := by
              rintro y ⟨w, hw, h1, h2⟩
              rw [htk] at hw
              rcases List.mem_append.1 hw with hw | hw
              · exact .inl ⟨w, hw, h1, h2⟩
              · simp at hw; subst hw; exact .inr ⟨h1, h2.symm⟩
            by_cases hfk : l[j].f = k
            · have hcf : ((l[j].f : Int) == (k : Int)) = true := by simp [hfk]
              cases hs : seen2.getD l[j].t false with
              | true =>
                (repeat' (first | (with_reducible first | refine lwp_seq ?_ | refine lwp_ops ?_ | refine seqQ_normal ?_ | refine lops_done ?_ | refine blockQ_normal ?_ | refine lwp_block ?_ | refine lwp_skip ?_ | refine lwp_ret ?_ | refine seqQ_ret ?_ | refine blockQ_ret ?_ | refine roundM_ret ?_ | refine lwp_exit ?_ | refine seqQ_exit ?_ | refine roundM_exit ?_ | refine blockQ_exit ?_ | refine blockQ_other (by decide) ?_) | (with_reducible refine lops_id ?_; (first | refine lops_go2 rfl (by simp only [nats, idx0, hc, hg, hw, hlt, htn, hgs, hs, hsl, hl1, hcf, r4, List.length_map, Int.toNat_natCast, go_sem, reduceIte, Nat.reduceAdd, Nat.reduceSub, Nat.reduceLT, Nat.reduceLeDiff, reduceCtorEq, Nat.reduceEqDiff, Int.reduceToNat]; try omega) ?_  | ((first | refine lops_guardT rfl ?_ | refine lops_guardF rfl ?_); with_reducible first | refine condG_t ?_ | refine condG_f ?_ | refine condG_s (fun _ => ?_) (fun _ => ?_)) | refine lops_guard_no rfl ?_) <;> try simp only [nats, idx0, hc, hg, hw, hlt, htn, hgs, hs, hsl, hl1, hcf, r4, List.length_map, Int.toNat_natCast, go_sem, reduceIte, Nat.reduceAdd, Nat.reduceSub, Nat.reduceLT, Nat.reduceLeDiff, reduceCtorEq, Nat.reduceEqDiff, Int.reduceToNat]) | (with_reducible refine cond_id ?_; refine lwp_condB rfl ?_; with_reducible first | refine condG_t ?_ | refine condG_f ?_ | refine condG_s (fun _ => ?_) (fun _ => ?_)) | (with_reducible refine draw_id ?_; refine lwp_draw rfl ?_) | (with_reducible refine dops_id ?_; (first | refine dops_go1 rfl (by simp only [nats, idx0, hc, hg, hw, hlt, htn, hgs, hs, hsl, hl1, hcf, r4, List.length_map, Int.toNat_natCast, go_sem, reduceIte, Nat.reduceAdd, Nat.reduceSub, Nat.reduceLT, Nat.reduceLeDiff, reduceCtorEq, Nat.reduceEqDiff, Int.reduceToNat]; try omega) ?_  | ((first | refine dops_guardT rfl ?_ | refine dops_guardF rfl ?_); with_reducible first | refine condG_t ?_ | refine condG_f ?_ | refine condG_s (fun _ => ?_) (fun _ => ?_)) | refine dops_guard_no rfl ?_ | refine dops_nil (drawQ_nil ?_)) <;> try simp only [nats, idx0, hc, hg, hw, hlt, htn, hgs, hs, hsl, hl1, hcf, r4, List.length_map, Int.toNat_natCast, go_sem, reduceIte, Nat.reduceAdd, Nat.reduceSub, Nat.reduceLT, Nat.reduceLeDiff, reduceCtorEq, Nat.reduceEqDiff, Int.reduceToNat])))
                rw [← hQ2]
                refine roundM_normal (j + 1, seen2, rest2, id2) (by dsimp only; omega) ⟨hlt, r2, by dsimp only; omega, ?_, ?_, (by (try dsimp only); repeat (first | exact r6 | refine same_set ?_ (by omega) _ | refine same_del ?_ (by omega))), r7.more (fun y hy => (hDD y hy).imp (fun h => h) fun ⟨_, e⟩ => by rw [e]; exact hs), r8⟩ ?_
                · simp only [r4, hl1, go_sem, reduceIte, Nat.reduceAdd, Nat.reduceSub, Nat.reduceLT, Nat.reduceLeDiff, reduceCtorEq, Nat.reduceEqDiff, Int.reduceToNat]
                · simp only [r5, r3, go_sem, reduceIte, Nat.reduceAdd, Nat.reduceSub, Nat.reduceLT, Nat.reduceLeDiff, reduceCtorEq, Nat.reduceEqDiff, Int.reduceToNat]
                · simp only [WkL, mkFrom, Int.natCast_add, Int.natCast_one, Int.natCast_zero, nats, wes, List.map_cons, go_sem, reduceIte, Nat.reduceAdd, Nat.reduceSub, Nat.reduceLT, Nat.reduceLeDiff, reduceCtorEq, Nat.reduceEqDiff, Int.reduceToNat]
              | false =>
                have hun := unseen_set seen2 l[j].t (by rw [hsl]; exact htn) hs
                (repeat' (first | (with_reducible first | refine lwp_seq ?_ | refine lwp_ops ?_ | refine seqQ_normal ?_ | refine lops_done ?_ | refine blockQ_normal ?_ | refine lwp_block ?_ | refine lwp_skip ?_ | refine lwp_ret ?_ | refine seqQ_ret ?_ | refine blockQ_ret ?_ | refine roundM_ret ?_ | refine lwp_exit ?_ | refine seqQ_exit ?_ | refine roundM_exit ?_ | refine blockQ_exit ?_ | refine blockQ_other (by decide) ?_) | (with_reducible refine lops_id ?_; (first | refine lops_go2 rfl (by simp only [nats, idx0, hc, hg, hw, hlt, htn, hgs, hs, hsl, hl1, hcf, r4, r5, r2, r3, hcap, List.length_map, Int.toNat_natCast, go_sem, reduceIte, Nat.reduceAdd, Nat.reduceSub, Nat.reduceLT, Nat.reduceLeDiff, reduceCtorEq, Nat.reduceEqDiff, Int.reduceToNat]; try omega) ?_ | refine lops_go3 rfl rfl (by simp only [ nats, idx0, hc, hg, hw, hlt, htn, hgs, hs, hsl, hl1, hcf, r4, r5, r2, r3, hcap, List.length_map, Int.toNat_natCast, go_sem, reduceIte, Nat.reduceAdd, Nat.reduceSub, Nat.reduceLT, Nat.reduceLeDiff, reduceCtorEq, Nat.reduceEqDiff, Int.reduceToNat]; try omega) ?_ | ((first | refine lops_guardT rfl ?_ | refine lops_guardF rfl ?_); with_reducible first | refine condG_t ?_ | refine condG_f ?_ | refine condG_s (fun _ => ?_) (fun _ => ?_)) | refine lops_guard_no rfl ?_) <;> try simp only [nats, idx0, hc, hg, hw, hlt, htn, hgs, hs, hsl, hl1, hcf, r4, r5, r2, r3, hcap, List.length_map, Int.toNat_natCast, go_sem, reduceIte, Nat.reduceAdd, Nat.reduceSub, Nat.reduceLT, Nat.reduceLeDiff, reduceCtorEq, Nat.reduceEqDiff, Int.reduceToNat]) | (with_reducible refine cond_id ?_; refine lwp_condB rfl ?_; with_reducible first | refine condG_t ?_ | refine condG_f ?_ | refine condG_s (fun _ => ?_) (fun _ => ?_)) | (with_reducible refine draw_id ?_; refine lwp_draw rfl ?_) | (with_reducible refine dops_id ?_; (first | refine dops_go1 rfl (by simp only [nats, idx0, hc, hg, hw, hlt, htn, hgs, hs, hsl, hl1, hcf, r4, r5, r2, r3, hcap, List.length_map, Int.toNat_natCast, go_sem, reduceIte, Nat.reduceAdd, Nat.reduceSub, Nat.reduceLT, Nat.reduceLeDiff, reduceCtorEq, Nat.reduceEqDiff, Int.reduceToNat]; try omega) ?_  | ((first | refine dops_guardT rfl ?_ | refine dops_guardF rfl ?_); with_reducible first | refine condG_t ?_ | refine condG_f ?_ | refine condG_s (fun _ => ?_) (fun _ => ?_)) | refine dops_guard_no rfl ?_ | refine dops_nil (drawQ_nil ?_)) <;> try simp only [nats, idx0, hc, hg, hw, hlt, htn, hgs, hs, hsl, hl1, hcf, r4, r5, r2, r3, hcap, List.length_map, Int.toNat_natCast, go_sem, reduceIte, Nat.reduceAdd, Nat.reduceSub, Nat.reduceLT, Nat.reduceLeDiff, reduceCtorEq, Nat.reduceEqDiff, Int.reduceToNat])))
                rw [← hQ2]
                have hun2 : unseen (seen2.set l[j].t true) + (rest2 ++ [l[j].t]).length ≤ unseen seen + rest.length := by simp only [List.length_append, List.length_cons, List.length_nil]; omega
                refine roundM_normal (j + 1, seen2.set l[j].t true, rest2 ++ [l[j].t], nx2 + 18) (by dsimp only; omega) ⟨hlt, by dsimp only; omega, by dsimp only; omega, ?_, ?_, (by (try dsimp only); repeat (first | exact r6 | refine same_set ?_ (by omega) _ | refine same_del ?_ (by omega))), (r7.one htn ⟨l[j], List.getElem_mem _, hfk, rfl⟩).more (fun y hy => .inl ((hDD y hy).imp (fun h => h) fun h => h.2)), hun2⟩ ?_
                · have e1 : (nx = id2) = False := eq_false (by omega)
                  simp only [e1, r4, hl1, hsl, htn, hgs, List.map_set, storePart_self, go_sem, reduceIte, Nat.reduceAdd, Nat.reduceSub, Nat.reduceLT, Nat.reduceLeDiff, reduceCtorEq, Nat.reduceEqDiff, Int.reduceToNat]
                · simp only [go_sem, reduceIte, Nat.reduceAdd, Nat.reduceSub, Nat.reduceLT, Nat.reduceLeDiff, reduceCtorEq, Nat.reduceEqDiff, Int.reduceToNat]
                · simp only [WkL, mkFrom, Int.natCast_add, Int.natCast_one, Int.natCast_zero, nats, wes, List.map_cons, List.map_append, go_sem, reduceIte, Nat.reduceAdd, Nat.reduceSub, Nat.reduceLT, Nat.reduceLeDiff, reduceCtorEq, Nat.reduceEqDiff, Int.reduceToNat]
            · have hcf : ((l[j].f : Int) == (k : Int)) = false := by simp; omega
              (repeat' (first | (with_reducible first | refine lwp_seq ?_ | refine lwp_ops ?_ | refine seqQ_normal ?_ | refine lops_done ?_ | refine blockQ_normal ?_ | refine lwp_block ?_ | refine lwp_skip ?_ | refine lwp_ret ?_ | refine seqQ_ret ?_ | refine blockQ_ret ?_ | refine roundM_ret ?_ | refine lwp_exit ?_ | refine seqQ_exit ?_ | refine roundM_exit ?_ | refine blockQ_exit ?_ | refine blockQ_other (by decide) ?_) | (with_reducible refine lops_id ?_; (first | refine lops_go2 rfl (by simp only [nats, idx0, hc, hg, hw, hlt, htn, hgs, hsl, hl1, hcf, r4, List.length_map, Int.toNat_natCast, go_sem, reduceIte, Nat.reduceAdd, Nat.reduceSub, Nat.reduceLT, Nat.reduceLeDiff, reduceCtorEq, Nat.reduceEqDiff, Int.reduceToNat]; try omega) ?_  | ((first | refine lops_guardT rfl ?_ | refine lops_guardF rfl ?_); with_reducible first | refine condG_t ?_ | refine condG_f ?_ | refine condG_s (fun _ => ?_) (fun _ => ?_)) | refine lops_guard_no rfl ?_) <;> try simp only [nats, idx0, hc, hg, hw, hlt, htn, hgs, hsl, hl1, hcf, r4, List.length_map, Int.toNat_natCast, go_sem, reduceIte, Nat.reduceAdd, Nat.reduceSub, Nat.reduceLT, Nat.reduceLeDiff, reduceCtorEq, Nat.reduceEqDiff, Int.reduceToNat]) | (with_reducible refine cond_id ?_; refine lwp_condB rfl ?_; with_reducible first | refine condG_t ?_ | refine condG_f ?_ | refine condG_s (fun _ => ?_) (fun _ => ?_)) | (with_reducible refine draw_id ?_; refine lwp_draw rfl ?_) | (with_reducible refine dops_id ?_; (first | refine dops_go1 rfl (by simp only [nats, idx0, hc, hg, hw, hlt, htn, hgs, hsl, hl1, hcf, r4, List.length_map, Int.toNat_natCast, go_sem, reduceIte, Nat.reduceAdd, Nat.reduceSub, Nat.reduceLT, Nat.reduceLeDiff, reduceCtorEq, Nat.reduceEqDiff, Int.reduceToNat]; try omega) ?_  | ((first | refine dops_guardT rfl ?_ | refine dops_guardF rfl ?_); with_reducible first | refine condG_t ?_ | refine condG_f ?_ | refine condG_s (fun _ => ?_) (fun _ => ?_)) | refine dops_guard_no rfl ?_ | refine dops_nil (drawQ_nil ?_)) <;> try simp only [nats, idx0, hc, hg, hw, hlt, htn, hgs, hsl, hl1, hcf, r4, List.length_map, Int.toNat_natCast, go_sem, reduceIte, Nat.reduceAdd, Nat.reduceSub, Nat.reduceLT, Nat.reduceLeDiff, reduceCtorEq, Nat.reduceEqDiff, Int.reduceToNat])))
              rw [← hQ2]
              refine roundM_normal (j + 1, seen2, rest2, id2) (by dsimp only; omega) ⟨hlt, r2, by dsimp only; omega, ?_, ?_, (by (try dsimp only); repeat (first | exact r6 | refine same_set ?_ (by omega) _ | refine same_del ?_ (by omega))), r7.more (fun y hy => (hDD y hy).imp (fun h => h) fun ⟨e, _⟩ => absurd e hfk), r8⟩ ?_
              · simp only [r4, hl1, go_sem, reduceIte, Nat.reduceAdd, Nat.reduceSub, Nat.reduceLT, Nat.reduceLeDiff, reduceCtorEq, Nat.reduceEqDiff, Int.reduceToNat]
              · simp only [r5, r3, go_sem, reduceIte, Nat.reduceAdd, Nat.reduceSub, Nat.reduceLT, Nat.reduceLeDiff, reduceCtorEq, Nat.reduceEqDiff, Int.reduceToNat]
              · simp only [WkL, mkFrom, Int.natCast_add, Int.natCast_one, Int.natCast_zero, nats, wes, List.map_cons, go_sem, reduceIte, Nat.reduceAdd, Nat.reduceSub, Nat.reduceLT, Nat.reduceLeDiff, reduceCtorEq, Nat.reduceEqDiff, Int.reduceToNat]
          · have hc : decide ((j : Int) < (l.length : Int)) = false := decide_eq_false (by omega)
            (repeat' (first | (with_reducible first | refine lwp_seq ?_ | refine lwp_ops ?_ | refine seqQ_normal ?_ | refine lops_done ?_ | refine blockQ_normal ?_ | refine lwp_block ?_ | refine lwp_skip ?_ | refine lwp_ret ?_ | refine seqQ_ret ?_ | refine blockQ_ret ?_ | refine roundM_ret ?_ | refine lwp_exit ?_ | refine seqQ_exit ?_ | refine roundM_exit ?_ | refine blockQ_exit ?_ | refine blockQ_other (by decide) ?_) | (with_reducible refine lops_id ?_; (first | refine lops_go2 rfl (by simp only [hc, go_sem, reduceIte, Nat.reduceAdd, Nat.reduceSub, Nat.reduceLT, Nat.reduceLeDiff, reduceCtorEq, Nat.reduceEqDiff, Int.reduceToNat]; try omega) ?_  | ((first | refine lops_guardT rfl ?_ | refine lops_guardF rfl ?_); with_reducible first | refine condG_t ?_ | refine condG_f ?_ | refine condG_s (fun _ => ?_) (fun _ => ?_)) | refine lops_guard_no rfl ?_) <;> try simp only [hc, go_sem, reduceIte, Nat.reduceAdd, Nat.reduceSub, Nat.reduceLT, Nat.reduceLeDiff, reduceCtorEq, Nat.reduceEqDiff, Int.reduceToNat]) | (with_reducible refine cond_id ?_; refine lwp_condB rfl ?_; with_reducible first | refine condG_t ?_ | refine condG_f ?_ | refine condG_s (fun _ => ?_) (fun _ => ?_)) | (with_reducible refine draw_id ?_; refine lwp_draw rfl ?_) | (with_reducible refine dops_id ?_; (first | refine dops_go1 rfl (by simp only [hc, go_sem, reduceIte, Nat.reduceAdd, Nat.reduceSub, Nat.reduceLT, Nat.reduceLeDiff, reduceCtorEq, Nat.reduceEqDiff, Int.reduceToNat]; try omega) ?_  | ((first | refine dops_guardT rfl ?_ | refine dops_guardF rfl ?_); with_reducible first | refine condG_t ?_ | refine condG_f ?_ | refine condG_s (fun _ => ?_) (fun _ => ?_)) | refine dops_guard_no rfl ?_ | refine dops_nil (drawQ_nil ?_)) <;> try simp only [hc, go_sem, reduceIte, Nat.reduceAdd, Nat.reduceSub, Nat.reduceLT, Nat.reduceLeDiff, reduceCtorEq, Nat.reduceEqDiff, Int.reduceToNat])))
            rw [← hQ2]
            (repeat' (first | (with_reducible first | refine lwp_seq ?_ | refine lwp_ops ?_ | refine seqQ_normal ?_ | refine lops_done ?_ | refine blockQ_normal ?_ | refine lwp_block ?_ | refine lwp_skip ?_ | refine lwp_ret ?_ | refine seqQ_ret ?_ | refine blockQ_ret ?_ | refine roundM_ret ?_ | refine lwp_exit ?_ | refine seqQ_exit ?_ | refine roundM_exit ?_ | refine blockQ_exit ?_ | refine blockQ_other (by decide) ?_) | (with_reducible refine lops_id ?_; (first | refine lops_go2 rfl (by simp only [nats, List.length_map, go_sem, reduceIte, Nat.reduceAdd, Nat.reduceSub, Nat.reduceLT, Nat.reduceLeDiff, reduceCtorEq, Nat.reduceEqDiff, Int.reduceToNat]; try omega) ?_  | ((first | refine lops_guardT rfl ?_ | refine lops_guardF rfl ?_); with_reducible first | refine condG_t ?_ | refine condG_f ?_ | refine condG_s (fun _ => ?_) (fun _ => ?_)) | refine lops_guard_no rfl ?_) <;> try simp only [nats, List.length_map, go_sem, reduceIte, Nat.reduceAdd, Nat.reduceSub, Nat.reduceLT, Nat.reduceLeDiff, reduceCtorEq, Nat.reduceEqDiff, Int.reduceToNat]) | (with_reducible refine cond_id ?_; refine lwp_condB rfl ?_; with_reducible first | refine condG_t ?_ | refine condG_f ?_ | refine condG_s (fun _ => ?_) (fun _ => ?_)) | (with_reducible refine draw_id ?_; refine lwp_draw rfl ?_) | (with_reducible refine dops_id ?_; (first | refine dops_go1 rfl (by simp only [nats, List.length_map, go_sem, reduceIte, Nat.reduceAdd, Nat.reduceSub, Nat.reduceLT, Nat.reduceLeDiff, reduceCtorEq, Nat.reduceEqDiff, Int.reduceToNat]; try omega) ?_  | ((first | refine dops_guardT rfl ?_ | refine dops_guardF rfl ?_); with_reducible first | refine condG_t ?_ | refine condG_f ?_ | refine condG_s (fun _ => ?_) (fun _ => ?_)) | refine dops_guard_no rfl ?_ | refine dops_nil (drawQ_nil ?_)) <;> try simp only [nats, List.length_map, go_sem, reduceIte, Nat.reduceAdd, Nat.reduceSub, Nat.reduceLT, Nat.reduceLeDiff, reduceCtorEq, Nat.reduceEqDiff, Int.reduceToNat])))
            rw [← hQ]
            have hfl : List.take rest2.length (rest2.map fun x : Nat => V.int .i64 (x : Int)) = rest2.map fun x : Nat => V.int .i64 (x : Int) := List.take_of_length_le (by simp)
            rw [hfl]
            refine roundM_normal (seen2, rest2, id2) (by simp only [List.length_cons]; omega) ⟨r2, r3, r4, r5, r6, (r7.more (D' := Edge l k) fun y hy => .inl ?_).finish, ?_⟩ ?_
            · obtain ⟨w, h1, h2, h3⟩ := hy
              exact ⟨w, by rw [show j = l.length by omega, List.take_length]; exact h1, h2, h3⟩
            · simp only [List.length_cons] at q7
              dsimp only
              omega
            · simp only [WkL, mkFrom, Int.natCast_add, Int.natCast_one, Int.natCast_zero, nats, go_sem, reduceIte, Nat.reduceAdd, Nat.reduceSub, Nat.reduceLT, Nat.reduceLeDiff, reduceCtorEq, Nat.reduceEqDiff, Int.reduceToNat]
end Go.Proofs.Ytmpmngakheoacaa
