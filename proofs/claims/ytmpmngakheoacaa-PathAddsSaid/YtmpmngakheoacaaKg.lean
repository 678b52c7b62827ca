/-
Texts of this proof, one behind the other. No conditions.
-/
import Derived.Shelf.SlSortCmp.WholeK
import Derived.Shelf.SlSortCmp.NoneTotal
import Derived.Shelf.SlSortCmp.Whole1
import Derived.Test.YtmpmngakheoacaaProg
import Derived.Test.YtmpmngakheoacaaKf
import Derived.Test.YtmpmngakheoacaaKe
import Derived.Test.YtmpmngakheoacaaKPe
/-
The closure of slices.SortFunc, as the kit knows it, laid over this program: written by a tool of the kit. No conditions.
-/
namespace Go.Proofs.Ytmpmngakheoacaa
open Go.Shelf
def sortWy_ren : Go.Shelf.Ren := ⟨fun | 6 => 46 | 15 => 60 | 14 => 59 | 28 => 76 | 29 => 77 | 20 => 68 | 21 => 69 | 22 => 70 | 23 => 71 | 24 => 72 | 25 => 73 | 26 => 74 | 27 => 75 | 46 => 80 | 47 => 81 | 48 => 82 | 49 => 83 | 50 => 84 | 57 => 93 | n => n, fun | 22 => 22 | 24 => 50 | 25 => 76 | 3 => 3 | 39 => 66 | 0 => 0 | 53 => 122 | 55 => 124 | 4 => 4 | 46 => 115 | 45 => 114 | 50 => 119 | 5 => 5 | 9 => 9 | 66 => 127 | 70 => 131 | 76 => 138 | 77 => 139 | n => n, fun | n => n⟩
theorem sortWy : Go.Proofs.SlLaysF0.n6 Try.prog sortWy_ren := {
  mixed := by kernel_rfl
  f6 := ⟨Try.f46.name, by decide, Try.func46.trans (congrArg some (by kernel_rfl))⟩
  f14 := ⟨Try.f59.name, by decide, Try.func59.trans (congrArg some (by kernel_rfl))⟩
  f15 := Try.func60.trans (congrArg some (by kernel_rfl))
  f20 := ⟨Try.f68.name, by decide, Try.func68.trans (congrArg some (by kernel_rfl))⟩
  f21 := ⟨Try.f69.name, by decide, Try.func69.trans (congrArg some (by kernel_rfl))⟩
  f22 := ⟨Try.f70.name, by decide, Try.func70.trans (congrArg some (by kernel_rfl))⟩
  f23 := ⟨Try.f71.name, by decide, Try.func71.trans (congrArg some (by kernel_rfl))⟩
  f24 := ⟨Try.f72.name, by decide, Try.func72.trans (congrArg some (by kernel_rfl))⟩
  f25 := ⟨Try.f73.name, by decide, Try.func73.trans (congrArg some (by kernel_rfl))⟩
  f26 := ⟨Try.f74.name, by decide, Try.func74.trans (congrArg some (by kernel_rfl))⟩
  f27 := ⟨Try.f75.name, by decide, Try.func75.trans (congrArg some (by kernel_rfl))⟩
  f28 := Try.func76.trans (congrArg some (by kernel_rfl))
  f29 := Try.func77.trans (congrArg some (by kernel_rfl))
  f46 := ⟨Try.f80.name, by decide, Try.func80.trans (congrArg some (by kernel_rfl))⟩
  f47 := Try.func81.trans (congrArg some (by kernel_rfl))
  f48 := Try.func82.trans (congrArg some (by kernel_rfl))
  f49 := ⟨Try.f83.name, by decide, Try.func83.trans (congrArg some (by kernel_rfl))⟩
  f50 := ⟨Try.f84.name, by decide, Try.func84.trans (congrArg some (by kernel_rfl))⟩
  f57 := ⟨Try.f93.name, by decide, Try.func93.trans (congrArg some (by kernel_rfl))⟩
  t0 := Try.underlying0
  a0 := Try.isAgg0
  z0 := Try.sizeOf0
  v0 := Try.zeroValue0
  t3 := Try.underlying3
  a3 := Try.isAgg3
  z3 := Try.sizeOf3
  v3 := Try.zeroValue3
  t4 := Try.underlying4
  a4 := Try.isAgg4
  z4 := Try.sizeOf4
  v4 := Try.zeroValue4
  t5 := Try.underlying5
  a5 := Try.isAgg5
  z5 := Try.sizeOf5
  v5 := Try.zeroValue5
  t9 := Try.underlying9
  a9 := Try.isAgg9
  z9 := Try.sizeOf9
  v9 := Try.zeroValue9
  t22 := Try.underlying22
  a22 := Try.isAgg22
  z22 := Try.sizeOf22
  v22 := Try.zeroValue22
  t25 := Try.underlying76
  a25 := Try.isAgg76
  z25 := Try.sizeOf76
  v25 := Try.zeroValue76
  t39 := Try.underlying66
  a39 := Try.isAgg66
  z39 := Try.sizeOf66
  v39 := Try.zeroValue66
  t45 := Try.underlying114
  a45 := Try.isAgg114
  z45 := Try.sizeOf114
  v45 := Try.zeroValue114
  t46 := Try.underlying115
  a46 := Try.isAgg115
  z46 := Try.sizeOf115
  v46 := Try.zeroValue115
  t50 := Try.underlying119
  a50 := Try.isAgg119
  z50 := Try.sizeOf119
  v50 := Try.zeroValue119
  t53 := Try.underlying122
  a53 := Try.isAgg122
  z53 := Try.sizeOf122
  v53 := Try.zeroValue122
  t55 := Try.underlying124
  a55 := Try.isAgg124
  z55 := Try.sizeOf124
  v55 := Try.zeroValue124
  t66 := Try.underlying127
  a66 := Try.isAgg127
  z66 := Try.sizeOf127
  v66 := Try.zeroValue127
  t70 := Try.underlying131
  a70 := Try.isAgg131
  z70 := Try.sizeOf131
  v70 := Try.zeroValue131
  t76 := Try.underlying138
  a76 := Try.isAgg138
  z76 := Try.sizeOf138
  v76 := Try.zeroValue138
  t77 := Try.underlying139
  a77 := Try.isAgg139
  z77 := Try.sizeOf139
  v77 := Try.zeroValue139 }
def sortPa_ren : Go.Shelf.Ren := ⟨fun | 6 => 66 | 15 => 60 | 14 => 79 | 28 => 76 | 29 => 77 | 20 => 85 | 21 => 86 | 22 => 87 | 23 => 88 | 24 => 89 | 25 => 90 | 26 => 91 | 27 => 92 | 46 => 94 | 47 => 81 | 48 => 82 | 49 => 95 | 50 => 96 | 57 => 97 | n => n, fun | 22 => 41 | 24 => 44 | 25 => 112 | 3 => 3 | 39 => 66 | 0 => 0 | 53 => 122 | 55 => 124 | 4 => 4 | 46 => 115 | 45 => 114 | 50 => 119 | 5 => 5 | 9 => 9 | 66 => 127 | 70 => 131 | 76 => 138 | 77 => 139 | n => n, fun | n => n⟩
theorem sortPa : Go.Proofs.SlLaysF0.n6 Try.prog sortPa_ren := {
  mixed := by kernel_rfl
  f6 := ⟨Try.f66.name, by decide, Try.func66.trans (congrArg some (by kernel_rfl))⟩
  f14 := ⟨Try.f79.name, by decide, Try.func79.trans (congrArg some (by kernel_rfl))⟩
  f15 := Try.func60.trans (congrArg some (by kernel_rfl))
  f20 := ⟨Try.f85.name, by decide, Try.func85.trans (congrArg some (by kernel_rfl))⟩
  f21 := ⟨Try.f86.name, by decide, Try.func86.trans (congrArg some (by kernel_rfl))⟩
  f22 := ⟨Try.f87.name, by decide, Try.func87.trans (congrArg some (by kernel_rfl))⟩
  f23 := ⟨Try.f88.name, by decide, Try.func88.trans (congrArg some (by kernel_rfl))⟩
  f24 := ⟨Try.f89.name, by decide, Try.func89.trans (congrArg some (by kernel_rfl))⟩
  f25 := ⟨Try.f90.name, by decide, Try.func90.trans (congrArg some (by kernel_rfl))⟩
  f26 := ⟨Try.f91.name, by decide, Try.func91.trans (congrArg some (by kernel_rfl))⟩
  f27 := ⟨Try.f92.name, by decide, Try.func92.trans (congrArg some (by kernel_rfl))⟩
  f28 := Try.func76.trans (congrArg some (by kernel_rfl))
  f29 := Try.func77.trans (congrArg some (by kernel_rfl))
  f46 := ⟨Try.f94.name, by decide, Try.func94.trans (congrArg some (by kernel_rfl))⟩
  f47 := Try.func81.trans (congrArg some (by kernel_rfl))
  f48 := Try.func82.trans (congrArg some (by kernel_rfl))
  f49 := ⟨Try.f95.name, by decide, Try.func95.trans (congrArg some (by kernel_rfl))⟩
  f50 := ⟨Try.f96.name, by decide, Try.func96.trans (congrArg some (by kernel_rfl))⟩
  f57 := ⟨Try.f97.name, by decide, Try.func97.trans (congrArg some (by kernel_rfl))⟩
  t0 := Try.underlying0
  a0 := Try.isAgg0
  z0 := Try.sizeOf0
  v0 := Try.zeroValue0
  t3 := Try.underlying3
  a3 := Try.isAgg3
  z3 := Try.sizeOf3
  v3 := Try.zeroValue3
  t4 := Try.underlying4
  a4 := Try.isAgg4
  z4 := Try.sizeOf4
  v4 := Try.zeroValue4
  t5 := Try.underlying5
  a5 := Try.isAgg5
  z5 := Try.sizeOf5
  v5 := Try.zeroValue5
  t9 := Try.underlying9
  a9 := Try.isAgg9
  z9 := Try.sizeOf9
  v9 := Try.zeroValue9
  t22 := Try.underlying41
  a22 := Try.isAgg41
  z22 := Try.sizeOf41
  v22 := Try.zeroValue41
  t25 := Try.underlying112
  a25 := Try.isAgg112
  z25 := Try.sizeOf112
  v25 := Try.zeroValue112
  t39 := Try.underlying66
  a39 := Try.isAgg66
  z39 := Try.sizeOf66
  v39 := Try.zeroValue66
  t45 := Try.underlying114
  a45 := Try.isAgg114
  z45 := Try.sizeOf114
  v45 := Try.zeroValue114
  t46 := Try.underlying115
  a46 := Try.isAgg115
  z46 := Try.sizeOf115
  v46 := Try.zeroValue115
  t50 := Try.underlying119
  a50 := Try.isAgg119
  z50 := Try.sizeOf119
  v50 := Try.zeroValue119
  t53 := Try.underlying122
  a53 := Try.isAgg122
  z53 := Try.sizeOf122
  v53 := Try.zeroValue122
  t55 := Try.underlying124
  a55 := Try.isAgg124
  z55 := Try.sizeOf124
  v55 := Try.zeroValue124
  t66 := Try.underlying127
  a66 := Try.isAgg127
  z66 := Try.sizeOf127
  v66 := Try.zeroValue127
  t70 := Try.underlying131
  a70 := Try.isAgg131
  z70 := Try.sizeOf131
  v70 := Try.zeroValue131
  t76 := Try.underlying138
  a76 := Try.isAgg138
  z76 := Try.sizeOf138
  v76 := Try.zeroValue138
  t77 := Try.underlying139
  a77 := Try.isAgg139
  z77 := Try.sizeOf139
  v77 := Try.zeroValue139 }
end Go.Proofs.Ytmpmngakheoacaa
/-
Contracts of package path, fourth part: paths as one, a path put among least ones. No conditions.
-/
namespace Go.Proofs.Ytmpmngakheoacaa
set_option linter.unusedSimpArgs false
set_option linter.unusedVariables false
set_option linter.unusedSectionVars false
open Go.RowKit Go.Sort
attribute [local irreducible] IntKind.wrap
attribute [local go_sem] Option.some.injEq Prod.mk.injEq false_and and_false Bool.true_eq_false dRun dRest dbare dMerge nones if_true Bool.true_and dgoC dgoCRest fillV okAll nextAll LOper.ok LOper.next LOp.ok LOp.next LVal.ok LVal.out LArg.ev putV binOK pick_true pick_false pick_bool V.undef Sh.size addHp dokAll dnextAll LOper.dok LOper.dres LOp.dok LOp.dout dput conOK veqL leafEq List.take_succ_cons List.take_zero List.take_nil List.drop_succ_cons List.drop_zero List.drop_nil List.set_cons_succ List.set_cons_zero List.getD_cons_succ List.getD_cons_zero List.length_cons List.length_nil List.map_cons List.map_nil List.all_cons List.all_nil List.mem_cons List.not_mem_nil List.replicate_succ List.replicate_zero List.cons_append List.nil_append List.append_nil List.isEmpty_cons List.isEmpty_nil appOwn appHp appOK Option.getD_some Option.isSome_some Option.isSome_none Nat.add_eq Nat.zero_add Nat.add_zero true_and and_true and_self true_implies implies_true false_implies forall_const forall_eq forall_eq_or_imp ne_eq not_false_eq_true not_true_eq_false Bool.not_true Bool.not_false decide_true decide_false Bool.and_true Bool.true_and Bool.and_false Bool.false_and true_or or_true false_or or_false eq_self Bool.false_eq_true nxNe nxNe' tupOf mkFrom bval ogive cutOwn cutE_nil cutE_full cutE_tok cutE_free_nil cutE_free_cons selems Int.toNat_natCast Int.toNat_zero List.take_length Hp.set_app Hp.del_app goOps goRest LOper.plain LOp.isCall LOper.dplain LOp.isStop lops_nil gRun gRest bare gMerge V.gd_true V.gd_false pick_gd pick_gdn pick_and pick_or partOK_self loadPart_self storePart_self dgoOps dgoRest beq_true beq_false partOK_ll partOK_al partOK_aa loadPart_l loadPart_a storePart_la storePart_aa fits_leaf fits_agg leafy_bool leafy_int leafy_str leafy_nilPtr leafy_ptr leafy_ept leafy_sl leafy_rs leafy_nilMap leafy_map leafy_nilChan leafy_chan leafy_fn leafy_nilFn leafy_yld leafy_iface leafy_nilIface veq_aa veq_li veq_lb veq_ls cells_agg cells_leaf cell_agg cell_leaf veq_ptr1 veq_ptr2 veq_ptr3 veq_ptr4 veq_ptr5 veq_slice1 veq_slice2 veq_func1 veq_func2 veq_func3 veq_iface1 veq_iface2 veq_iface3 veq_map1 veq_map2 veq_map3 veq_chan1 veq_chan2 veq_chan3 conAt_add conAt_zero untaken wrHp Hp.turn delHp Option.isNone_some Option.isNone_none nxFq goOps2 goRest2 LOper.plain2 LOp.isApp ltNe ltNe1 ltNe' ltNe1' delO_nil delO_tok

/-- Two paths as one; an error's number. -/
def Pa.then (p q : Pa) : Pa × Int :=
  if (!p.ok || !q.ok) = true then (Pa.nought, 2)
  else if q.n = true then (q, 0)
  else if Pa.ok ⟨p.n, p.a + q.a⟩ = false then (Pa.nought, 1) else (⟨p.n, p.a + q.a⟩, 0)
theorem Pa.then_thn (p q : Pa) : p.thn q = if (p.then q).2 = 0 then some (p.then q).1 else none := by
  unfold Pa.thn Pa.then
  split
  · rfl
  · split
    · rfl
    · split <;> rfl
theorem then_wrap (p q : Pa) (h1 : p.ok = true) (h2 : q.ok = true) : IntKind.i64.wrap (p.a + q.a) = p.a + q.a := by
  simp only [Pa.ok, Bool.and_eq_true, decide_eq_true_eq] at h1 h2
  rw [wrap_in] <;> omega
theorem pthen_pure (p q : Pa) (h : Hp) : Pure Try.prog 17 [p.v, q.v] h (.tup [(p.then q).1.v, errV (p.then q).2]) := by
  refine pure_of (fun L => by simp [V.names, namesL, Pa.v, errV_names]) fun h' nx hh => acalls_walk L.stamp_Path_Then_low fun hd => ?_
  obtain ⟨n, a⟩ := p
  obtain ⟨m, b⟩ := q
  have hw := then_wrap ⟨n, a⟩ ⟨m, b⟩
  simp only [List.length_cons, List.length_nil, Nat.reduceAdd, Nat.reduceSub, List.replicate_succ, List.replicate_zero, List.cons_append, List.nil_append, V.undef]
  (repeat' (first | (with_reducible first | refine lwp_seq ?_ | refine lwp_ops ?_ | refine seqQ_normal ?_ | refine lops_done ?_ | refine blockQ_normal ?_ | refine lwp_block ?_ | refine lwp_skip ?_ | refine lwp_ret ?_ | refine seqQ_ret ?_ | refine blockQ_ret ?_ | refine roundM_ret ?_ | refine lwp_exit ?_ | refine seqQ_exit ?_ | refine roundM_exit ?_ | refine blockQ_exit ?_ | refine blockQ_other (by decide) ?_) | (with_reducible refine lops_id ?_; (first | refine lops_go2 rfl (by simp only [Pa.v, go_sem, reduceIte, Nat.reduceAdd, Nat.reduceSub, Nat.reduceLT, Nat.reduceLeDiff, reduceCtorEq, Nat.reduceEqDiff, Int.reduceToNat]; try omega) ?_ | refine lops_pure (rightPath_pure ⟨_, _⟩ _) rfl (has_refl _) ?_ | ((first | refine lops_guardT rfl ?_ | refine lops_guardF rfl ?_); with_reducible first | refine condG_t ?_ | refine condG_f ?_ | refine condG_s (fun _ => ?_) (fun _ => ?_)) | refine lops_guard_no rfl ?_) <;> try simp only [Pa.v, go_sem, reduceIte, Nat.reduceAdd, Nat.reduceSub, Nat.reduceLT, Nat.reduceLeDiff, reduceCtorEq, Nat.reduceEqDiff, Int.reduceToNat]) | (with_reducible refine cond_id ?_; refine lwp_condB rfl ?_; with_reducible first | refine condG_t ?_ | refine condG_f ?_ | refine condG_s (fun _ => ?_) (fun _ => ?_)) | (with_reducible refine draw_id ?_; refine lwp_draw rfl ?_) | (with_reducible refine dops_id ?_; (first | refine dops_go1 rfl (by simp only [Pa.v, go_sem, reduceIte, Nat.reduceAdd, Nat.reduceSub, Nat.reduceLT, Nat.reduceLeDiff, reduceCtorEq, Nat.reduceEqDiff, Int.reduceToNat]; try omega) ?_  | ((first | refine dops_guardT rfl ?_ | refine dops_guardF rfl ?_); with_reducible first | refine condG_t ?_ | refine condG_f ?_ | refine condG_s (fun _ => ?_) (fun _ => ?_)) | refine dops_guard_no rfl ?_ | refine dops_nil (drawQ_nil ?_)) <;> try simp only [Pa.v, go_sem, reduceIte, Nat.reduceAdd, Nat.reduceSub, Nat.reduceLT, Nat.reduceLeDiff, reduceCtorEq, Nat.reduceEqDiff, Int.reduceToNat])))
  all_goals refine ret_cell_slot (by simp only [go_sem, reduceIte, Nat.reduceAdd, Nat.reduceSub, Nat.reduceLT, Nat.reduceLeDiff, reduceCtorEq, Nat.reduceEqDiff, Int.reduceToNat]) h' (by repeat (first | exact Hp.le_refl _ | refine le_of_fresh hd ?_ (by omega) _ | refine le_of_freshd hd ?_ (by omega))) ⟨?_, rfl⟩
  all_goals simp only [go_sem, reduceIte, Nat.reduceAdd, Nat.reduceSub, Nat.reduceLT, Nat.reduceLeDiff, reduceCtorEq, Nat.reduceEqDiff, Int.reduceToNat]
  all_goals cases hp : Pa.ok ⟨n, a⟩ <;> cases ht : Pa.ok ⟨m, b⟩ <;> simp_all [Pa.then, errV, Pa.nought]
theorem pAtMost_pure (p q : Pa) (h : Hp) : Pure Try.prog 18 [p.v, q.v] h (.bool (p.le q)) := by
  refine pure_of (fun L => trivial) fun h' nx hh => acalls_walk L.stamp_Path_AtMost_low fun hd => ?_
  obtain ⟨n, a⟩ := p
  obtain ⟨m, b⟩ := q
  simp only [List.length_cons, List.length_nil, Nat.reduceAdd, Nat.reduceSub, List.replicate_succ, List.replicate_zero, List.cons_append, List.nil_append, V.undef]
  cases n <;> cases m <;> (repeat' (first | (with_reducible first | refine lwp_seq ?_ | refine lwp_ops ?_ | refine seqQ_normal ?_ | refine lops_done ?_ | refine blockQ_normal ?_ | refine lwp_block ?_ | refine lwp_skip ?_ | refine lwp_ret ?_ | refine seqQ_ret ?_ | refine blockQ_ret ?_ | refine roundM_ret ?_ | refine lwp_exit ?_ | refine seqQ_exit ?_ | refine roundM_exit ?_ | refine blockQ_exit ?_ | refine blockQ_other (by decide) ?_) | (with_reducible refine lops_id ?_; (first | refine lops_go2 rfl (by simp only [Pa.v, go_sem, reduceIte, Nat.reduceAdd, Nat.reduceSub, Nat.reduceLT, Nat.reduceLeDiff, reduceCtorEq, Nat.reduceEqDiff, Int.reduceToNat]; try omega) ?_  | ((first | refine lops_guardT rfl ?_ | refine lops_guardF rfl ?_); with_reducible first | refine condG_t ?_ | refine condG_f ?_ | refine condG_s (fun _ => ?_) (fun _ => ?_)) | refine lops_guard_no rfl ?_) <;> try simp only [Pa.v, go_sem, reduceIte, Nat.reduceAdd, Nat.reduceSub, Nat.reduceLT, Nat.reduceLeDiff, reduceCtorEq, Nat.reduceEqDiff, Int.reduceToNat]) | (with_reducible refine cond_id ?_; refine lwp_condB rfl ?_; with_reducible first | refine condG_t ?_ | refine condG_f ?_ | refine condG_s (fun _ => ?_) (fun _ => ?_)) | (with_reducible refine draw_id ?_; refine lwp_draw rfl ?_) | (with_reducible refine dops_id ?_; (first | refine dops_go1 rfl (by simp only [Pa.v, go_sem, reduceIte, Nat.reduceAdd, Nat.reduceSub, Nat.reduceLT, Nat.reduceLeDiff, reduceCtorEq, Nat.reduceEqDiff, Int.reduceToNat]; try omega) ?_  | ((first | refine dops_guardT rfl ?_ | refine dops_guardF rfl ?_); with_reducible first | refine condG_t ?_ | refine condG_f ?_ | refine condG_s (fun _ => ?_) (fun _ => ?_)) | refine dops_guard_no rfl ?_ | refine dops_nil (drawQ_nil ?_)) <;> try simp only [Pa.v, go_sem, reduceIte, Nat.reduceAdd, Nat.reduceSub, Nat.reduceLT, Nat.reduceLeDiff, reduceCtorEq, Nat.reduceEqDiff, Int.reduceToNat])))
  all_goals refine ret_slot h' (by repeat (first | exact Hp.le_refl _ | refine le_of_fresh hd ?_ (by omega) _ | refine le_of_freshd hd ?_ (by omega))) ⟨?_, rfl⟩
  all_goals ((try simp_all [Pa.le]) <;> (try omega))
/-- A box in which a path lies. -/
theorem put1_pure (x p : Pa) (n : Nat) (h : Hp) (hn : h n = some (.arr (.agg 2) [p.v])) : Pure Try.prog 63 [x.v, .ptr n (.agg 2) 0 0] h (.bool (x.le p)) := by
  refine pure_of (fun L => trivial) fun h' nx hh => acalls_walk L.path_put_1_low fun hd => ?_
  have hn' := hh n _ _ hn
  have hlt := hd n _ hn'
  simp only [List.length_cons, List.length_nil, Nat.reduceAdd, Nat.reduceSub, List.replicate_succ, List.replicate_zero, List.cons_append, List.nil_append, V.undef]
  (repeat' (first | (with_reducible first | refine lwp_seq ?_ | refine lwp_ops ?_ | refine seqQ_normal ?_ | refine lops_done ?_ | refine blockQ_normal ?_ | refine lwp_block ?_ | refine lwp_skip ?_ | refine lwp_ret ?_ | refine seqQ_ret ?_ | refine blockQ_ret ?_ | refine roundM_ret ?_ | refine lwp_exit ?_ | refine seqQ_exit ?_ | refine roundM_exit ?_ | refine blockQ_exit ?_ | refine blockQ_other (by decide) ?_) | (with_reducible refine lops_id ?_; (first | refine lops_go2 rfl (by simp only [hn', hlt, Pa.fits_v, go_sem, reduceIte, Nat.reduceAdd, Nat.reduceSub, Nat.reduceLT, Nat.reduceLeDiff, reduceCtorEq, Nat.reduceEqDiff, Int.reduceToNat]; try omega) ?_ | refine lops_pure (pAtMost_pure x p _) rfl (has_refl _) ?_ | ((first | refine lops_guardT rfl ?_ | refine lops_guardF rfl ?_); with_reducible first | refine condG_t ?_ | refine condG_f ?_ | refine condG_s (fun _ => ?_) (fun _ => ?_)) | refine lops_guard_no rfl ?_) <;> try simp only [hn', hlt, Pa.fits_v, go_sem, reduceIte, Nat.reduceAdd, Nat.reduceSub, Nat.reduceLT, Nat.reduceLeDiff, reduceCtorEq, Nat.reduceEqDiff, Int.reduceToNat]) | (with_reducible refine cond_id ?_; refine lwp_condB rfl ?_; with_reducible first | refine condG_t ?_ | refine condG_f ?_ | refine condG_s (fun _ => ?_) (fun _ => ?_)) | (with_reducible refine draw_id ?_; refine lwp_draw rfl ?_) | (with_reducible refine dops_id ?_; (first | refine dops_go1 rfl (by simp only [hn', hlt, Pa.fits_v, go_sem, reduceIte, Nat.reduceAdd, Nat.reduceSub, Nat.reduceLT, Nat.reduceLeDiff, reduceCtorEq, Nat.reduceEqDiff, Int.reduceToNat]; try omega) ?_  | ((first | refine dops_guardT rfl ?_ | refine dops_guardF rfl ?_); with_reducible first | refine condG_t ?_ | refine condG_f ?_ | refine condG_s (fun _ => ?_) (fun _ => ?_)) | refine dops_guard_no rfl ?_ | refine dops_nil (drawQ_nil ?_)) <;> try simp only [hn', hlt, Pa.fits_v, go_sem, reduceIte, Nat.reduceAdd, Nat.reduceSub, Nat.reduceLT, Nat.reduceLeDiff, reduceCtorEq, Nat.reduceEqDiff, Int.reduceToNat])))
  exact ret_slot h' (by repeat (first | exact Hp.le_refl _ | refine le_of_fresh hd ?_ (by omega) _ | refine le_of_freshd hd ?_ (by omega))) ⟨rfl, rfl⟩
theorem put2_pure (x p : Pa) (n : Nat) (h : Hp) (hn : h n = some (.arr (.agg 2) [p.v])) : Pure Try.prog 65 [x.v, .ptr n (.agg 2) 0 0] h (.bool (p.le x)) := by
  refine pure_of (fun L => trivial) fun h' nx hh => acalls_walk L.path_put_2_low fun hd => ?_
  have hn' := hh n _ _ hn
  have hlt := hd n _ hn'
  simp only [List.length_cons, List.length_nil, Nat.reduceAdd, Nat.reduceSub, List.replicate_succ, List.replicate_zero, List.cons_append, List.nil_append, V.undef]
  (repeat' (first | (with_reducible first | refine lwp_seq ?_ | refine lwp_ops ?_ | refine seqQ_normal ?_ | refine lops_done ?_ | refine blockQ_normal ?_ | refine lwp_block ?_ | refine lwp_skip ?_ | refine lwp_ret ?_ | refine seqQ_ret ?_ | refine blockQ_ret ?_ | refine roundM_ret ?_ | refine lwp_exit ?_ | refine seqQ_exit ?_ | refine roundM_exit ?_ | refine blockQ_exit ?_ | refine blockQ_other (by decide) ?_) | (with_reducible refine lops_id ?_; (first | refine lops_go2 rfl (by simp only [hn', hlt, Pa.fits_v, go_sem, reduceIte, Nat.reduceAdd, Nat.reduceSub, Nat.reduceLT, Nat.reduceLeDiff, reduceCtorEq, Nat.reduceEqDiff, Int.reduceToNat]; try omega) ?_ | refine lops_pure (pAtMost_pure p x _) rfl (has_refl _) ?_ | ((first | refine lops_guardT rfl ?_ | refine lops_guardF rfl ?_); with_reducible first | refine condG_t ?_ | refine condG_f ?_ | refine condG_s (fun _ => ?_) (fun _ => ?_)) | refine lops_guard_no rfl ?_) <;> try simp only [hn', hlt, Pa.fits_v, go_sem, reduceIte, Nat.reduceAdd, Nat.reduceSub, Nat.reduceLT, Nat.reduceLeDiff, reduceCtorEq, Nat.reduceEqDiff, Int.reduceToNat]) | (with_reducible refine cond_id ?_; refine lwp_condB rfl ?_; with_reducible first | refine condG_t ?_ | refine condG_f ?_ | refine condG_s (fun _ => ?_) (fun _ => ?_)) | (with_reducible refine draw_id ?_; refine lwp_draw rfl ?_) | (with_reducible refine dops_id ?_; (first | refine dops_go1 rfl (by simp only [hn', hlt, Pa.fits_v, go_sem, reduceIte, Nat.reduceAdd, Nat.reduceSub, Nat.reduceLT, Nat.reduceLeDiff, reduceCtorEq, Nat.reduceEqDiff, Int.reduceToNat]; try omega) ?_  | ((first | refine dops_guardT rfl ?_ | refine dops_guardF rfl ?_); with_reducible first | refine condG_t ?_ | refine condG_f ?_ | refine condG_s (fun _ => ?_) (fun _ => ?_)) | refine dops_guard_no rfl ?_ | refine dops_nil (drawQ_nil ?_)) <;> try simp only [hn', hlt, Pa.fits_v, go_sem, reduceIte, Nat.reduceAdd, Nat.reduceSub, Nat.reduceLT, Nat.reduceLeDiff, reduceCtorEq, Nat.reduceEqDiff, Int.reduceToNat])))
  exact ret_slot h' (by repeat (first | exact Hp.le_refl _ | refine le_of_fresh hd ?_ (by omega) _ | refine le_of_freshd hd ?_ (by omega))) ⟨rfl, rfl⟩
def cmpP (a b : Pa) : Int := num a.n - num b.n
theorem put3_pure (a b : Pa) : Pure Try.prog 67 [a.v, b.v] Hp.none (.int .i64 (cmpP a b)) := by
  refine pure_of (fun L => trivial) fun h' nx hh => acalls_walk L.path_put_3_low fun hd => ?_
  have hw : IntKind.i64.wrap (num a.n - num b.n) = cmpP a b := by
    unfold cmpP num
    rw [wrap_in] <;> (split <;> split <;> omega)
  simp only [List.length_cons, List.length_nil, Nat.reduceAdd, Nat.reduceSub, List.replicate_succ, List.replicate_zero, List.cons_append, List.nil_append, V.undef]
  (repeat' (first | (with_reducible first | refine lwp_seq ?_ | refine lwp_ops ?_ | refine seqQ_normal ?_ | refine lops_done ?_ | refine blockQ_normal ?_ | refine lwp_block ?_ | refine lwp_skip ?_ | refine lwp_ret ?_ | refine seqQ_ret ?_ | refine blockQ_ret ?_ | refine roundM_ret ?_ | refine lwp_exit ?_ | refine seqQ_exit ?_ | refine roundM_exit ?_ | refine blockQ_exit ?_ | refine blockQ_other (by decide) ?_) | (with_reducible refine lops_id ?_; (first | refine lops_go2 rfl (by simp only [Pa.v, hw, go_sem, reduceIte, Nat.reduceAdd, Nat.reduceSub, Nat.reduceLT, Nat.reduceLeDiff, reduceCtorEq, Nat.reduceEqDiff, Int.reduceToNat]; try omega) ?_  | ((first | refine lops_guardT rfl ?_ | refine lops_guardF rfl ?_); with_reducible first | refine condG_t ?_ | refine condG_f ?_ | refine condG_s (fun _ => ?_) (fun _ => ?_)) | refine lops_guard_no rfl ?_) <;> try simp only [Pa.v, hw, go_sem, reduceIte, Nat.reduceAdd, Nat.reduceSub, Nat.reduceLT, Nat.reduceLeDiff, reduceCtorEq, Nat.reduceEqDiff, Int.reduceToNat]) | (with_reducible refine cond_id ?_; refine lwp_condB rfl ?_; with_reducible first | refine condG_t ?_ | refine condG_f ?_ | refine condG_s (fun _ => ?_) (fun _ => ?_)) | (with_reducible refine draw_id ?_; refine lwp_draw rfl ?_) | (with_reducible refine dops_id ?_; (first | refine dops_go1 rfl (by simp only [Pa.v, hw, go_sem, reduceIte, Nat.reduceAdd, Nat.reduceSub, Nat.reduceLT, Nat.reduceLeDiff, reduceCtorEq, Nat.reduceEqDiff, Int.reduceToNat]; try omega) ?_ | refine dops_pure (number_pure _ _) rfl (none_has _) ?_ | ((first | refine dops_guardT rfl ?_ | refine dops_guardF rfl ?_); with_reducible first | refine condG_t ?_ | refine condG_f ?_ | refine condG_s (fun _ => ?_) (fun _ => ?_)) | refine dops_guard_no rfl ?_ | refine dops_nil (drawQ_nil ?_)) <;> try simp only [Pa.v, hw, go_sem, reduceIte, Nat.reduceAdd, Nat.reduceSub, Nat.reduceLT, Nat.reduceLeDiff, reduceCtorEq, Nat.reduceEqDiff, Int.reduceToNat])))
  exact ret_slot h' (by repeat (first | exact Hp.le_refl _ | refine le_of_fresh hd ?_ (by omega) _ | refine le_of_freshd hd ?_ (by omega))) ⟨rfl, rfl⟩
theorem cmpP_lt (a b : Pa) : ltOf cmpP a b = decide (a.n = false ∧ b.n = true) := by
  unfold ltOf cmpP num
  cases a.n <;> cases b.n <;> decide
theorem swo_cmpP : SWO (ltOf cmpP) := by
  refine ⟨fun x => ?_, fun x y z => ?_, fun x y z => ?_⟩ <;> simp only [cmpP_lt, decide_eq_true_eq, decide_eq_false_iff_not]
  · cases x.n <;> simp
  · cases x.n <;> cases y.n <;> cases z.n <;> simp
  · cases x.n <;> cases y.n <;> cases z.n <;> simp
/-- Sorted by whether they begin anew: as it is put. -/
theorem sorted_put {l ys : List Pa} {p : Pa} (hc : Can l) (hd : ¬ domi l p) (hp : ys.Perm ((l.filter fun x => !(p.le x)) ++ [p])) (hs : SortedBy cmpP ys) : ys = putL l p := by
  have hcp := hc.put hd
  -- no two of one kind
  have hperm : ys.Perm (putL l p) := by
    refine hp.trans ?_
    unfold putL
    split
    · exact List.Perm.refl _
    · exact List.perm_append_comm
  refine List.Perm.eq_of_pairwise (le := fun x y => ltOf cmpP y x = false) (fun x y hx hy h1 h2 => ?_) hs (hcp.imp fun {x y} h => ?_) hperm
  · have hx' := hperm.mem_iff.1 hx
    have key : ∀ {m : List Pa}, Can m → ∀ a ∈ m, ∀ b ∈ m, a.n = b.n → a = b := by
      intro m hm
      induction m with
      | nil => intro a ha; cases ha
      | cons z m ih =>
        obtain ⟨k1, k2⟩ := List.pairwise_cons.1 hm
        intro a ha b hb hab
        rcases List.mem_cons.1 ha with e1 | ha2 <;> rcases List.mem_cons.1 hb with e2 | hb2
        · rw [e1, e2]
        · have := k1 b hb2; rw [e1, this.1, this.2.1] at hab; cases hab
        · have := k1 a ha2; rw [e2, this.1, this.2.1] at hab; cases hab
        · exact ih k2 a ha2 b hb2 hab
    refine key hcp x hx' y hy ?_
    simp only [cmpP_lt, decide_eq_false_iff_not] at h1 h2
    cases hxn : x.n <;> cases hyn : y.n <;> simp_all
  · simp [cmpP_lt, h.1]

abbrev fPut1 : Nat := 63
abbrev fPut2 : Nat := 65
abbrev fPut3 : Nat := 67
abbrev prow (m : Nat) (l : List Pa) : V := cellV (.agg 2) m (l.map Pa.v)
theorem low_DeleteFunc_Pa : lowerFn Try.prog 64 = some (LB.DeleteFunc (.agg 2) (.agg [.bool false, .int .i64 0]) 78) := by kernel_rfl
/-- A least one is there: nothing is done. -/
theorem put_no (m : Nat) (l : List Pa) (p : Pa) (hl : l.length ≤ 1000) (hd : domi l p) (h : Hp) (hm : l ≠ [] → h m = some (.arr (.agg 2) (l.map Pa.v))) :
    ∀ h' nx, h.has h' → ACalls Try.prog 55 [prow m l, p.v] h' nx fun v h'' _ => v = .tup [prow m l, .bool false] ∧ h'' = h' := by
  intro h' nx hh
  have hne : l ≠ [] := fun e => by obtain ⟨q, hq, _⟩ := hd; rw [e] at hq; cases hq
  have hm' := hh m _ _ (hm hne)
  have hrow : prow m l = .rs m (.agg 2) 0 l.length := by
    unfold prow cellV
    cases l with
    | nil => exact absurd rfl hne
    | cons => simp
  have hany : (l.any fun x => x.le p) = true := (domi_any l p).2 hd
  rw [hrow]
  refine acalls_walk L.path_put_low fun hdm => ?_
  have hlt := hdm m _ hm'
  have hneq : (m = nx) = False := eq_false (by omega)
  have hbox : (h'.set nx (.arr (.agg 2) [p.v])) nx = some (.arr (.agg 2) [p.v]) := by simp only [go_sem, reduceIte, Nat.reduceAdd, Nat.reduceSub, Nat.reduceLT, Nat.reduceLeDiff, reduceCtorEq, Nat.reduceEqDiff, Int.reduceToNat]
  have hmb : (h'.set nx (.arr (.agg 2) [p.v])) m = some (.arr (.agg 2) (l.map Pa.v)) := by simp only [hneq, hm', go_sem, reduceIte, Nat.reduceAdd, Nat.reduceSub, Nat.reduceLT, Nat.reduceLeDiff, reduceCtorEq, Nat.reduceEqDiff, Int.reduceToNat]
  simp only [List.length_cons, List.length_nil, Nat.reduceAdd, Nat.reduceSub, List.replicate_succ, List.replicate_zero, List.cons_append, List.nil_append, V.undef]
  (repeat' (first | (with_reducible first | refine lwp_seq ?_ | refine lwp_ops ?_ | refine seqQ_normal ?_ | refine lops_done ?_ | refine blockQ_normal ?_ | refine lwp_block ?_ | refine lwp_skip ?_ | refine lwp_ret ?_ | refine seqQ_ret ?_ | refine blockQ_ret ?_ | refine roundM_ret ?_ | refine lwp_exit ?_ | refine seqQ_exit ?_ | refine roundM_exit ?_ | refine blockQ_exit ?_ | refine blockQ_other (by decide) ?_) | (with_reducible refine lops_id ?_; (first | refine lops_go2 rfl (by simp only [Pa.fits_v, hany, go_sem, reduceIte, Nat.reduceAdd, Nat.reduceSub, Nat.reduceLT, Nat.reduceLeDiff, reduceCtorEq, Nat.reduceEqDiff, Int.reduceToNat]; try omega) ?_  | ((first | refine lops_guardT rfl ?_ | refine lops_guardF rfl ?_); with_reducible first | refine condG_t ?_ | refine condG_f ?_ | refine condG_s (fun _ => ?_) (fun _ => ?_)) | refine lops_guard_no rfl ?_) <;> try simp only [Pa.fits_v, hany, go_sem, reduceIte, Nat.reduceAdd, Nat.reduceSub, Nat.reduceLT, Nat.reduceLeDiff, reduceCtorEq, Nat.reduceEqDiff, Int.reduceToNat]) | (with_reducible refine cond_id ?_; refine lwp_condB rfl ?_; with_reducible first | refine condG_t ?_ | refine condG_f ?_ | refine condG_s (fun _ => ?_) (fun _ => ?_)) | (with_reducible refine draw_id ?_; refine lwp_draw rfl ?_) | (with_reducible refine dops_id ?_; (first | refine dops_go1 rfl (by simp only [Pa.fits_v, hany, go_sem, reduceIte, Nat.reduceAdd, Nat.reduceSub, Nat.reduceLT, Nat.reduceLeDiff, reduceCtorEq, Nat.reduceEqDiff, Int.reduceToNat]; try omega) ?_  | ((first | refine dops_guardT rfl ?_ | refine dops_guardF rfl ?_); with_reducible first | refine condG_t ?_ | refine condG_f ?_ | refine condG_s (fun _ => ?_) (fun _ => ?_)) | refine dops_guard_no rfl ?_ | refine dops_nil (drawQ_nil ?_)) <;> try simp only [Pa.fits_v, hany, go_sem, reduceIte, Nat.reduceAdd, Nat.reduceSub, Nat.reduceLT, Nat.reduceLeDiff, reduceCtorEq, Nat.reduceEqDiff, Int.reduceToNat])))
  refine lops_pure (containsFunc_rs Pa.v Pa.fits_v low_ContainsFunc_Pa low_IndexFunc_Pa (fun x => x.le p) m l fPut1 [.ptr nx (.agg 2) 0 0] _ hmb (fun x _ => put1_pure x p nx _ hbox) (by omega)) rfl (has_refl _) ?_
  simp only [hany, go_sem, reduceIte, Nat.reduceAdd, Nat.reduceSub, Nat.reduceLT, Nat.reduceLeDiff, reduceCtorEq, Nat.reduceEqDiff, Int.reduceToNat]
  (repeat' (first | (with_reducible first | refine lwp_seq ?_ | refine lwp_ops ?_ | refine seqQ_normal ?_ | refine lops_done ?_ | refine blockQ_normal ?_ | refine lwp_block ?_ | refine lwp_skip ?_ | refine lwp_ret ?_ | refine seqQ_ret ?_ | refine blockQ_ret ?_ | refine roundM_ret ?_ | refine lwp_exit ?_ | refine seqQ_exit ?_ | refine roundM_exit ?_ | refine blockQ_exit ?_ | refine blockQ_other (by decide) ?_) | (with_reducible refine lops_id ?_; (first | refine lops_go2 rfl (by simp only [Pa.fits_v, hany, go_sem, reduceIte, Nat.reduceAdd, Nat.reduceSub, Nat.reduceLT, Nat.reduceLeDiff, reduceCtorEq, Nat.reduceEqDiff, Int.reduceToNat]; try omega) ?_  | ((first | refine lops_guardT rfl ?_ | refine lops_guardF rfl ?_); with_reducible first | refine condG_t ?_ | refine condG_f ?_ | refine condG_s (fun _ => ?_) (fun _ => ?_)) | refine lops_guard_no rfl ?_) <;> try simp only [Pa.fits_v, hany, go_sem, reduceIte, Nat.reduceAdd, Nat.reduceSub, Nat.reduceLT, Nat.reduceLeDiff, reduceCtorEq, Nat.reduceEqDiff, Int.reduceToNat]) | (with_reducible refine cond_id ?_; refine lwp_condB rfl ?_; with_reducible first | refine condG_t ?_ | refine condG_f ?_ | refine condG_s (fun _ => ?_) (fun _ => ?_)) | (with_reducible refine draw_id ?_; refine lwp_draw rfl ?_) | (with_reducible refine dops_id ?_; (first | refine dops_go1 rfl (by simp only [Pa.fits_v, hany, go_sem, reduceIte, Nat.reduceAdd, Nat.reduceSub, Nat.reduceLT, Nat.reduceLeDiff, reduceCtorEq, Nat.reduceEqDiff, Int.reduceToNat]; try omega) ?_  | ((first | refine dops_guardT rfl ?_ | refine dops_guardF rfl ?_); with_reducible first | refine condG_t ?_ | refine condG_f ?_ | refine condG_s (fun _ => ?_) (fun _ => ?_)) | refine dops_guard_no rfl ?_ | refine dops_nil (drawQ_nil ?_)) <;> try simp only [Pa.fits_v, hany, go_sem, reduceIte, Nat.reduceAdd, Nat.reduceSub, Nat.reduceLT, Nat.reduceLeDiff, reduceCtorEq, Nat.reduceEqDiff, Int.reduceToNat])))
  refine ret_slot2 h' (le_set (Hp.le_refl _) (DomB.none hdm (Nat.le_refl _)) _) ⟨?_, rfl⟩
  simp only [go_sem, reduceIte, Nat.reduceAdd, Nat.reduceSub, Nat.reduceLT, Nat.reduceLeDiff, reduceCtorEq, Nat.reduceEqDiff, Int.reduceToNat]
theorem put_yes (m : Nat) (l : List Pa) (p : Pa) (hc : Can l) (hl : l.length ≤ 1000) (hd : ¬ domi l p) (h : Hp) (hm : l ≠ [] → h m = some (.arr (.agg 2) (l.map Pa.v))) :
    Turn Try.prog 55 [prow m l, p.v] h (if l = [] then none else some ⟨m, .arr (.agg 2) (l.map Pa.v), none⟩) (fun a => .tup [.rs a (.agg 2) 0 (putL l p).length, .bool true]) (.agg 2) ((putL l p).map Pa.v) := by
  refine turn_of (moves_row _ _ _) (fun L => namesL_map (Pa.names_v L) _) (fun L n hn => by simp [V.names, namesL, hn]) (fun c' hc' => ?_) fun h' nx hh => ?_
  · split at hc'
    · cases hc'
    · rename_i hne
      injection hc' with hc'
      subst hc'
      exact ⟨rfl, ⟨_, _, rfl⟩, hm hne⟩
  have hany : (l.any fun x => x.le p) = false := by
    cases e : l.any fun x => x.le p with
    | false => rfl
    | true => exact absurd ((domi_any l p).1 e) hd
  have hfin : ∀ ys : List Pa, ys.Perm ((l.filter fun x => !(p.le x)) ++ [p]) → SortedBy cmpP ys → ys = putL l p := fun ys h1 h2 => sorted_put hc hd h1 h2
  refine acalls_walk L.path_put_low fun hdm => ?_
  by_cases hne : l = []
  · subst hne
    have hpl : putL ([] : List Pa) p = [p] := by unfold putL; split <;> rfl
    have hcl := containsFunc_lib Pa.v Pa.fits_v low_ContainsFunc_Pa low_IndexFunc_Pa (fun x => x.le p) .nil [] fPut1 [.ptr nx (.agg 2) 0 0] (h'.set nx (.arr (.agg 2) [p.v])) (fun x hx => by cases hx) (by simp)
    have hdl := deleteFunc_nil Pa.v Pa.fits_v low_DeleteFunc_Pa low_IndexFunc_Pa (fun x => p.le x) fPut2 [.ptr nx (.agg 2) 0 0] (h'.set nx (.arr (.agg 2) [p.v]))
    have hrw : prow m [] = .sl (.agg 2) .nil [] := rfl
    rw [hrw, hpl]
    simp only [List.map_nil, List.any_nil] at hcl
    simp only [List.length_cons, List.length_nil, Nat.reduceAdd, Nat.reduceSub, List.replicate_succ, List.replicate_zero, List.cons_append, List.nil_append, V.undef]
    (repeat' (first | (with_reducible first | refine lwp_seq ?_ | refine lwp_ops ?_ | refine seqQ_normal ?_ | refine lops_done ?_ | refine blockQ_normal ?_ | refine lwp_block ?_ | refine lwp_skip ?_ | refine lwp_ret ?_ | refine seqQ_ret ?_ | refine blockQ_ret ?_ | refine roundM_ret ?_ | refine lwp_exit ?_ | refine seqQ_exit ?_ | refine roundM_exit ?_ | refine blockQ_exit ?_ | refine blockQ_other (by decide) ?_) | (with_reducible refine lops_id ?_; (first | refine lops_go2 rfl (by simp only [Pa.fits_v, go_sem, reduceIte, Nat.reduceAdd, Nat.reduceSub, Nat.reduceLT, Nat.reduceLeDiff, reduceCtorEq, Nat.reduceEqDiff, Int.reduceToNat]; try omega) ?_ | refine lops_pure (hcl) rfl (has_refl _) ?_ | refine lops_pure (hdl) rfl (has_refl _) ?_ | ((first | refine lops_guardT rfl ?_ | refine lops_guardF rfl ?_); with_reducible first | refine condG_t ?_ | refine condG_f ?_ | refine condG_s (fun _ => ?_) (fun _ => ?_)) | refine lops_guard_no rfl ?_) <;> try simp only [Pa.fits_v, go_sem, reduceIte, Nat.reduceAdd, Nat.reduceSub, Nat.reduceLT, Nat.reduceLeDiff, reduceCtorEq, Nat.reduceEqDiff, Int.reduceToNat]) | (with_reducible refine cond_id ?_; refine lwp_condB rfl ?_; with_reducible first | refine condG_t ?_ | refine condG_f ?_ | refine condG_s (fun _ => ?_) (fun _ => ?_)) | (with_reducible refine draw_id ?_; refine lwp_draw rfl ?_) | (with_reducible refine dops_id ?_; (first | refine dops_go1 rfl (by simp only [Pa.fits_v, go_sem, reduceIte, Nat.reduceAdd, Nat.reduceSub, Nat.reduceLT, Nat.reduceLeDiff, reduceCtorEq, Nat.reduceEqDiff, Int.reduceToNat]; try omega) ?_  | ((first | refine dops_guardT rfl ?_ | refine dops_guardF rfl ?_); with_reducible first | refine condG_t ?_ | refine condG_f ?_ | refine condG_s (fun _ => ?_) (fun _ => ?_)) | refine dops_guard_no rfl ?_ | refine dops_nil (drawQ_nil ?_)) <;> try simp only [Pa.fits_v, go_sem, reduceIte, Nat.reduceAdd, Nat.reduceSub, Nat.reduceLT, Nat.reduceLeDiff, reduceCtorEq, Nat.reduceEqDiff, Int.reduceToNat])))
    refine lops_append_nil rfl rfl (by simp) (by simp only [List.length_cons, List.length_nil]; omega) ?_
    simp only [List.length_cons, List.length_nil, go_sem, reduceIte, Nat.reduceAdd, Nat.reduceSub, Nat.reduceLT, Nat.reduceLeDiff, reduceCtorEq, Nat.reduceEqDiff, Int.reduceToNat]
    (repeat' (first | (with_reducible first | refine lwp_seq ?_ | refine lwp_ops ?_ | refine seqQ_normal ?_ | refine lops_done ?_ | refine blockQ_normal ?_ | refine lwp_block ?_ | refine lwp_skip ?_ | refine lwp_ret ?_ | refine seqQ_ret ?_ | refine blockQ_ret ?_ | refine roundM_ret ?_ | refine lwp_exit ?_ | refine seqQ_exit ?_ | refine roundM_exit ?_ | refine blockQ_exit ?_ | refine blockQ_other (by decide) ?_) | (with_reducible refine lops_id ?_; (first | refine lops_go2 rfl (by simp only [Pa.fits_v, go_sem, reduceIte, Nat.reduceAdd, Nat.reduceSub, Nat.reduceLT, Nat.reduceLeDiff, reduceCtorEq, Nat.reduceEqDiff, Int.reduceToNat]; try omega) ?_  | ((first | refine lops_guardT rfl ?_ | refine lops_guardF rfl ?_); with_reducible first | refine condG_t ?_ | refine condG_f ?_ | refine condG_s (fun _ => ?_) (fun _ => ?_)) | refine lops_guard_no rfl ?_) <;> try simp only [Pa.fits_v, go_sem, reduceIte, Nat.reduceAdd, Nat.reduceSub, Nat.reduceLT, Nat.reduceLeDiff, reduceCtorEq, Nat.reduceEqDiff, Int.reduceToNat]) | (with_reducible refine cond_id ?_; refine lwp_condB rfl ?_; with_reducible first | refine condG_t ?_ | refine condG_f ?_ | refine condG_s (fun _ => ?_) (fun _ => ?_)) | (with_reducible refine draw_id ?_; refine lwp_draw rfl ?_) | (with_reducible refine dops_id ?_; (first | refine dops_go1 rfl (by simp only [Pa.fits_v, go_sem, reduceIte, Nat.reduceAdd, Nat.reduceSub, Nat.reduceLT, Nat.reduceLeDiff, reduceCtorEq, Nat.reduceEqDiff, Int.reduceToNat]; try omega) ?_  | ((first | refine dops_guardT rfl ?_ | refine dops_guardF rfl ?_); with_reducible first | refine condG_t ?_ | refine condG_f ?_ | refine condG_s (fun _ => ?_) (fun _ => ?_)) | refine dops_guard_no rfl ?_ | refine dops_nil (drawQ_nil ?_)) <;> try simp only [Pa.fits_v, go_sem, reduceIte, Nat.reduceAdd, Nat.reduceSub, Nat.reduceLT, Nat.reduceLeDiff, reduceCtorEq, Nat.reduceEqDiff, Int.reduceToNat])))
    refine lops_call ((sort_structs sortPa 2 (by intro w; exact Try.isAgg44 w) (by intro w; exact Try.sizeOf44 w) (by kernel_rfl) Pa.v Pa.fits_v cmpP swo_cmpP fPut3 [] (fun x y => by simpa using put3_pure x y) _ [p] (by simp) _ _ (by simp only [List.map_cons, List.map_nil, go_sem, reduceIte, Nat.reduceAdd, Nat.reduceSub, Nat.reduceLT, Nat.reduceLeDiff, reduceCtorEq, Nat.reduceEqDiff, Int.reduceToNat]) (by simp)).mono ?_)
    rintro v2 h2 nx2 hnx2 ⟨rfl, rfl, ys, hp, hs, rfl⟩
    have hys : ys = [p] := List.perm_singleton.1 hp
    subst hys
    unfold callQ
    simp only [List.length_cons, List.length_nil, List.map_cons, List.map_nil, go_sem, reduceIte, Nat.reduceAdd, Nat.reduceSub, Nat.reduceLT, Nat.reduceLeDiff, reduceCtorEq, Nat.reduceEqDiff, Int.reduceToNat]
    (repeat' (first | (with_reducible first | refine lwp_seq ?_ | refine lwp_ops ?_ | refine seqQ_normal ?_ | refine lops_done ?_ | refine blockQ_normal ?_ | refine lwp_block ?_ | refine lwp_skip ?_ | refine lwp_ret ?_ | refine seqQ_ret ?_ | refine blockQ_ret ?_ | refine roundM_ret ?_ | refine lwp_exit ?_ | refine seqQ_exit ?_ | refine roundM_exit ?_ | refine blockQ_exit ?_ | refine blockQ_other (by decide) ?_) | (with_reducible refine lops_id ?_; (first | refine lops_go2 rfl (by simp only [ go_sem, reduceIte, Nat.reduceAdd, Nat.reduceSub, Nat.reduceLT, Nat.reduceLeDiff, reduceCtorEq, Nat.reduceEqDiff, Int.reduceToNat]; try omega) ?_  | ((first | refine lops_guardT rfl ?_ | refine lops_guardF rfl ?_); with_reducible first | refine condG_t ?_ | refine condG_f ?_ | refine condG_s (fun _ => ?_) (fun _ => ?_)) | refine lops_guard_no rfl ?_) <;> try simp only [ go_sem, reduceIte, Nat.reduceAdd, Nat.reduceSub, Nat.reduceLT, Nat.reduceLeDiff, reduceCtorEq, Nat.reduceEqDiff, Int.reduceToNat]) | (with_reducible refine cond_id ?_; refine lwp_condB rfl ?_; with_reducible first | refine condG_t ?_ | refine condG_f ?_ | refine condG_s (fun _ => ?_) (fun _ => ?_)) | (with_reducible refine draw_id ?_; refine lwp_draw rfl ?_) | (with_reducible refine dops_id ?_; (first | refine dops_go1 rfl (by simp only [ go_sem, reduceIte, Nat.reduceAdd, Nat.reduceSub, Nat.reduceLT, Nat.reduceLeDiff, reduceCtorEq, Nat.reduceEqDiff, Int.reduceToNat]; try omega) ?_  | ((first | refine dops_guardT rfl ?_ | refine dops_guardF rfl ?_); with_reducible first | refine condG_t ?_ | refine condG_f ?_ | refine condG_s (fun _ => ?_) (fun _ => ?_)) | refine dops_guard_no rfl ?_ | refine dops_nil (drawQ_nil ?_)) <;> try simp only [ go_sem, reduceIte, Nat.reduceAdd, Nat.reduceSub, Nat.reduceLT, Nat.reduceLeDiff, reduceCtorEq, Nat.reduceEqDiff, Int.reduceToNat])))
    refine ret_slot2 (h'.set (nx + 2) (.arr (.agg 2) [p.v])) ?_ ⟨nx + 2, by omega, ?_, rfl⟩
    · intro x b hx
      by_cases e : x = nx + 2
      · subst e; simp only [go_sem, reduceIte, Nat.reduceAdd, Nat.reduceSub, Nat.reduceLT, Nat.reduceLeDiff, reduceCtorEq, Nat.reduceEqDiff, Int.reduceToNat] at hx ⊢; exact hx
      · have hx' : h' x = some b := by unfold Hp.set at hx; rwa [if_neg e] at hx
        have := hdm x b hx'
        have e1 : (x = nx) = False := eq_false (by omega)
        have e2 : (x = nx + 1) = False := eq_false (by omega)
        simp only [e, e1, e2, go_sem, reduceIte, Nat.reduceAdd, Nat.reduceSub, Nat.reduceLT, Nat.reduceLeDiff, reduceCtorEq, Nat.reduceEqDiff, Int.reduceToNat]; exact hx'
    · simp only [go_sem, reduceIte, Nat.reduceAdd, Nat.reduceSub, Nat.reduceLT, Nat.reduceLeDiff, reduceCtorEq, Nat.reduceEqDiff, Int.reduceToNat]
  · have hm' := hh m _ _ (hm hne)
    have hrow : prow m l = .rs m (.agg 2) 0 l.length := by
      unfold prow cellV
      cases l with
      | nil => exact absurd rfl hne
      | cons => simp
    have hlt := hdm m _ hm'
    have hneq : (m = nx) = False := eq_false (by omega)
    have hbox : (h'.set nx (.arr (.agg 2) [p.v])) nx = some (.arr (.agg 2) [p.v]) := by simp only [go_sem, reduceIte, Nat.reduceAdd, Nat.reduceSub, Nat.reduceLT, Nat.reduceLeDiff, reduceCtorEq, Nat.reduceEqDiff, Int.reduceToNat]
    have hmb : (h'.set nx (.arr (.agg 2) [p.v])) m = some (.arr (.agg 2) (l.map Pa.v)) := by simp only [hneq, hm', go_sem, reduceIte, Nat.reduceAdd, Nat.reduceSub, Nat.reduceLT, Nat.reduceLeDiff, reduceCtorEq, Nat.reduceEqDiff, Int.reduceToNat]
    rw [hrow]
    simp only [List.length_cons, List.length_nil, Nat.reduceAdd, Nat.reduceSub, List.replicate_succ, List.replicate_zero, List.cons_append, List.nil_append, V.undef]
    (repeat' (first | (with_reducible first | refine lwp_seq ?_ | refine lwp_ops ?_ | refine seqQ_normal ?_ | refine lops_done ?_ | refine blockQ_normal ?_ | refine lwp_block ?_ | refine lwp_skip ?_ | refine lwp_ret ?_ | refine seqQ_ret ?_ | refine blockQ_ret ?_ | refine roundM_ret ?_ | refine lwp_exit ?_ | refine seqQ_exit ?_ | refine roundM_exit ?_ | refine blockQ_exit ?_ | refine blockQ_other (by decide) ?_) | (with_reducible refine lops_id ?_; (first | refine lops_go2 rfl (by simp only [Pa.fits_v, hany, go_sem, reduceIte, Nat.reduceAdd, Nat.reduceSub, Nat.reduceLT, Nat.reduceLeDiff, reduceCtorEq, Nat.reduceEqDiff, Int.reduceToNat]; try omega) ?_  | ((first | refine lops_guardT rfl ?_ | refine lops_guardF rfl ?_); with_reducible first | refine condG_t ?_ | refine condG_f ?_ | refine condG_s (fun _ => ?_) (fun _ => ?_)) | refine lops_guard_no rfl ?_) <;> try simp only [Pa.fits_v, hany, go_sem, reduceIte, Nat.reduceAdd, Nat.reduceSub, Nat.reduceLT, Nat.reduceLeDiff, reduceCtorEq, Nat.reduceEqDiff, Int.reduceToNat]) | (with_reducible refine cond_id ?_; refine lwp_condB rfl ?_; with_reducible first | refine condG_t ?_ | refine condG_f ?_ | refine condG_s (fun _ => ?_) (fun _ => ?_)) | (with_reducible refine draw_id ?_; refine lwp_draw rfl ?_) | (with_reducible refine dops_id ?_; (first | refine dops_go1 rfl (by simp only [Pa.fits_v, hany, go_sem, reduceIte, Nat.reduceAdd, Nat.reduceSub, Nat.reduceLT, Nat.reduceLeDiff, reduceCtorEq, Nat.reduceEqDiff, Int.reduceToNat]; try omega) ?_  | ((first | refine dops_guardT rfl ?_ | refine dops_guardF rfl ?_); with_reducible first | refine condG_t ?_ | refine condG_f ?_ | refine condG_s (fun _ => ?_) (fun _ => ?_)) | refine dops_guard_no rfl ?_ | refine dops_nil (drawQ_nil ?_)) <;> try simp only [Pa.fits_v, hany, go_sem, reduceIte, Nat.reduceAdd, Nat.reduceSub, Nat.reduceLT, Nat.reduceLeDiff, reduceCtorEq, Nat.reduceEqDiff, Int.reduceToNat])))
    refine lops_pure (containsFunc_rs Pa.v Pa.fits_v low_ContainsFunc_Pa low_IndexFunc_Pa (fun x => x.le p) m l fPut1 [.ptr nx (.agg 2) 0 0] _ hmb (fun x _ => put1_pure x p nx _ hbox) (by omega)) rfl (has_refl _) ?_
    simp only [hany, go_sem, reduceIte, Nat.reduceAdd, Nat.reduceSub, Nat.reduceLT, Nat.reduceLeDiff, reduceCtorEq, Nat.reduceEqDiff, Int.reduceToNat]
    (repeat' (first | (with_reducible first | refine lwp_seq ?_ | refine lwp_ops ?_ | refine seqQ_normal ?_ | refine lops_done ?_ | refine blockQ_normal ?_ | refine lwp_block ?_ | refine lwp_skip ?_ | refine lwp_ret ?_ | refine seqQ_ret ?_ | refine blockQ_ret ?_ | refine roundM_ret ?_ | refine lwp_exit ?_ | refine seqQ_exit ?_ | refine roundM_exit ?_ | refine blockQ_exit ?_ | refine blockQ_other (by decide) ?_) | (with_reducible refine lops_id ?_; (first | refine lops_go2 rfl (by simp only [Pa.fits_v, hany, go_sem, reduceIte, Nat.reduceAdd, Nat.reduceSub, Nat.reduceLT, Nat.reduceLeDiff, reduceCtorEq, Nat.reduceEqDiff, Int.reduceToNat]; try omega) ?_  | ((first | refine lops_guardT rfl ?_ | refine lops_guardF rfl ?_); with_reducible first | refine condG_t ?_ | refine condG_f ?_ | refine condG_s (fun _ => ?_) (fun _ => ?_)) | refine lops_guard_no rfl ?_) <;> try simp only [Pa.fits_v, hany, go_sem, reduceIte, Nat.reduceAdd, Nat.reduceSub, Nat.reduceLT, Nat.reduceLeDiff, reduceCtorEq, Nat.reduceEqDiff, Int.reduceToNat]) | (with_reducible refine cond_id ?_; refine lwp_condB rfl ?_; with_reducible first | refine condG_t ?_ | refine condG_f ?_ | refine condG_s (fun _ => ?_) (fun _ => ?_)) | (with_reducible refine draw_id ?_; refine lwp_draw rfl ?_) | (with_reducible refine dops_id ?_; (first | refine dops_go1 rfl (by simp only [Pa.fits_v, hany, go_sem, reduceIte, Nat.reduceAdd, Nat.reduceSub, Nat.reduceLT, Nat.reduceLeDiff, reduceCtorEq, Nat.reduceEqDiff, Int.reduceToNat]; try omega) ?_  | ((first | refine dops_guardT rfl ?_ | refine dops_guardF rfl ?_); with_reducible first | refine condG_t ?_ | refine condG_f ?_ | refine condG_s (fun _ => ?_) (fun _ => ?_)) | refine dops_guard_no rfl ?_ | refine dops_nil (drawQ_nil ?_)) <;> try simp only [Pa.fits_v, hany, go_sem, reduceIte, Nat.reduceAdd, Nat.reduceSub, Nat.reduceLT, Nat.reduceLeDiff, reduceCtorEq, Nat.reduceEqDiff, Int.reduceToNat])))
    -- those that it is at most are left out
    have hcn : (Hp.none.set nx (.arr (.agg 2) [p.v])) m = none := by simp only [hneq, Hp.none, go_sem, reduceIte, Nat.reduceAdd, Nat.reduceSub, Nat.reduceLT, Nat.reduceLeDiff, reduceCtorEq, Nat.reduceEqDiff, Int.reduceToNat]
    have hcd : DomB (Hp.none.set nx (.arr (.agg 2) [p.v])) (nx + 1) := fun x b e => by
      unfold Hp.set at e
      split at e
      · omega
      · cases e
    have hcb : (Hp.none.set nx (.arr (.agg 2) [p.v])) nx = some (.arr (.agg 2) [p.v]) := by simp only [go_sem, reduceIte, Nat.reduceAdd, Nat.reduceSub, Nat.reduceLT, Nat.reduceLeDiff, reduceCtorEq, Nat.reduceEqDiff, Int.reduceToNat]
    have hch : Hp.has (Hp.none.set nx (.arr (.agg 2) [p.v])) (h'.set nx (.arr (.agg 2) [p.v])) := fun x k es e => by
      unfold Hp.set at e ⊢
      split at e
      · rename_i hx; rw [if_pos hx]; exact e
      · cases e
    refine lops_call ((deleteFunc_calls Pa.v low_DeleteFunc_Pa low_IndexFunc_Pa rfl Pa.fits_v (fun x => p.le x) m l fPut2 [.ptr nx (.agg 2) 0 0] _ (Hp.none.set nx (.arr (.agg 2) [p.v])) (nx + 1) hmb hcn hch hcd (fun x _ => put2_pure x p nx _ hcb) (by omega)).mono ?_)
    rintro v1 h1 nx1 hnx1 ⟨zs, rfl, rfl⟩
    unfold callQ
    simp only [go_sem, reduceIte, Nat.reduceAdd, Nat.reduceSub, Nat.reduceLT, Nat.reduceLeDiff, reduceCtorEq, Nat.reduceEqDiff, Int.reduceToNat]
    obtain ⟨L, hL⟩ : ∃ L, L = l.filter fun x => !(p.le x) := ⟨_, rfl⟩
    rw [← hL]
    have hLl : L.length ≤ 1000 := by rw [hL]; exact Nat.le_trans (List.length_filter_le _ _) hl
    have htk : (L.map Pa.v ++ zs).take L.length = L.map Pa.v := by rw [List.take_append_of_le_length (by simp)]; exact List.take_of_length_le (by simp)
    have hmv : (L.map Pa.v) ++ [p.v] = (L ++ [p]).map Pa.v := by simp
    have hlen1 : L.length + 1 = (L ++ [p]).length := by simp
    have hneq2 : (nx = m) = False := eq_false (by omega)
    have hneq3 : (m = nx1) = False := eq_false (by omega)
    have hneq4 : (nx = nx1) = False := eq_false (by omega)
    (repeat' (first | (with_reducible first | refine lwp_seq ?_ | refine lwp_ops ?_ | refine seqQ_normal ?_ | refine lops_done ?_ | refine blockQ_normal ?_ | refine lwp_block ?_ | refine lwp_skip ?_ | refine lwp_ret ?_ | refine seqQ_ret ?_ | refine blockQ_ret ?_ | refine roundM_ret ?_ | refine lwp_exit ?_ | refine seqQ_exit ?_ | refine roundM_exit ?_ | refine blockQ_exit ?_ | refine blockQ_other (by decide) ?_) | (with_reducible refine lops_id ?_; (first | refine lops_go2 rfl (by simp only [Pa.fits_v, hneq, hneq2, go_sem, reduceIte, Nat.reduceAdd, Nat.reduceSub, Nat.reduceLT, Nat.reduceLeDiff, reduceCtorEq, Nat.reduceEqDiff, Int.reduceToNat]; try omega) ?_  | ((first | refine lops_guardT rfl ?_ | refine lops_guardF rfl ?_); with_reducible first | refine condG_t ?_ | refine condG_f ?_ | refine condG_s (fun _ => ?_) (fun _ => ?_)) | refine lops_guard_no rfl ?_) <;> try simp only [Pa.fits_v, hneq, hneq2, go_sem, reduceIte, Nat.reduceAdd, Nat.reduceSub, Nat.reduceLT, Nat.reduceLeDiff, reduceCtorEq, Nat.reduceEqDiff, Int.reduceToNat]) | (with_reducible refine cond_id ?_; refine lwp_condB rfl ?_; with_reducible first | refine condG_t ?_ | refine condG_f ?_ | refine condG_s (fun _ => ?_) (fun _ => ?_)) | (with_reducible refine draw_id ?_; refine lwp_draw rfl ?_) | (with_reducible refine dops_id ?_; (first | refine dops_go1 rfl (by simp only [Pa.fits_v, hneq, hneq2, go_sem, reduceIte, Nat.reduceAdd, Nat.reduceSub, Nat.reduceLT, Nat.reduceLeDiff, reduceCtorEq, Nat.reduceEqDiff, Int.reduceToNat]; try omega) ?_  | ((first | refine dops_guardT rfl ?_ | refine dops_guardF rfl ?_); with_reducible first | refine condG_t ?_ | refine condG_f ?_ | refine condG_s (fun _ => ?_) (fun _ => ?_)) | refine dops_guard_no rfl ?_ | refine dops_nil (drawQ_nil ?_)) <;> try simp only [Pa.fits_v, hneq, hneq2, go_sem, reduceIte, Nat.reduceAdd, Nat.reduceSub, Nat.reduceLT, Nat.reduceLeDiff, reduceCtorEq, Nat.reduceEqDiff, Int.reduceToNat])))
    refine lops_append_cut (es := L.map Pa.v ++ zs) rfl (by simp only [hneq, hneq3, go_sem, reduceIte, Nat.reduceAdd, Nat.reduceSub, Nat.reduceLT, Nat.reduceLeDiff, reduceCtorEq, Nat.reduceEqDiff, Int.reduceToNat]) (by simp) rfl (by simp) (by simp only [List.length_cons, List.length_nil]; omega) ?_
    simp only [htk, hmv, hlen1, go_sem, reduceIte, Nat.reduceAdd, Nat.reduceSub, Nat.reduceLT, Nat.reduceLeDiff, reduceCtorEq, Nat.reduceEqDiff, Int.reduceToNat]
    (repeat' (first | (with_reducible first | refine lwp_seq ?_ | refine lwp_ops ?_ | refine seqQ_normal ?_ | refine lops_done ?_ | refine blockQ_normal ?_ | refine lwp_block ?_ | refine lwp_skip ?_ | refine lwp_ret ?_ | refine seqQ_ret ?_ | refine blockQ_ret ?_ | refine roundM_ret ?_ | refine lwp_exit ?_ | refine seqQ_exit ?_ | refine roundM_exit ?_ | refine blockQ_exit ?_ | refine blockQ_other (by decide) ?_) | (with_reducible refine lops_id ?_; (first | refine lops_go2 rfl (by simp only [Pa.fits_v, hneq, go_sem, reduceIte, Nat.reduceAdd, Nat.reduceSub, Nat.reduceLT, Nat.reduceLeDiff, reduceCtorEq, Nat.reduceEqDiff, Int.reduceToNat]; try omega) ?_  | ((first | refine lops_guardT rfl ?_ | refine lops_guardF rfl ?_); with_reducible first | refine condG_t ?_ | refine condG_f ?_ | refine condG_s (fun _ => ?_) (fun _ => ?_)) | refine lops_guard_no rfl ?_) <;> try simp only [Pa.fits_v, hneq, go_sem, reduceIte, Nat.reduceAdd, Nat.reduceSub, Nat.reduceLT, Nat.reduceLeDiff, reduceCtorEq, Nat.reduceEqDiff, Int.reduceToNat]) | (with_reducible refine cond_id ?_; refine lwp_condB rfl ?_; with_reducible first | refine condG_t ?_ | refine condG_f ?_ | refine condG_s (fun _ => ?_) (fun _ => ?_)) | (with_reducible refine draw_id ?_; refine lwp_draw rfl ?_) | (with_reducible refine dops_id ?_; (first | refine dops_go1 rfl (by simp only [Pa.fits_v, hneq, go_sem, reduceIte, Nat.reduceAdd, Nat.reduceSub, Nat.reduceLT, Nat.reduceLeDiff, reduceCtorEq, Nat.reduceEqDiff, Int.reduceToNat]; try omega) ?_  | ((first | refine dops_guardT rfl ?_ | refine dops_guardF rfl ?_); with_reducible first | refine condG_t ?_ | refine condG_f ?_ | refine condG_s (fun _ => ?_) (fun _ => ?_)) | refine dops_guard_no rfl ?_ | refine dops_nil (drawQ_nil ?_)) <;> try simp only [Pa.fits_v, hneq, go_sem, reduceIte, Nat.reduceAdd, Nat.reduceSub, Nat.reduceLT, Nat.reduceLeDiff, reduceCtorEq, Nat.reduceEqDiff, Int.reduceToNat])))
    refine lops_call ((sort_structs sortPa 2 (by intro w; exact Try.isAgg44 w) (by intro w; exact Try.sizeOf44 w) (by kernel_rfl) Pa.v Pa.fits_v cmpP swo_cmpP fPut3 [] (fun x y => by simpa using put3_pure x y) _ (L ++ [p]) (by simp) _ _ (by simp only [go_sem, reduceIte, Nat.reduceAdd, Nat.reduceSub, Nat.reduceLT, Nat.reduceLeDiff, reduceCtorEq, Nat.reduceEqDiff, Int.reduceToNat]) (by simp; omega)).mono ?_)
    rintro v2 h2 nx2 hnx2 ⟨rfl, rfl, ys, hp, hs, rfl⟩
    have hys := hfin ys (by rw [← hL]; exact hp) hs
    unfold callQ
    subst hys
    have hpl : (L ++ [p]).length = (putL l p).length := hp.length_eq.symm
    simp only [hpl, go_sem, reduceIte, Nat.reduceAdd, Nat.reduceSub, Nat.reduceLT, Nat.reduceLeDiff, reduceCtorEq, Nat.reduceEqDiff, Int.reduceToNat]
    (repeat' (first | (with_reducible first | refine lwp_seq ?_ | refine lwp_ops ?_ | refine seqQ_normal ?_ | refine lops_done ?_ | refine blockQ_normal ?_ | refine lwp_block ?_ | refine lwp_skip ?_ | refine lwp_ret ?_ | refine seqQ_ret ?_ | refine blockQ_ret ?_ | refine roundM_ret ?_ | refine lwp_exit ?_ | refine seqQ_exit ?_ | refine roundM_exit ?_ | refine blockQ_exit ?_ | refine blockQ_other (by decide) ?_) | (with_reducible refine lops_id ?_; (first | refine lops_go2 rfl (by simp only [ go_sem, reduceIte, Nat.reduceAdd, Nat.reduceSub, Nat.reduceLT, Nat.reduceLeDiff, reduceCtorEq, Nat.reduceEqDiff, Int.reduceToNat]; try omega) ?_  | ((first | refine lops_guardT rfl ?_ | refine lops_guardF rfl ?_); with_reducible first | refine condG_t ?_ | refine condG_f ?_ | refine condG_s (fun _ => ?_) (fun _ => ?_)) | refine lops_guard_no rfl ?_) <;> try simp only [ go_sem, reduceIte, Nat.reduceAdd, Nat.reduceSub, Nat.reduceLT, Nat.reduceLeDiff, reduceCtorEq, Nat.reduceEqDiff, Int.reduceToNat]) | (with_reducible refine cond_id ?_; refine lwp_condB rfl ?_; with_reducible first | refine condG_t ?_ | refine condG_f ?_ | refine condG_s (fun _ => ?_) (fun _ => ?_)) | (with_reducible refine draw_id ?_; refine lwp_draw rfl ?_) | (with_reducible refine dops_id ?_; (first | refine dops_go1 rfl (by simp only [ go_sem, reduceIte, Nat.reduceAdd, Nat.reduceSub, Nat.reduceLT, Nat.reduceLeDiff, reduceCtorEq, Nat.reduceEqDiff, Int.reduceToNat]; try omega) ?_  | ((first | refine dops_guardT rfl ?_ | refine dops_guardF rfl ?_); with_reducible first | refine condG_t ?_ | refine condG_f ?_ | refine condG_s (fun _ => ?_) (fun _ => ?_)) | refine dops_guard_no rfl ?_ | refine dops_nil (drawQ_nil ?_)) <;> try simp only [ go_sem, reduceIte, Nat.reduceAdd, Nat.reduceSub, Nat.reduceLT, Nat.reduceLeDiff, reduceCtorEq, Nat.reduceEqDiff, Int.reduceToNat])))
    refine ret_slot2 ((h'.del m).set (nx1 + 1) (.arr (.agg 2) ((putL l p).map Pa.v))) ?_ ⟨nx1 + 1, by omega, ?_, ?_⟩
    · intro x b hx
      by_cases e : x = nx1 + 1
      · subst e; simp only [go_sem, reduceIte, Nat.reduceAdd, Nat.reduceSub, Nat.reduceLT, Nat.reduceLeDiff, reduceCtorEq, Nat.reduceEqDiff, Int.reduceToNat] at hx ⊢; exact hx
      · have hx' : (h'.del m) x = some b := by unfold Hp.set at hx; rwa [if_neg e] at hx
        have hxm : x ≠ m := fun e2 => by subst e2; simp only [Hp.del, if_pos] at hx'; cases hx'
        have hx2 : h' x = some b := by unfold Hp.del at hx'; rwa [if_neg hxm] at hx'
        have := hdm x b hx2
        have e1 : (x = nx) = False := eq_false (by omega)
        have e2 : (x = nx1) = False := eq_false (by omega)
        simp only [e, e1, e2, hxm, go_sem, reduceIte, Nat.reduceAdd, Nat.reduceSub, Nat.reduceLT, Nat.reduceLeDiff, reduceCtorEq, Nat.reduceEqDiff, Int.reduceToNat]; exact hx2
    · simp only [go_sem, reduceIte, Nat.reduceAdd, Nat.reduceSub, Nat.reduceLT, Nat.reduceLeDiff, reduceCtorEq, Nat.reduceEqDiff, Int.reduceToNat]
    · simp only [hne, if_false]
end Go.Proofs.Ytmpmngakheoacaa
/-
Contracts of package path, fifth part: which maps are right. No conditions.
-/
namespace Go.Proofs.Ytmpmngakheoacaa
set_option linter.unusedSimpArgs false
set_option linter.unusedVariables false
set_option linter.unusedSectionVars false
open Go.RowKit Go.Sort
attribute [local irreducible] IntKind.wrap
attribute [local go_sem] Option.some.injEq Prod.mk.injEq false_and and_false Bool.true_eq_false dRun dRest dbare dMerge nones if_true Bool.true_and dgoC dgoCRest fillV okAll nextAll LOper.ok LOper.next LOp.ok LOp.next LVal.ok LVal.out LArg.ev putV binOK pick_true pick_false pick_bool V.undef Sh.size addHp dokAll dnextAll LOper.dok LOper.dres LOp.dok LOp.dout dput conOK veqL leafEq List.take_succ_cons List.take_zero List.take_nil List.drop_succ_cons List.drop_zero List.drop_nil List.set_cons_succ List.set_cons_zero List.getD_cons_succ List.getD_cons_zero List.length_cons List.length_nil List.map_cons List.map_nil List.all_cons List.all_nil List.mem_cons List.not_mem_nil List.replicate_succ List.replicate_zero List.cons_append List.nil_append List.append_nil List.isEmpty_cons List.isEmpty_nil appOwn appHp appOK Option.getD_some Option.isSome_some Option.isSome_none Nat.add_eq Nat.zero_add Nat.add_zero true_and and_true and_self true_implies implies_true false_implies forall_const forall_eq forall_eq_or_imp ne_eq not_false_eq_true not_true_eq_false Bool.not_true Bool.not_false decide_true decide_false Bool.and_true Bool.true_and Bool.and_false Bool.false_and true_or or_true false_or or_false eq_self Bool.false_eq_true nxNe nxNe' tupOf mkFrom bval ogive cutOwn cutE_nil cutE_full cutE_tok cutE_free_nil cutE_free_cons selems Int.toNat_natCast Int.toNat_zero List.take_length Hp.set_app Hp.del_app goOps goRest LOper.plain LOp.isCall LOper.dplain LOp.isStop lops_nil gRun gRest bare gMerge V.gd_true V.gd_false pick_gd pick_gdn pick_and pick_or partOK_self loadPart_self storePart_self dgoOps dgoRest beq_true beq_false partOK_ll partOK_al partOK_aa loadPart_l loadPart_a storePart_la storePart_aa fits_leaf fits_agg leafy_bool leafy_int leafy_str leafy_nilPtr leafy_ptr leafy_ept leafy_sl leafy_rs leafy_nilMap leafy_map leafy_nilChan leafy_chan leafy_fn leafy_nilFn leafy_yld leafy_iface leafy_nilIface veq_aa veq_li veq_lb veq_ls cells_agg cells_leaf cell_agg cell_leaf veq_ptr1 veq_ptr2 veq_ptr3 veq_ptr4 veq_ptr5 veq_slice1 veq_slice2 veq_func1 veq_func2 veq_func3 veq_iface1 veq_iface2 veq_iface3 veq_map1 veq_map2 veq_map3 veq_chan1 veq_chan2 veq_chan3 conAt_add conAt_zero untaken wrHp Hp.turn delHp Option.isNone_some Option.isNone_none nxFq goOps2 goRest2 LOper.plain2 LOp.isApp ltNe ltNe1 ltNe' ltNe1' delO_nil delO_tok

abbrev fNew1 : Nat := 24
abbrev fTurns1 : Nat := 51
theorem turns1_pure (own : Own) (n : Nat) (l : List We) (w : We) (b1 b2 : Nat) (hfit : FitW n l) (hn : n ≤ 200) (hl : l.length ≤ 1000) (hw : w.t < n) (h : Hp) (h1 : h b1 = some (.arr .leaf [.int .i64 n])) (h2 : h b2 = some (.arr .leaf [wes own l])) :
    Pure Try.prog 51 [w.v, .ptr b1 .leaf 0 0, .ptr b2 .leaf 0 0] h (.bool (w.p.n && reachB l w.t w.f)) := by
  refine pure_of (fun L => trivial) fun h' nx hh => acalls_walk L.path_turns_1_low fun hd => ?_
  have h1' := hh b1 _ _ h1
  have h2' := hh b2 _ _ h2
  have e1 := hd b1 _ h1'
  have e2 := hd b2 _ h2'
  obtain ⟨f, t, nn, a⟩ := w
  simp only [List.length_cons, List.length_nil, Nat.reduceAdd, Nat.reduceSub, List.replicate_succ, List.replicate_zero, List.cons_append, List.nil_append, V.undef]
  cases nn <;> (repeat' (first | (with_reducible first | refine lwp_seq ?_ | refine lwp_ops ?_ | refine seqQ_normal ?_ | refine lops_done ?_ | refine blockQ_normal ?_ | refine lwp_block ?_ | refine lwp_skip ?_ | refine lwp_ret ?_ | refine seqQ_ret ?_ | refine blockQ_ret ?_ | refine roundM_ret ?_ | refine lwp_exit ?_ | refine seqQ_exit ?_ | refine roundM_exit ?_ | refine blockQ_exit ?_ | refine blockQ_other (by decide) ?_) | (with_reducible refine lops_id ?_; (first | refine lops_go2 rfl (by simp only [We.v, h1', h2', e1, e2, go_sem, reduceIte, Nat.reduceAdd, Nat.reduceSub, Nat.reduceLT, Nat.reduceLeDiff, reduceCtorEq, Nat.reduceEqDiff, Int.reduceToNat]; try omega) ?_ | refine lops_pure (preaches_pure own n l t f hfit hw hn hl _) rfl (has_refl _) ?_ | ((first | refine lops_guardT rfl ?_ | refine lops_guardF rfl ?_); with_reducible first | refine condG_t ?_ | refine condG_f ?_ | refine condG_s (fun _ => ?_) (fun _ => ?_)) | refine lops_guard_no rfl ?_) <;> try simp only [We.v, h1', h2', e1, e2, go_sem, reduceIte, Nat.reduceAdd, Nat.reduceSub, Nat.reduceLT, Nat.reduceLeDiff, reduceCtorEq, Nat.reduceEqDiff, Int.reduceToNat]) | (with_reducible refine cond_id ?_; refine lwp_condB rfl ?_; with_reducible first | refine condG_t ?_ | refine condG_f ?_ | refine condG_s (fun _ => ?_) (fun _ => ?_)) | (with_reducible refine draw_id ?_; refine lwp_draw rfl ?_) | (with_reducible refine dops_id ?_; (first | refine dops_go1 rfl (by simp only [We.v, h1', h2', e1, e2, go_sem, reduceIte, Nat.reduceAdd, Nat.reduceSub, Nat.reduceLT, Nat.reduceLeDiff, reduceCtorEq, Nat.reduceEqDiff, Int.reduceToNat]; try omega) ?_  | ((first | refine dops_guardT rfl ?_ | refine dops_guardF rfl ?_); with_reducible first | refine condG_t ?_ | refine condG_f ?_ | refine condG_s (fun _ => ?_) (fun _ => ?_)) | refine dops_guard_no rfl ?_ | refine dops_nil (drawQ_nil ?_)) <;> try simp only [We.v, h1', h2', e1, e2, go_sem, reduceIte, Nat.reduceAdd, Nat.reduceSub, Nat.reduceLT, Nat.reduceLeDiff, reduceCtorEq, Nat.reduceEqDiff, Int.reduceToNat])))
  all_goals refine ret_slot h' (by repeat (first | exact Hp.le_refl _ | refine le_of_fresh hd ?_ (by omega) _ | refine le_of_freshd hd ?_ (by omega))) ⟨?_, rfl⟩
  all_goals simp only [go_sem, reduceIte, Nat.reduceAdd, Nat.reduceSub, Nat.reduceLT, Nat.reduceLeDiff, reduceCtorEq, Nat.reduceEqDiff, Int.reduceToNat]
noncomputable def turnsB (l : List We) : Bool := l.any fun w => w.p.n && reachB l w.t w.f
theorem turnsB_iff (l : List We) : turnsB l = true ↔ Turns l := by
  unfold turnsB Turns
  simp only [List.any_eq_true, Bool.and_eq_true, reachB_iff]
  constructor
  · rintro ⟨w, h1, h2, h3⟩; exact ⟨w, h1, h2, h3.imp (fun e => e.symm) (fun e => e)⟩
  · rintro ⟨w, h1, h2, h3⟩; exact ⟨w, h1, h2, h3.imp (fun e => e.symm) (fun e => e)⟩
theorem turns_pure (own : Own) (n : Nat) (l : List We) (hfit : FitW n l) (hn : n ≤ 200) (hl : l.length ≤ 1000) (h : Hp) : Pure Try.prog 33 [.int .i64 n, wes own l] h (.bool (turnsB l)) := by
  refine pure_of (fun L => trivial) fun h' nx hh => acalls_walk L.path_turns_low fun hd => ?_
  have b1 : ((h'.set nx (.arr .leaf [.int .i64 (n : Int)])).set (nx + 1) (.arr .leaf [wes own l])) nx = some (.arr .leaf [.int .i64 (n : Int)]) := by simp only [go_sem, reduceIte, Nat.reduceAdd, Nat.reduceSub, Nat.reduceLT, Nat.reduceLeDiff, reduceCtorEq, Nat.reduceEqDiff, Int.reduceToNat]
  have b2 : ((h'.set nx (.arr .leaf [.int .i64 (n : Int)])).set (nx + 1) (.arr .leaf [wes own l])) (nx + 1) = some (.arr .leaf [wes own l]) := by simp only [go_sem, reduceIte, Nat.reduceAdd, Nat.reduceSub, Nat.reduceLT, Nat.reduceLeDiff, reduceCtorEq, Nat.reduceEqDiff, Int.reduceToNat]
  have hc := containsFunc_lib We.v We.fits_v low_ContainsFunc_Wy low_IndexFunc_Wy (fun w => w.p.n && reachB l w.t w.f) own l fTurns1 [.ptr nx .leaf 0 0, .ptr (nx + 1) .leaf 0 0] _ (fun w hw => turns1_pure own n l w nx (nx + 1) hfit hn hl (hfit w hw).2.1 _ b1 b2) (by omega)
  simp only [List.length_cons, List.length_nil, Nat.reduceAdd, Nat.reduceSub, List.replicate_succ, List.replicate_zero, List.cons_append, List.nil_append, V.undef]
  (repeat' (first | (with_reducible first | refine lwp_seq ?_ | refine lwp_ops ?_ | refine seqQ_normal ?_ | refine lops_done ?_ | refine blockQ_normal ?_ | refine lwp_block ?_ | refine lwp_skip ?_ | refine lwp_ret ?_ | refine seqQ_ret ?_ | refine blockQ_ret ?_ | refine roundM_ret ?_ | refine lwp_exit ?_ | refine seqQ_exit ?_ | refine roundM_exit ?_ | refine blockQ_exit ?_ | refine blockQ_other (by decide) ?_) | (with_reducible refine lops_id ?_; (first | refine lops_go2 rfl (by simp only [ go_sem, reduceIte, Nat.reduceAdd, Nat.reduceSub, Nat.reduceLT, Nat.reduceLeDiff, reduceCtorEq, Nat.reduceEqDiff, Int.reduceToNat]; try omega) ?_ | refine lops_pure (hc) rfl (has_refl _) ?_ | ((first | refine lops_guardT rfl ?_ | refine lops_guardF rfl ?_); with_reducible first | refine condG_t ?_ | refine condG_f ?_ | refine condG_s (fun _ => ?_) (fun _ => ?_)) | refine lops_guard_no rfl ?_) <;> try simp only [ go_sem, reduceIte, Nat.reduceAdd, Nat.reduceSub, Nat.reduceLT, Nat.reduceLeDiff, reduceCtorEq, Nat.reduceEqDiff, Int.reduceToNat]) | (with_reducible refine cond_id ?_; refine lwp_condB rfl ?_; with_reducible first | refine condG_t ?_ | refine condG_f ?_ | refine condG_s (fun _ => ?_) (fun _ => ?_)) | (with_reducible refine draw_id ?_; refine lwp_draw rfl ?_) | (with_reducible refine dops_id ?_; (first | refine dops_go1 rfl (by simp only [ go_sem, reduceIte, Nat.reduceAdd, Nat.reduceSub, Nat.reduceLT, Nat.reduceLeDiff, reduceCtorEq, Nat.reduceEqDiff, Int.reduceToNat]; try omega) ?_  | ((first | refine dops_guardT rfl ?_ | refine dops_guardF rfl ?_); with_reducible first | refine condG_t ?_ | refine condG_f ?_ | refine condG_s (fun _ => ?_) (fun _ => ?_)) | refine dops_guard_no rfl ?_ | refine dops_nil (drawQ_nil ?_)) <;> try simp only [ go_sem, reduceIte, Nat.reduceAdd, Nat.reduceSub, Nat.reduceLT, Nat.reduceLeDiff, reduceCtorEq, Nat.reduceEqDiff, Int.reduceToNat])))
  exact ret_slot h' (by repeat (first | exact Hp.le_refl _ | refine le_of_fresh hd ?_ (by omega) _ | refine le_of_freshd hd ?_ (by omega))) ⟨rfl, rfl⟩
theorem new1_pure (w : Wy) (P : Int) (b : Nat) (h : Hp) (h1 : h b = some (.arr .leaf [.int .i64 P])) : Pure Try.prog 24 [w.v, .ptr b .leaf 0 0] h (.bool (!(w.fit P))) := by
  refine pure_of (fun L => trivial) fun h' nx hh => acalls_walk L.path_New_1_low fun hd => ?_
  have h1' := hh b _ _ h1
  have e1 := hd b _ h1'
  simp only [List.length_cons, List.length_nil, Nat.reduceAdd, Nat.reduceSub, List.replicate_succ, List.replicate_zero, List.cons_append, List.nil_append, V.undef]
  (repeat' (first | (with_reducible first | refine lwp_seq ?_ | refine lwp_ops ?_ | refine seqQ_normal ?_ | refine lops_done ?_ | refine blockQ_normal ?_ | refine lwp_block ?_ | refine lwp_skip ?_ | refine lwp_ret ?_ | refine seqQ_ret ?_ | refine blockQ_ret ?_ | refine roundM_ret ?_ | refine lwp_exit ?_ | refine seqQ_exit ?_ | refine roundM_exit ?_ | refine blockQ_exit ?_ | refine blockQ_other (by decide) ?_) | (with_reducible refine lops_id ?_; (first | refine lops_go2 rfl (by simp only [Wy.fits_v, h1', e1, go_sem, reduceIte, Nat.reduceAdd, Nat.reduceSub, Nat.reduceLT, Nat.reduceLeDiff, reduceCtorEq, Nat.reduceEqDiff, Int.reduceToNat]; try omega) ?_ | refine lops_pure (pwithin_pure w P _) rfl (has_refl _) ?_ | ((first | refine lops_guardT rfl ?_ | refine lops_guardF rfl ?_); with_reducible first | refine condG_t ?_ | refine condG_f ?_ | refine condG_s (fun _ => ?_) (fun _ => ?_)) | refine lops_guard_no rfl ?_) <;> try simp only [Wy.fits_v, h1', e1, go_sem, reduceIte, Nat.reduceAdd, Nat.reduceSub, Nat.reduceLT, Nat.reduceLeDiff, reduceCtorEq, Nat.reduceEqDiff, Int.reduceToNat]) | (with_reducible refine cond_id ?_; refine lwp_condB rfl ?_; with_reducible first | refine condG_t ?_ | refine condG_f ?_ | refine condG_s (fun _ => ?_) (fun _ => ?_)) | (with_reducible refine draw_id ?_; refine lwp_draw rfl ?_) | (with_reducible refine dops_id ?_; (first | refine dops_go1 rfl (by simp only [Wy.fits_v, h1', e1, go_sem, reduceIte, Nat.reduceAdd, Nat.reduceSub, Nat.reduceLT, Nat.reduceLeDiff, reduceCtorEq, Nat.reduceEqDiff, Int.reduceToNat]; try omega) ?_  | ((first | refine dops_guardT rfl ?_ | refine dops_guardF rfl ?_); with_reducible first | refine condG_t ?_ | refine condG_f ?_ | refine condG_s (fun _ => ?_) (fun _ => ?_)) | refine dops_guard_no rfl ?_ | refine dops_nil (drawQ_nil ?_)) <;> try simp only [Wy.fits_v, h1', e1, go_sem, reduceIte, Nat.reduceAdd, Nat.reduceSub, Nat.reduceLT, Nat.reduceLeDiff, reduceCtorEq, Nat.reduceEqDiff, Int.reduceToNat])))
  exact ret_slot h' (by repeat (first | exact Hp.le_refl _ | refine le_of_fresh hd ?_ (by omega) _ | refine le_of_freshd hd ?_ (by omega))) ⟨rfl, rfl⟩
theorem low_Compact_Wy : lowerFn Try.prog 27 = some (LB.Compact (.agg 4) (.agg [.int .i64 0, .int .i64 0, .bool false, .int .i64 0]) (.plain (.agg 4) [.int, .int, .bool, .int])) := by kernel_rfl
theorem veq_wy (x y : Wy) : veq (.plain (.agg 4) [.int, .int, .bool, .int]) x.v y.v = some (decide (x = y)) := by
  obtain ⟨f, t, ⟨n, a⟩⟩ := x; obtain ⟨f', t', ⟨n', a'⟩⟩ := y
  simp only [Wy.v, go_sem, reduceIte, Nat.reduceAdd, Nat.reduceSub, Nat.reduceLT, Nat.reduceLeDiff, reduceCtorEq, Nat.reduceEqDiff, Int.reduceToNat]
  simp only [Wy.mk.injEq, Pa.mk.injEq, Option.some.injEq]
  rw [Bool.eq_iff_iff]
  simp
theorem compact_nil_Wy (h : Hp) : Pure Try.prog 27 [.sl (.agg 4) .nil []] h (.sl (.agg 4) .nil []) := by
  refine pure_of (fun L => by simp [V.names, namesL]) fun h' nx hh => acalls_walk L.slices_Compact_path_Way_path_Way_low fun hd => ?_
  have hc : decide (((0 : Nat) : Int) < 2) = true := by decide
  simp only [List.length_cons, List.length_nil, Nat.reduceAdd, Nat.reduceSub, List.replicate_succ, List.replicate_zero, List.cons_append, List.nil_append, V.undef]
  (repeat' (first | (with_reducible first | refine lwp_seq ?_ | refine lwp_ops ?_ | refine seqQ_normal ?_ | refine lops_done ?_ | refine blockQ_normal ?_ | refine lwp_block ?_ | refine lwp_skip ?_ | refine lwp_ret ?_ | refine seqQ_ret ?_ | refine blockQ_ret ?_ | refine roundM_ret ?_ | refine lwp_exit ?_ | refine seqQ_exit ?_ | refine roundM_exit ?_ | refine blockQ_exit ?_ | refine blockQ_other (by decide) ?_) | (with_reducible refine lops_id ?_; (first | refine lops_go2 rfl (by simp only [hc, go_sem, reduceIte, Nat.reduceAdd, Nat.reduceSub, Nat.reduceLT, Nat.reduceLeDiff, reduceCtorEq, Nat.reduceEqDiff, Int.reduceToNat]; try omega) ?_  | ((first | refine lops_guardT rfl ?_ | refine lops_guardF rfl ?_); with_reducible first | refine condG_t ?_ | refine condG_f ?_ | refine condG_s (fun _ => ?_) (fun _ => ?_)) | refine lops_guard_no rfl ?_) <;> try simp only [hc, go_sem, reduceIte, Nat.reduceAdd, Nat.reduceSub, Nat.reduceLT, Nat.reduceLeDiff, reduceCtorEq, Nat.reduceEqDiff, Int.reduceToNat]) | (with_reducible refine cond_id ?_; refine lwp_condB rfl ?_; with_reducible first | refine condG_t ?_ | refine condG_f ?_ | refine condG_s (fun _ => ?_) (fun _ => ?_)) | (with_reducible refine draw_id ?_; refine lwp_draw rfl ?_) | (with_reducible refine dops_id ?_; (first | refine dops_go1 rfl (by simp only [hc, go_sem, reduceIte, Nat.reduceAdd, Nat.reduceSub, Nat.reduceLT, Nat.reduceLeDiff, reduceCtorEq, Nat.reduceEqDiff, Int.reduceToNat]; try omega) ?_  | ((first | refine dops_guardT rfl ?_ | refine dops_guardF rfl ?_); with_reducible first | refine condG_t ?_ | refine condG_f ?_ | refine condG_s (fun _ => ?_) (fun _ => ?_)) | refine dops_guard_no rfl ?_ | refine dops_nil (drawQ_nil ?_)) <;> try simp only [hc, go_sem, reduceIte, Nat.reduceAdd, Nat.reduceSub, Nat.reduceLT, Nat.reduceLeDiff, reduceCtorEq, Nat.reduceEqDiff, Int.reduceToNat])))
  exact ret_slot h' (Hp.le_refl _) ⟨rfl, rfl⟩
def mapV (P : Int) (l : List Wy) : V := .agg [.int .i64 P, lst (.agg 4) (l.map Wy.v)]
theorem mapV_names (P : Int) (l : List Wy) (L : Nat → Prop) : (mapV P l).names L := by
  have := lst_names (k := .agg 4) (fun L => namesL_map (fun x => Wy.names_v L x) l) L
  simp [mapV, V.names, namesL, this]
theorem mapV_nil : mapV 0 [] = .agg [.int .i64 0, .sl (.agg 4) .nil []] := rfl
open Classical in
set_option maxHeartbeats 1000000 in
theorem new_tail (o : Own) (P : Int) (ws : List Wy) (h' h2 : Hp) (nx nx2 : Nat) (ho : (.sl (.agg 4) o ((canonW ws).map Wy.v) : V) = lst (.agg 4) ((canonW ws).map Wy.v)) (hl : ws.length ≤ 1000) (hbad : ¬ (P < 0 ∨ 200 < P ∨ ∃ w ∈ ws, w.fit P = false)) (hdm : DomB h' nx)
    (h1 : h2 nx = some (.arr .leaf [.int .i64 P])) (h3 : h2 (nx + 1) = some (.arr (.agg 2) [.agg [.int .i64 0, .sl (.agg 4) .nil []]])) (hle : h'.le h2) (hnx : nx + 2 ≤ nx2) :
    lwp Try.prog (.seq (.seq (.ops L.path_New_r5) (.cond (.slot 28) (.seq (.ops L.path_New_r6) .ret) .skip)) (.seq (.seq (.ops L.path_New_r7) (.cond (.slot 38) (.seq (.ops L.path_New_r8) .ret) .skip)) (.seq (.ops L.path_New_r9) .ret)))
      (postR [.cell 4 (.agg 2), .slot 5] fun v' h'' _ => v' = .tup [mapV (newOf P ws).1.1 (newOf P ws).1.2, errV (newOf P ws).2] ∧ h'' = h') ⟨mkFrom 44 0 [(2, .ptr nx .leaf 0 0), (4, .ptr (nx + 1) (.agg 2) 0 0), (5, .nilIface), (7, .sl (.agg 4) o ((canonW ws).map Wy.v))], h2, nx2⟩ := by
  have hfit : ∀ w ∈ canonW ws, w.fit P = true := fun w hw => by
    cases e : w.fit P with
    | true => rfl
    | false => exact absurd (.inr (.inr ⟨w, (canonW_mem ws w).1 hw, e⟩)) hbad
  have hP : 0 ≤ P ∧ P ≤ 200 := by
    constructor
    · exact Classical.byContradiction fun h => hbad (.inl (by omega))
    · exact Classical.byContradiction fun h => hbad (.inr (.inl (by omega)))
  have hcl : (canonW ws).length ≤ 1000 := Nat.le_trans (canonW_len ws) hl
  obtain ⟨k1, k2⟩ := fit_list hfit
  obtain ⟨l, hlw⟩ : ∃ l, l = (canonW ws).map Wy.we := ⟨_, rfl⟩
  rw [← hlw] at k1 k2
  have hll : l.length ≤ 1000 := by rw [hlw]; simpa using hcl
  have hwl : (canonW ws).map Wy.v = l.map We.v := by rw [k1, wy_map]
  have hPn : P = ((P.toNat : Nat) : Int) := by omega
  have hb : ∀ w ∈ canonW ws, 0 ≤ w.p.a ∧ w.p.a ≤ 1048576 := fun w hw => by
    have := hfit w hw
    simp only [Wy.fit, Bool.and_eq_true, Pa.ok, decide_eq_true_eq] at this
    exact this.2.2.2.2
  have ci : ∀ h, Pure Try.prog 32 [.int .i64 P, .sl (.agg 4) o ((canonW ws).map Wy.v)] h (.bool (idleB l)) := fun h => by
    rw [hwl, hPn]; exact idle_pure o P.toNat l k2 (by omega) hll h
  have ct : ∀ h, Pure Try.prog 33 [.int .i64 P, .sl (.agg 4) o ((canonW ws).map Wy.v)] h (.bool (turnsB l)) := fun h => by
    rw [hwl, hPn]; exact turns_pure o P.toNat l k2 (by omega) hll h
  have ca : ∀ h, Pure Try.prog 31 [.sl (.agg 4) o ((canonW ws).map Wy.v)] h (.int .i64 (addedW (canonW ws))) := fun h => added_pure o (canonW ws) hcl hb h
  have hlt : nx < nx2 := by omega
  have hlt1 : nx + 1 < nx2 := by omega
  unfold newOf
  rw [if_neg hbad, ← hlw]
  simp only [mkFrom, go_sem, reduceIte, Nat.reduceAdd, Nat.reduceSub, Nat.reduceLT, Nat.reduceLeDiff, reduceCtorEq, Nat.reduceEqDiff, Int.reduceToNat]
  have hset : ∀ b, h'.le (h2.set (nx + 1) b) := fun b => le_set hle (hdm.none (by omega)) _
  rcases Int.lt_or_le 1048576 (addedW (canonW ws)) with ha | ha
  · have hc : decide ((1048576 : Int) < addedW (canonW ws)) = true := decide_eq_true ha
    rw [if_pos ha]
    (repeat' (first | (with_reducible first | refine lwp_seq ?_ | refine lwp_ops ?_ | refine seqQ_normal ?_ | refine lops_done ?_ | refine blockQ_normal ?_ | refine lwp_block ?_ | refine lwp_skip ?_ | refine lwp_ret ?_ | refine seqQ_ret ?_ | refine blockQ_ret ?_ | refine roundM_ret ?_ | refine lwp_exit ?_ | refine seqQ_exit ?_ | refine roundM_exit ?_ | refine blockQ_exit ?_ | refine blockQ_other (by decide) ?_) | (with_reducible refine lops_id ?_; (first | refine lops_go2 rfl (by simp only [hc, h1, h3, hlt, hlt1, go_sem, reduceIte, Nat.reduceAdd, Nat.reduceSub, Nat.reduceLT, Nat.reduceLeDiff, reduceCtorEq, Nat.reduceEqDiff, Int.reduceToNat]; try omega) ?_ | refine lops_pure (ca _) rfl (has_refl _) ?_ | ((first | refine lops_guardT rfl ?_ | refine lops_guardF rfl ?_); with_reducible first | refine condG_t ?_ | refine condG_f ?_ | refine condG_s (fun _ => ?_) (fun _ => ?_)) | refine lops_guard_no rfl ?_) <;> try simp only [hc, h1, h3, hlt, hlt1, go_sem, reduceIte, Nat.reduceAdd, Nat.reduceSub, Nat.reduceLT, Nat.reduceLeDiff, reduceCtorEq, Nat.reduceEqDiff, Int.reduceToNat]) | (with_reducible refine cond_id ?_; refine lwp_condB rfl ?_; with_reducible first | refine condG_t ?_ | refine condG_f ?_ | refine condG_s (fun _ => ?_) (fun _ => ?_)) | (with_reducible refine draw_id ?_; refine lwp_draw rfl ?_) | (with_reducible refine dops_id ?_; (first | refine dops_go1 rfl (by simp only [hc, h1, h3, hlt, hlt1, go_sem, reduceIte, Nat.reduceAdd, Nat.reduceSub, Nat.reduceLT, Nat.reduceLeDiff, reduceCtorEq, Nat.reduceEqDiff, Int.reduceToNat]; try omega) ?_  | ((first | refine dops_guardT rfl ?_ | refine dops_guardF rfl ?_); with_reducible first | refine condG_t ?_ | refine condG_f ?_ | refine condG_s (fun _ => ?_) (fun _ => ?_)) | refine dops_guard_no rfl ?_ | refine dops_nil (drawQ_nil ?_)) <;> try simp only [hc, h1, h3, hlt, hlt1, go_sem, reduceIte, Nat.reduceAdd, Nat.reduceSub, Nat.reduceLT, Nat.reduceLeDiff, reduceCtorEq, Nat.reduceEqDiff, Int.reduceToNat])))
    refine ret_cell_slot (by simp only [go_sem, reduceIte, Nat.reduceAdd, Nat.reduceSub, Nat.reduceLT, Nat.reduceLeDiff, reduceCtorEq, Nat.reduceEqDiff, Int.reduceToNat]) h' (hset _) ⟨?_, rfl⟩
    simp only [mapV_nil, errV, go_sem, reduceIte, Nat.reduceAdd, Nat.reduceSub, Nat.reduceLT, Nat.reduceLeDiff, reduceCtorEq, Nat.reduceEqDiff, Int.reduceToNat]
    trivial
  · have hc : decide ((1048576 : Int) < addedW (canonW ws)) = false := decide_eq_false (by omega)
    rw [if_neg (by omega)]
    cases hi : idleB l with
    | true =>
      rw [if_pos (.inl ((idleB_iff l).1 hi))]
      (repeat' (first | (with_reducible first | refine lwp_seq ?_ | refine lwp_ops ?_ | refine seqQ_normal ?_ | refine lops_done ?_ | refine blockQ_normal ?_ | refine lwp_block ?_ | refine lwp_skip ?_ | refine lwp_ret ?_ | refine seqQ_ret ?_ | refine blockQ_ret ?_ | refine roundM_ret ?_ | refine lwp_exit ?_ | refine seqQ_exit ?_ | refine roundM_exit ?_ | refine blockQ_exit ?_ | refine blockQ_other (by decide) ?_) | (with_reducible refine lops_id ?_; (first | refine lops_go2 rfl (by simp only [hc, h1, h3, hlt, hlt1, hi, go_sem, reduceIte, Nat.reduceAdd, Nat.reduceSub, Nat.reduceLT, Nat.reduceLeDiff, reduceCtorEq, Nat.reduceEqDiff, Int.reduceToNat]; try omega) ?_ | refine lops_pure (ca _) rfl (has_refl _) ?_ | refine lops_pure (ci _) rfl (has_refl _) ?_ | ((first | refine lops_guardT rfl ?_ | refine lops_guardF rfl ?_); with_reducible first | refine condG_t ?_ | refine condG_f ?_ | refine condG_s (fun _ => ?_) (fun _ => ?_)) | refine lops_guard_no rfl ?_) <;> try simp only [hc, h1, h3, hlt, hlt1, hi, go_sem, reduceIte, Nat.reduceAdd, Nat.reduceSub, Nat.reduceLT, Nat.reduceLeDiff, reduceCtorEq, Nat.reduceEqDiff, Int.reduceToNat]) | (with_reducible refine cond_id ?_; refine lwp_condB rfl ?_; with_reducible first | refine condG_t ?_ | refine condG_f ?_ | refine condG_s (fun _ => ?_) (fun _ => ?_)) | (with_reducible refine draw_id ?_; refine lwp_draw rfl ?_) | (with_reducible refine dops_id ?_; (first | refine dops_go1 rfl (by simp only [hc, h1, h3, hlt, hlt1, hi, go_sem, reduceIte, Nat.reduceAdd, Nat.reduceSub, Nat.reduceLT, Nat.reduceLeDiff, reduceCtorEq, Nat.reduceEqDiff, Int.reduceToNat]; try omega) ?_  | ((first | refine dops_guardT rfl ?_ | refine dops_guardF rfl ?_); with_reducible first | refine condG_t ?_ | refine condG_f ?_ | refine condG_s (fun _ => ?_) (fun _ => ?_)) | refine dops_guard_no rfl ?_ | refine dops_nil (drawQ_nil ?_)) <;> try simp only [hc, h1, h3, hlt, hlt1, hi, go_sem, reduceIte, Nat.reduceAdd, Nat.reduceSub, Nat.reduceLT, Nat.reduceLeDiff, reduceCtorEq, Nat.reduceEqDiff, Int.reduceToNat])))
      refine ret_cell_slot (by simp only [go_sem, reduceIte, Nat.reduceAdd, Nat.reduceSub, Nat.reduceLT, Nat.reduceLeDiff, reduceCtorEq, Nat.reduceEqDiff, Int.reduceToNat]) h' (hset _) ⟨?_, rfl⟩
      simp only [mapV_nil, errV, go_sem, reduceIte, Nat.reduceAdd, Nat.reduceSub, Nat.reduceLT, Nat.reduceLeDiff, reduceCtorEq, Nat.reduceEqDiff, Int.reduceToNat]
      trivial
    | false =>
      have hni : ¬ Idle l := fun h => by rw [(idleB_iff l).2 h] at hi; cases hi
      cases ht : turnsB l with
      | true =>
        rw [if_pos (.inr ((turnsB_iff l).1 ht))]
        (repeat' (first | (with_reducible first | refine lwp_seq ?_ | refine lwp_ops ?_ | refine seqQ_normal ?_ | refine lops_done ?_ | refine blockQ_normal ?_ | refine lwp_block ?_ | refine lwp_skip ?_ | refine lwp_ret ?_ | refine seqQ_ret ?_ | refine blockQ_ret ?_ | refine roundM_ret ?_ | refine lwp_exit ?_ | refine seqQ_exit ?_ | refine roundM_exit ?_ | refine blockQ_exit ?_ | refine blockQ_other (by decide) ?_) | (with_reducible refine lops_id ?_; (first | refine lops_go2 rfl (by simp only [hc, h1, h3, hlt, hlt1, hi, ht, go_sem, reduceIte, Nat.reduceAdd, Nat.reduceSub, Nat.reduceLT, Nat.reduceLeDiff, reduceCtorEq, Nat.reduceEqDiff, Int.reduceToNat]; try omega) ?_ | refine lops_pure (ca _) rfl (has_refl _) ?_ | refine lops_pure (ci _) rfl (has_refl _) ?_ | refine lops_pure (ct _) rfl (has_refl _) ?_ | ((first | refine lops_guardT rfl ?_ | refine lops_guardF rfl ?_); with_reducible first | refine condG_t ?_ | refine condG_f ?_ | refine condG_s (fun _ => ?_) (fun _ => ?_)) | refine lops_guard_no rfl ?_) <;> try simp only [hc, h1, h3, hlt, hlt1, hi, ht, go_sem, reduceIte, Nat.reduceAdd, Nat.reduceSub, Nat.reduceLT, Nat.reduceLeDiff, reduceCtorEq, Nat.reduceEqDiff, Int.reduceToNat]) | (with_reducible refine cond_id ?_; refine lwp_condB rfl ?_; with_reducible first | refine condG_t ?_ | refine condG_f ?_ | refine condG_s (fun _ => ?_) (fun _ => ?_)) | (with_reducible refine draw_id ?_; refine lwp_draw rfl ?_) | (with_reducible refine dops_id ?_; (first | refine dops_go1 rfl (by simp only [hc, h1, h3, hlt, hlt1, hi, ht, go_sem, reduceIte, Nat.reduceAdd, Nat.reduceSub, Nat.reduceLT, Nat.reduceLeDiff, reduceCtorEq, Nat.reduceEqDiff, Int.reduceToNat]; try omega) ?_  | ((first | refine dops_guardT rfl ?_ | refine dops_guardF rfl ?_); with_reducible first | refine condG_t ?_ | refine condG_f ?_ | refine condG_s (fun _ => ?_) (fun _ => ?_)) | refine dops_guard_no rfl ?_ | refine dops_nil (drawQ_nil ?_)) <;> try simp only [hc, h1, h3, hlt, hlt1, hi, ht, go_sem, reduceIte, Nat.reduceAdd, Nat.reduceSub, Nat.reduceLT, Nat.reduceLeDiff, reduceCtorEq, Nat.reduceEqDiff, Int.reduceToNat])))
        refine ret_cell_slot (by simp only [go_sem, reduceIte, Nat.reduceAdd, Nat.reduceSub, Nat.reduceLT, Nat.reduceLeDiff, reduceCtorEq, Nat.reduceEqDiff, Int.reduceToNat]) h' (hset _) ⟨?_, rfl⟩
        simp only [mapV_nil, errV, go_sem, reduceIte, Nat.reduceAdd, Nat.reduceSub, Nat.reduceLT, Nat.reduceLeDiff, reduceCtorEq, Nat.reduceEqDiff, Int.reduceToNat]
        trivial
      | false =>
        have hnt : ¬ Turns l := fun h => by rw [(turnsB_iff l).2 h] at ht; cases ht
        rw [if_neg (fun h => h.elim hni hnt)]
        (repeat' (first | (with_reducible first | refine lwp_seq ?_ | refine lwp_ops ?_ | refine seqQ_normal ?_ | refine lops_done ?_ | refine blockQ_normal ?_ | refine lwp_block ?_ | refine lwp_skip ?_ | refine lwp_ret ?_ | refine seqQ_ret ?_ | refine blockQ_ret ?_ | refine roundM_ret ?_ | refine lwp_exit ?_ | refine seqQ_exit ?_ | refine roundM_exit ?_ | refine blockQ_exit ?_ | refine blockQ_other (by decide) ?_) | (with_reducible refine lops_id ?_; (first | refine lops_go2 rfl (by simp only [hc, h1, h3, hlt, hlt1, hi, ht, go_sem, reduceIte, Nat.reduceAdd, Nat.reduceSub, Nat.reduceLT, Nat.reduceLeDiff, reduceCtorEq, Nat.reduceEqDiff, Int.reduceToNat]; try omega) ?_ | refine lops_pure (ca _) rfl (has_refl _) ?_ | refine lops_pure (ci _) rfl (has_refl _) ?_ | refine lops_pure (ct _) rfl (has_refl _) ?_ | ((first | refine lops_guardT rfl ?_ | refine lops_guardF rfl ?_); with_reducible first | refine condG_t ?_ | refine condG_f ?_ | refine condG_s (fun _ => ?_) (fun _ => ?_)) | refine lops_guard_no rfl ?_) <;> try simp only [hc, h1, h3, hlt, hlt1, hi, ht, go_sem, reduceIte, Nat.reduceAdd, Nat.reduceSub, Nat.reduceLT, Nat.reduceLeDiff, reduceCtorEq, Nat.reduceEqDiff, Int.reduceToNat]) | (with_reducible refine cond_id ?_; refine lwp_condB rfl ?_; with_reducible first | refine condG_t ?_ | refine condG_f ?_ | refine condG_s (fun _ => ?_) (fun _ => ?_)) | (with_reducible refine draw_id ?_; refine lwp_draw rfl ?_) | (with_reducible refine dops_id ?_; (first | refine dops_go1 rfl (by simp only [hc, h1, h3, hlt, hlt1, hi, ht, go_sem, reduceIte, Nat.reduceAdd, Nat.reduceSub, Nat.reduceLT, Nat.reduceLeDiff, reduceCtorEq, Nat.reduceEqDiff, Int.reduceToNat]; try omega) ?_  | ((first | refine dops_guardT rfl ?_ | refine dops_guardF rfl ?_); with_reducible first | refine condG_t ?_ | refine condG_f ?_ | refine condG_s (fun _ => ?_) (fun _ => ?_)) | refine dops_guard_no rfl ?_ | refine dops_nil (drawQ_nil ?_)) <;> try simp only [hc, h1, h3, hlt, hlt1, hi, ht, go_sem, reduceIte, Nat.reduceAdd, Nat.reduceSub, Nat.reduceLT, Nat.reduceLeDiff, reduceCtorEq, Nat.reduceEqDiff, Int.reduceToNat])))
        refine ret_cell_slot (by simp only [go_sem, reduceIte, Nat.reduceAdd, Nat.reduceSub, Nat.reduceLT, Nat.reduceLeDiff, reduceCtorEq, Nat.reduceEqDiff, Int.reduceToNat]) h' (hset _) ⟨?_, rfl⟩
        simp only [mapV, ho, errV, go_sem, reduceIte, Nat.reduceAdd, Nat.reduceSub, Nat.reduceLT, Nat.reduceLeDiff, reduceCtorEq, Nat.reduceEqDiff, Int.reduceToNat]
        try trivial
theorem new_pure (own : Own) (P : Int) (ws : List Wy) (hl : ws.length ≤ 1000) (h : Hp) : Pure Try.prog 9 [.int .i64 P, wys own ws] h (.tup [mapV (newOf P ws).1.1 (newOf P ws).1.2, errV (newOf P ws).2]) := by
  refine pure_of (fun L => by simp [V.names, namesL, mapV_names, errV_names]) fun h' nx hh => acalls_walk L.path_New_low fun hd => ?_
  have hb1 : ((h'.set nx (.arr .leaf [.int .i64 P])).set (nx + 1) (.arr (.agg 2) [.agg [.int .i64 0, .sl (.agg 4) .nil []]])) nx = some (.arr .leaf [.int .i64 P]) := by simp only [go_sem, reduceIte, Nat.reduceAdd, Nat.reduceSub, Nat.reduceLT, Nat.reduceLeDiff, reduceCtorEq, Nat.reduceEqDiff, Int.reduceToNat]
  have hcl := containsFunc_lib Wy.v Wy.fits_v low_ContainsFunc_Wy low_IndexFunc_Wy (fun w => !(w.fit P)) own ws fNew1 [.ptr nx .leaf 0 0] _ (fun w _ => new1_pure w P nx _ hb1) (by omega)
  simp only [List.length_cons, List.length_nil, Nat.reduceAdd, Nat.reduceSub, List.replicate_succ, List.replicate_zero, List.cons_append, List.nil_append, V.undef]
  by_cases hbad : P < 0 ∨ 200 < P ∨ ∃ w ∈ ws, w.fit P = false
  · have hn : newOf P ws = ((0, []), 1) := by unfold newOf; rw [if_pos hbad]
    rw [hn]
    have hbx : ¬ P < 0 → ¬ 200 < P → (ws.any fun w => !(w.fit P)) = true := fun h1 h2 => by
      rcases hbad with h | h | ⟨w, hw, h⟩
      · exact absurd h h1
      · exact absurd h h2
      · exact List.any_eq_true.2 ⟨w, hw, by rw [h]; rfl⟩
    (repeat' (first | (with_reducible first | refine lwp_seq ?_ | refine lwp_ops ?_ | refine seqQ_normal ?_ | refine lops_done ?_ | refine blockQ_normal ?_ | refine lwp_block ?_ | refine lwp_skip ?_ | refine lwp_ret ?_ | refine seqQ_ret ?_ | refine blockQ_ret ?_ | refine roundM_ret ?_ | refine lwp_exit ?_ | refine seqQ_exit ?_ | refine roundM_exit ?_ | refine blockQ_exit ?_ | refine blockQ_other (by decide) ?_) | (with_reducible refine lops_id ?_; (first | refine lops_go2 rfl (by simp only [ go_sem, reduceIte, Nat.reduceAdd, Nat.reduceSub, Nat.reduceLT, Nat.reduceLeDiff, reduceCtorEq, Nat.reduceEqDiff, Int.reduceToNat]; try omega) ?_ | refine lops_pure (hcl) rfl (has_refl _) ?_ | ((first | refine lops_guardT rfl ?_ | refine lops_guardF rfl ?_); with_reducible first | refine condG_t ?_ | refine condG_f ?_ | refine condG_s (fun _ => ?_) (fun _ => ?_)) | refine lops_guard_no rfl ?_) <;> try simp only [ go_sem, reduceIte, Nat.reduceAdd, Nat.reduceSub, Nat.reduceLT, Nat.reduceLeDiff, reduceCtorEq, Nat.reduceEqDiff, Int.reduceToNat]) | (with_reducible refine cond_id ?_; refine lwp_condB rfl ?_; with_reducible first | refine condG_t ?_ | refine condG_f ?_ | refine condG_s (fun _ => ?_) (fun _ => ?_)) | (with_reducible refine draw_id ?_; refine lwp_draw rfl ?_) | (with_reducible refine dops_id ?_; (first | refine dops_go1 rfl (by simp only [ go_sem, reduceIte, Nat.reduceAdd, Nat.reduceSub, Nat.reduceLT, Nat.reduceLeDiff, reduceCtorEq, Nat.reduceEqDiff, Int.reduceToNat]; try omega) ?_  | ((first | refine dops_guardT rfl ?_ | refine dops_guardF rfl ?_); with_reducible first | refine condG_t ?_ | refine condG_f ?_ | refine condG_s (fun _ => ?_) (fun _ => ?_)) | refine dops_guard_no rfl ?_ | refine dops_nil (drawQ_nil ?_)) <;> try simp only [ go_sem, reduceIte, Nat.reduceAdd, Nat.reduceSub, Nat.reduceLT, Nat.reduceLeDiff, reduceCtorEq, Nat.reduceEqDiff, Int.reduceToNat])))
    · refine ret_cell_slot (by simp only [go_sem, reduceIte, Nat.reduceAdd, Nat.reduceSub, Nat.reduceLT, Nat.reduceLeDiff, reduceCtorEq, Nat.reduceEqDiff, Int.reduceToNat]) h' (by repeat (first | exact Hp.le_refl _ | refine le_of_fresh hd ?_ (by omega) _ | refine le_of_freshd hd ?_ (by omega))) ⟨?_, rfl⟩
      simp only [mapV_nil, errV, go_sem, reduceIte, Nat.reduceAdd, Nat.reduceSub, Nat.reduceLT, Nat.reduceLeDiff, reduceCtorEq, Nat.reduceEqDiff, Int.reduceToNat]
      trivial
    · refine ret_cell_slot (by simp only [go_sem, reduceIte, Nat.reduceAdd, Nat.reduceSub, Nat.reduceLT, Nat.reduceLeDiff, reduceCtorEq, Nat.reduceEqDiff, Int.reduceToNat]) h' (by repeat (first | exact Hp.le_refl _ | refine le_of_fresh hd ?_ (by omega) _ | refine le_of_freshd hd ?_ (by omega))) ⟨?_, rfl⟩
      simp only [mapV_nil, errV, go_sem, reduceIte, Nat.reduceAdd, Nat.reduceSub, Nat.reduceLT, Nat.reduceLeDiff, reduceCtorEq, Nat.reduceEqDiff, Int.reduceToNat]
      trivial
    · refine ret_cell_slot (by simp only [go_sem, reduceIte, Nat.reduceAdd, Nat.reduceSub, Nat.reduceLT, Nat.reduceLeDiff, reduceCtorEq, Nat.reduceEqDiff, Int.reduceToNat]) h' (by repeat (first | exact Hp.le_refl _ | refine le_of_fresh hd ?_ (by omega) _ | refine le_of_freshd hd ?_ (by omega))) ⟨?_, rfl⟩
      simp only [mapV_nil, errV, go_sem, reduceIte, Nat.reduceAdd, Nat.reduceSub, Nat.reduceLT, Nat.reduceLeDiff, reduceCtorEq, Nat.reduceEqDiff, Int.reduceToNat]
      trivial
    · rename_i x1 x2 x3
      rw [hbx (of_decide_eq_false x1) (of_decide_eq_false x2)] at x3
      cases x3
  · have g1 : decide (P < 0) = false := decide_eq_false (fun h => hbad (.inl h))
    have g2 : decide (200 < P) = false := decide_eq_false (fun h => hbad (.inr (.inl h)))
    have g3 : (ws.any fun w => !(w.fit P)) = false := by
      cases e : ws.any fun w => !(w.fit P) with
      | false => rfl
      | true =>
        obtain ⟨w, hw, h⟩ := List.any_eq_true.1 e
        exact absurd (.inr (.inr ⟨w, hw, by simpa using h⟩)) hbad
    have hs : ∃ own', (wys own ws).loose = wys own' ws := by cases own <;> exact ⟨_, rfl⟩
    obtain ⟨own', hs⟩ := hs
    (repeat' (first | (with_reducible first | refine lwp_seq ?_ | refine lwp_ops ?_ | refine seqQ_normal ?_ | refine lops_done ?_ | refine blockQ_normal ?_ | refine lwp_block ?_ | refine lwp_skip ?_ | refine lwp_ret ?_ | refine seqQ_ret ?_ | refine blockQ_ret ?_ | refine roundM_ret ?_ | refine lwp_exit ?_ | refine seqQ_exit ?_ | refine roundM_exit ?_ | refine blockQ_exit ?_ | refine blockQ_other (by decide) ?_) | (with_reducible refine lops_id ?_; (first | refine lops_go2 rfl (by simp only [g1, g2, g3, go_sem, reduceIte, Nat.reduceAdd, Nat.reduceSub, Nat.reduceLT, Nat.reduceLeDiff, reduceCtorEq, Nat.reduceEqDiff, Int.reduceToNat]; try omega) ?_ | refine lops_pure (hcl) rfl (has_refl _) ?_ | ((first | refine lops_guardT rfl ?_ | refine lops_guardF rfl ?_); with_reducible first | refine condG_t ?_ | refine condG_f ?_ | refine condG_s (fun _ => ?_) (fun _ => ?_)) | refine lops_guard_no rfl ?_) <;> try simp only [g1, g2, g3, go_sem, reduceIte, Nat.reduceAdd, Nat.reduceSub, Nat.reduceLT, Nat.reduceLeDiff, reduceCtorEq, Nat.reduceEqDiff, Int.reduceToNat]) | (with_reducible refine cond_id ?_; refine lwp_condB rfl ?_; with_reducible first | refine condG_t ?_ | refine condG_f ?_ | refine condG_s (fun _ => ?_) (fun _ => ?_)) | (with_reducible refine draw_id ?_; refine lwp_draw rfl ?_) | (with_reducible refine dops_id ?_; (first | refine dops_go1 rfl (by simp only [g1, g2, g3, go_sem, reduceIte, Nat.reduceAdd, Nat.reduceSub, Nat.reduceLT, Nat.reduceLeDiff, reduceCtorEq, Nat.reduceEqDiff, Int.reduceToNat]; try omega) ?_  | ((first | refine dops_guardT rfl ?_ | refine dops_guardF rfl ?_); with_reducible first | refine condG_t ?_ | refine condG_f ?_ | refine condG_s (fun _ => ?_) (fun _ => ?_)) | refine dops_guard_no rfl ?_ | refine dops_nil (drawQ_nil ?_)) <;> try simp only [g1, g2, g3, go_sem, reduceIte, Nat.reduceAdd, Nat.reduceSub, Nat.reduceLT, Nat.reduceLeDiff, reduceCtorEq, Nat.reduceEqDiff, Int.reduceToNat])))
    refine lops_pure (values_lib low_Values_Wy own (ws.map Wy.v) (fun L => namesL_map (Wy.names_v L) _) Hp.none) rfl (none_has _) ?_
    rw [hs]
    simp only [go_sem, reduceIte, Nat.reduceAdd, Nat.reduceSub, Nat.reduceLT, Nat.reduceLeDiff, reduceCtorEq, Nat.reduceEqDiff, Int.reduceToNat]
    refine lops_call ((sortedFunc_calls Wy.v sortWy Wy.fits_v (by intro w; exact Try.isAgg50 w) (by intro w; exact Try.sizeOf50 w) (by kernel_rfl) low_SortedFunc_Wy low_Collect_Wy low_AppendSeq_Wy rfl (by omega) rfl _ _ Hp.none ws
      (valuesIt_lib Wy.v Wy.fits_v low_ValuesIt_Wy rfl own' ws (by omega)) (by omega) Wy.cmp Wy.swo _ [] (fun x y => by simpa using order_pure x y) _ _ (none_has _)).mono ?_)
    rintro v1 h1 nx1 hnx1 ⟨es, ⟨ys, hp, hs2, rfl⟩, hF⟩
    have hys : ys = sortOf Wy.cmp ws := sorted_unique Wy.tot _ _ (hp.trans (sortOf_perm _ _).symm) hs2 (sortOf_sorted Wy.swo ws)
    subst hys
    have hle0 : h'.le ((h'.set nx (.arr .leaf [.int .i64 P])).set (nx + 1) (.arr (.agg 2) [.agg [.int .i64 0, .sl (.agg 4) .nil []]])) := (by repeat (first | exact Hp.le_refl _ | refine le_of_fresh hd ?_ (by omega) _ | refine le_of_freshd hd ?_ (by omega)))
    unfold callQ
    dsimp only at hnx1
    rcases hF with ⟨he, rfl, rfl⟩ | ⟨hne, id, hid, rfl, rfl⟩
    · have hw : ws = [] := by
        have : (sortOf Wy.cmp ws).length = 0 := by have := congrArg List.length he; simpa using this
        rw [(sortOf_perm Wy.cmp ws).length_eq] at this
        exact List.length_eq_zero_iff.1 this
      subst hw
      have hcn : canonW [] = [] := List.length_eq_zero_iff.1 (Nat.le_zero.1 (canonW_len []))
      simp only [go_sem, reduceIte, Nat.reduceAdd, Nat.reduceSub, Nat.reduceLT, Nat.reduceLeDiff, reduceCtorEq, Nat.reduceEqDiff, Int.reduceToNat]
      refine lops_pure (compact_nil_Wy _) rfl (has_refl _) ?_
      simp only [go_sem, reduceIte, Nat.reduceAdd, Nat.reduceSub, Nat.reduceLT, Nat.reduceLeDiff, reduceCtorEq, Nat.reduceEqDiff, Int.reduceToNat]
      refine lops_go1 rfl (by simp only [ go_sem, reduceIte, Nat.reduceAdd, Nat.reduceSub, Nat.reduceLT, Nat.reduceLeDiff, reduceCtorEq, Nat.reduceEqDiff, Int.reduceToNat]; try omega) ?_
      simp only [ go_sem, reduceIte, Nat.reduceAdd, Nat.reduceSub, Nat.reduceLT, Nat.reduceLeDiff, reduceCtorEq, Nat.reduceEqDiff, Int.reduceToNat]
      refine (seqQ_wk ⟨mkFrom 44 0 [(2, .ptr nx .leaf 0 0), (4, .ptr (nx + 1) (.agg 2) 0 0), (5, .nilIface), (7, .sl (.agg 4) .nil ((canonW []).map Wy.v))], _, _⟩ (wk_mk ?_ (Hp.le_refl _) (Nat.le_refl _)) (new_tail .nil P [] h' _ nx _ (by rw [hcn]; rfl) (by simp) hbad hd (by simp only [go_sem, reduceIte, Nat.reduceAdd, Nat.reduceSub, Nat.reduceLT, Nat.reduceLeDiff, reduceCtorEq, Nat.reduceEqDiff, Int.reduceToNat]) (by simp only [go_sem, reduceIte, Nat.reduceAdd, Nat.reduceSub, Nat.reduceLT, Nat.reduceLeDiff, reduceCtorEq, Nat.reduceEqDiff, Int.reduceToNat]) hle0 (by omega)))
      simp only [WkL, mkFrom, Int.natCast_add, Int.natCast_one, Int.natCast_zero, hcn, List.map_nil, go_sem, reduceIte, Nat.reduceAdd, Nat.reduceSub, Nat.reduceLT, Nat.reduceLeDiff, reduceCtorEq, Nat.reduceEqDiff, Int.reduceToNat]
    · dsimp only at hid
      have hmb : (((h'.set nx (.arr .leaf [.int .i64 P])).set (nx + 1) (.arr (.agg 2) [.agg [.int .i64 0, .sl (.agg 4) .nil []]])).set id (.arr (.agg 4) ((sortOf Wy.cmp ws).map Wy.v))) id = some (.arr (.agg 4) ((sortOf Wy.cmp ws).map Wy.v)) := by simp only [go_sem, reduceIte, Nat.reduceAdd, Nat.reduceSub, Nat.reduceLT, Nat.reduceLeDiff, reduceCtorEq, Nat.reduceEqDiff, Int.reduceToNat]
      have hlen : ((sortOf Wy.cmp ws).map Wy.v).length = (sortOf Wy.cmp ws).length := by simp
      have hll : (sortOf Wy.cmp ws).length = ws.length := (sortOf_perm Wy.cmp ws).length_eq
      have hie : (nx = id) = False := eq_false (by omega)
      have hie1 : (nx + 1 = id) = False := eq_false (by omega)
      have hne2 : canonW ws ≠ [] := fun e => by
        have h1 := canonW_mem ws
        have : ws = [] := by
          cases hws : ws with
          | nil => rfl
          | cons x l => have := (h1 x).2 (by rw [hws]; simp); rw [e] at this; cases this
        subst this
        exact hne (by rw [List.map_eq_nil_iff]; exact List.length_eq_zero_iff.1 hll)
      rw [hlen]
      simp only [go_sem, reduceIte, Nat.reduceAdd, Nat.reduceSub, Nat.reduceLT, Nat.reduceLeDiff, reduceCtorEq, Nat.reduceEqDiff, Int.reduceToNat]
      refine lops_call ((acalls_freeze_cut (G := fun es => es = (cs (sortOf Wy.cmp ws)).map Wy.v) (compact_calls Wy.v low_Compact_Wy rfl Wy.fits_v veq_wy id (sortOf Wy.cmp ws) (by omega) _ _ hmb)).mono ?_)
      rintro v2 h2 nx2 hnx2 ⟨es, rfl, rfl, hes⟩
      have hes : es = (canonW ws).map Wy.v := hes
      dsimp only at hnx2
      subst hes
      unfold callQ
      simp only [go_sem, reduceIte, Nat.reduceAdd, Nat.reduceSub, Nat.reduceLT, Nat.reduceLeDiff, reduceCtorEq, Nat.reduceEqDiff, Int.reduceToNat]
      refine lops_go1 rfl (by simp only [ go_sem, reduceIte, Nat.reduceAdd, Nat.reduceSub, Nat.reduceLT, Nat.reduceLeDiff, reduceCtorEq, Nat.reduceEqDiff, Int.reduceToNat]; try omega) ?_
      simp only [ go_sem, reduceIte, Nat.reduceAdd, Nat.reduceSub, Nat.reduceLT, Nat.reduceLeDiff, reduceCtorEq, Nat.reduceEqDiff, Int.reduceToNat]
      refine (seqQ_wk ⟨mkFrom 44 0 [(2, .ptr nx .leaf 0 0), (4, .ptr (nx + 1) (.agg 2) 0 0), (5, .nilIface), (7, .sl (.agg 4) .free ((canonW ws).map Wy.v))], _, _⟩ (wk_mk ?_ (Hp.le_refl _) (Nat.le_refl _)) (new_tail .free P ws h' _ nx _ ?_ hl hbad hd (by simp only [hie, go_sem, reduceIte, Nat.reduceAdd, Nat.reduceSub, Nat.reduceLT, Nat.reduceLeDiff, reduceCtorEq, Nat.reduceEqDiff, Int.reduceToNat]) (by simp only [hie1, go_sem, reduceIte, Nat.reduceAdd, Nat.reduceSub, Nat.reduceLT, Nat.reduceLeDiff, reduceCtorEq, Nat.reduceEqDiff, Int.reduceToNat]) ?_ (by omega)))
      · simp only [WkL, mkFrom, Int.natCast_add, Int.natCast_one, Int.natCast_zero,  go_sem, reduceIte, Nat.reduceAdd, Nat.reduceSub, Nat.reduceLT, Nat.reduceLeDiff, reduceCtorEq, Nat.reduceEqDiff, Int.reduceToNat]
      · cases hcw : canonW ws with
        | nil => exact absurd hcw hne2
        | cons x l => rfl
      · intro m b hm
        have hml := hd m b hm
        have e1 : (m = id) = False := eq_false (by omega)
        have := hle0 m b hm
        simp only [e1, go_sem, reduceIte, Nat.reduceAdd, Nat.reduceSub, Nat.reduceLT, Nat.reduceLeDiff, reduceCtorEq, Nat.reduceEqDiff, Int.reduceToNat] at this ⊢
        exact this
end Go.Proofs.Ytmpmngakheoacaa
/-
Contracts of package path, sixth part: is a map right? No conditions.
-/
namespace Go.Proofs.Ytmpmngakheoacaa
set_option linter.unusedSimpArgs false
set_option linter.unusedVariables false
set_option linter.unusedSectionVars false
open Go.RowKit Go.Sort
attribute [local irreducible] IntKind.wrap
attribute [local go_sem] Option.some.injEq Prod.mk.injEq false_and and_false Bool.true_eq_false dRun dRest dbare dMerge nones if_true Bool.true_and dgoC dgoCRest fillV okAll nextAll LOper.ok LOper.next LOp.ok LOp.next LVal.ok LVal.out LArg.ev putV binOK pick_true pick_false pick_bool V.undef Sh.size addHp dokAll dnextAll LOper.dok LOper.dres LOp.dok LOp.dout dput conOK veqL leafEq List.take_succ_cons List.take_zero List.take_nil List.drop_succ_cons List.drop_zero List.drop_nil List.set_cons_succ List.set_cons_zero List.getD_cons_succ List.getD_cons_zero List.length_cons List.length_nil List.map_cons List.map_nil List.all_cons List.all_nil List.mem_cons List.not_mem_nil List.replicate_succ List.replicate_zero List.cons_append List.nil_append List.append_nil List.isEmpty_cons List.isEmpty_nil appOwn appHp appOK Option.getD_some Option.isSome_some Option.isSome_none Nat.add_eq Nat.zero_add Nat.add_zero true_and and_true and_self true_implies implies_true false_implies forall_const forall_eq forall_eq_or_imp ne_eq not_false_eq_true not_true_eq_false Bool.not_true Bool.not_false decide_true decide_false Bool.and_true Bool.true_and Bool.and_false Bool.false_and true_or or_true false_or or_false eq_self Bool.false_eq_true nxNe nxNe' tupOf mkFrom bval ogive cutOwn cutE_nil cutE_full cutE_tok cutE_free_nil cutE_free_cons selems Int.toNat_natCast Int.toNat_zero List.take_length Hp.set_app Hp.del_app goOps goRest LOper.plain LOp.isCall LOper.dplain LOp.isStop lops_nil gRun gRest bare gMerge V.gd_true V.gd_false pick_gd pick_gdn pick_and pick_or partOK_self loadPart_self storePart_self dgoOps dgoRest beq_true beq_false partOK_ll partOK_al partOK_aa loadPart_l loadPart_a storePart_la storePart_aa fits_leaf fits_agg leafy_bool leafy_int leafy_str leafy_nilPtr leafy_ptr leafy_ept leafy_sl leafy_rs leafy_nilMap leafy_map leafy_nilChan leafy_chan leafy_fn leafy_nilFn leafy_yld leafy_iface leafy_nilIface veq_aa veq_li veq_lb veq_ls cells_agg cells_leaf cell_agg cell_leaf veq_ptr1 veq_ptr2 veq_ptr3 veq_ptr4 veq_ptr5 veq_slice1 veq_slice2 veq_func1 veq_func2 veq_func3 veq_iface1 veq_iface2 veq_iface3 veq_map1 veq_map2 veq_map3 veq_chan1 veq_chan2 veq_chan3 conAt_add conAt_zero untaken wrHp Hp.turn delHp Option.isNone_some Option.isNone_none nxFq goOps2 goRest2 LOper.plain2 LOp.isApp ltNe ltNe1 ltNe' ltNe1' delO_nil delO_tok

/-- A map, whatever is known of its ways' array. -/
abbrev mps (o : Own) (P : Int) (ws : List Wy) : V := .agg [.int .i64 P, wys o ws]
theorem mps_fits (o : Own) (P : Int) (ws : List Wy) : (mps o P ws).fits (.agg 2) = true := by simp [V.fits, V.leafy]
theorem newOf_len (P : Int) (ws : List Wy) : (newOf P ws).1.2.length ≤ ws.length := by
  unfold newOf
  split
  · simp
  · split
    · simp
    · split
      · simp
      · exact canonW_len ws
theorem mapV_mps (P : Int) (l : List Wy) : ∃ o, mapV P l = mps o P l := by
  obtain ⟨o, ho⟩ := lst_eq (.agg 4) (l.map Wy.v)
  exact ⟨o, by unfold mapV; rw [ho]⟩
theorem rightMap_pure (o : Own) (P : Int) (ws : List Wy) (hl : ws.length ≤ 1000) (h : Hp) : Pure Try.prog 14 [mps o P ws] h (.bool (rightM P ws)) := by
  refine pure_of (fun L => trivial) fun h' nx hh => acalls_walk L.path_Right_low fun hd => ?_
  have hn := new_pure o P ws hl
  obtain ⟨o2, ho2⟩ := mapV_mps (newOf P ws).1.1 (newOf P ws).1.2
  rw [ho2] at hn
  have hlen := newOf_len P ws
  have he := equal_lib Wy.v Wy.fits_v low_Equal_Wy veq_wy o2 o (newOf P ws).1.2 ws (by omega)
  have hrm : rightM P ws = (decide ((newOf P ws).2 = 0) && decide ((newOf P ws).1.2 = ws)) := by
    rw [Bool.eq_iff_iff]
    unfold rightM
    simp
  rw [hrm]
  simp only [List.length_cons, List.length_nil, Nat.reduceAdd, Nat.reduceSub, List.replicate_succ, List.replicate_zero, List.cons_append, List.nil_append, V.undef]
  (repeat' (first | (with_reducible first | refine lwp_seq ?_ | refine lwp_ops ?_ | refine seqQ_normal ?_ | refine lops_done ?_ | refine blockQ_normal ?_ | refine lwp_block ?_ | refine lwp_skip ?_ | refine lwp_ret ?_ | refine seqQ_ret ?_ | refine blockQ_ret ?_ | refine roundM_ret ?_ | refine lwp_exit ?_ | refine seqQ_exit ?_ | refine roundM_exit ?_ | refine blockQ_exit ?_ | refine blockQ_other (by decide) ?_) | (with_reducible refine lops_id ?_; (first | refine lops_go2 rfl (by simp only [mps_fits, veq_err, go_sem, reduceIte, Nat.reduceAdd, Nat.reduceSub, Nat.reduceLT, Nat.reduceLeDiff, reduceCtorEq, Nat.reduceEqDiff, Int.reduceToNat]; try omega) ?_ | refine lops_pure (hn _) rfl (has_refl _) ?_ | refine lops_pure (he _) rfl (has_refl _) ?_ | ((first | refine lops_guardT rfl ?_ | refine lops_guardF rfl ?_); with_reducible first | refine condG_t ?_ | refine condG_f ?_ | refine condG_s (fun _ => ?_) (fun _ => ?_)) | refine lops_guard_no rfl ?_) <;> try simp only [mps_fits, veq_err, go_sem, reduceIte, Nat.reduceAdd, Nat.reduceSub, Nat.reduceLT, Nat.reduceLeDiff, reduceCtorEq, Nat.reduceEqDiff, Int.reduceToNat]) | (with_reducible refine cond_id ?_; refine lwp_condB rfl ?_; with_reducible first | refine condG_t ?_ | refine condG_f ?_ | refine condG_s (fun _ => ?_) (fun _ => ?_)) | (with_reducible refine draw_id ?_; refine lwp_draw rfl ?_) | (with_reducible refine dops_id ?_; (first | refine dops_go1 rfl (by simp only [mps_fits, veq_err, go_sem, reduceIte, Nat.reduceAdd, Nat.reduceSub, Nat.reduceLT, Nat.reduceLeDiff, reduceCtorEq, Nat.reduceEqDiff, Int.reduceToNat]; try omega) ?_  | ((first | refine dops_guardT rfl ?_ | refine dops_guardF rfl ?_); with_reducible first | refine condG_t ?_ | refine condG_f ?_ | refine condG_s (fun _ => ?_) (fun _ => ?_)) | refine dops_guard_no rfl ?_ | refine dops_nil (drawQ_nil ?_)) <;> try simp only [mps_fits, veq_err, go_sem, reduceIte, Nat.reduceAdd, Nat.reduceSub, Nat.reduceLT, Nat.reduceLeDiff, reduceCtorEq, Nat.reduceEqDiff, Int.reduceToNat])))
  all_goals refine ret_slot h' (by repeat (first | exact Hp.le_refl _ | refine le_of_fresh hd ?_ (by omega) _ | refine le_of_freshd hd ?_ (by omega))) ⟨?_, rfl⟩
  all_goals rename_i hx
  all_goals simp only [hx, go_sem, reduceIte, Nat.reduceAdd, Nat.reduceSub, Nat.reduceLT, Nat.reduceLeDiff, reduceCtorEq, Nat.reduceEqDiff, Int.reduceToNat]

/-! ### What from hands over -/
open Classical in
noncomputable def leastL (l : List We) (a k : Nat) : List Pa := if h : ∃ m, LeastOf l a k m then Classical.choose h else []
theorem leastL_eq {l : List We} {a k : Nat} {m : List Pa} (h : LeastOf l a k m) : leastL l a k = m := by
  unfold leastL
  rw [dif_pos ⟨m, h⟩]
  exact (Classical.choose_spec (⟨m, h⟩ : ∃ m, LeastOf l a k m)).unique h
noncomputable def fromL (n : Nat) (l : List We) (a : Nat) : List (List Pa) := (List.range n).map (leastL l a)
theorem fromL_eq {n : Nat} {l : List We} {a : Nat} {out : List (List Pa)} (hl : out.length = n) (h : ∀ k, k < n → LeastOf l a k (out.getD k [])) : fromL n l a = out := by
  refine List.ext_getElem (by simp [fromL, hl]) fun i h1 h2 => ?_
  have hi : i < n := by omega
  have := leastL_eq (h i hi)
  simp only [fromL, List.getElem_map, List.getElem_range, this]
  rw [List.getD_eq_getElem?_getD, List.getElem?_eq_getElem h2]; rfl
/-- A value that names one block of those that are there. -/
theorem pure_ofn {P : Program} {f : FuncId} {args : List V} {h : Hp} {v : V} {m : Nat} {k : Sh} {es : List V} (hm : h m = some (.arr k es)) (hv : ∀ L : Nat → Prop, L m → v.names L) (hc : ∀ h' nx, h.has h' → ACalls P f args h' nx fun v' h'' _ => v' = v ∧ h'' = h') : Pure P f args h v := by
  intro h' nx hh
  have c := hc h' nx hh
  refine ⟨c.1, fun K cargs hlv hrel hargs => (c.2 K cargs hlv hrel hargs).mono ?_⟩
  rintro e w' ⟨K', v', cv, h'', nx', rfl, he, hle, hvr, hrel', hlv', hnx, rfl, rfl⟩
  have hml := hrel.lt m _ (hh m _ _ hm)
  have hleO : K.le (K'.only fun n => K'.live n ∧ n < nx) := ⟨fun n hn => ⟨hle.live n hn, hlv n hn⟩, hle.mu, hle.tp, hle.fro, hle.imm, hle.cell, hle.shape, hle.below⟩
  exact ⟨K'.only fun n => K'.live n ∧ n < nx, v', cv, h'', nx, rfl, he, hleO, hvr.only _ (hv _ ⟨hle.live m hml, hlv m hml⟩), hrel.back hrel' hleO.toV (fun n hn => ⟨hle.live n hn, hlv n hn⟩), fun n hn => ⟨hn.2, (hlv' n hn.1).2⟩, Nat.le_refl _, rfl, rfl, rfl⟩
theorem put_no_pure (m : Nat) (l : List Pa) (p : Pa) (hl : l.length ≤ 1000) (hd : domi l p) (h : Hp) (hm : h m = some (.arr (.agg 2) (l.map Pa.v))) : Pure Try.prog 55 [prow m l, p.v] h (.tup [prow m l, .bool false]) := by
  refine pure_ofn hm (fun L hL => ?_) (put_no m l p hl hd h (fun _ => hm))
  unfold prow cellV
  split <;> simp [V.names, namesL, hL]
theorem clone_rs {P : Program} {k : Sh} {f bs : Nat} (hL : lowerFn P f = some (LB.Clone k bs)) (hbs : bs ≤ 140737) (m : Nat) (es : List V) (hl : es.length ≤ 1000000000) (hv : ∀ L, namesL L es) (h : Hp) (hm : h m = some (.arr k es)) : Fresh P f [.rs m k 0 es.length] h k es := by
  refine fresh_of hv fun h' nx hh => acalls_walk hL fun hd => ?_
  have hm' := hh m _ _ hm
  have hlt := hd m _ hm'
  have hb : es.length * bs ≤ 140737488355328 := Nat.le_trans (Nat.mul_le_mul hl hbs) (by omega)
  simp only [List.length_cons, List.length_nil, Nat.reduceAdd, Nat.reduceSub, List.replicate_succ, List.replicate_zero, List.cons_append, List.nil_append, V.undef]
  have hrf : (es.length ≤ es.length) = True := eq_true (Nat.le_refl _)
  (repeat' (first | (with_reducible first | refine lwp_seq ?_ | refine lwp_ops ?_ | refine seqQ_normal ?_ | refine lops_done ?_ | refine blockQ_normal ?_ | refine lwp_block ?_ | refine lwp_skip ?_ | refine lwp_ret ?_ | refine seqQ_ret ?_ | refine blockQ_ret ?_ | refine roundM_ret ?_ | refine lwp_exit ?_ | refine seqQ_exit ?_ | refine roundM_exit ?_ | refine blockQ_exit ?_ | refine blockQ_other (by decide) ?_) | (with_reducible refine lops_id ?_; (first | refine lops_go2 rfl (by simp only [hm', hlt, hb, hrf, if_true, go_sem, reduceIte, Nat.reduceAdd, Nat.reduceSub, Nat.reduceLT, Nat.reduceLeDiff, reduceCtorEq, Nat.reduceEqDiff, Int.reduceToNat]; try omega) ?_ | refine lops_go3 rfl rfl (by simp only [hm', hlt, hb, hrf, if_true, hm', hlt, hb, hrf, if_true, go_sem, reduceIte, Nat.reduceAdd, Nat.reduceSub, Nat.reduceLT, Nat.reduceLeDiff, reduceCtorEq, Nat.reduceEqDiff, Int.reduceToNat]; try omega) ?_ | ((first | refine lops_guardT rfl ?_ | refine lops_guardF rfl ?_); with_reducible first | refine condG_t ?_ | refine condG_f ?_ | refine condG_s (fun _ => ?_) (fun _ => ?_)) | refine lops_guard_no rfl ?_) <;> try simp only [hm', hlt, hb, hrf, if_true, go_sem, reduceIte, Nat.reduceAdd, Nat.reduceSub, Nat.reduceLT, Nat.reduceLeDiff, reduceCtorEq, Nat.reduceEqDiff, Int.reduceToNat]) | (with_reducible refine cond_id ?_; refine lwp_condB rfl ?_; with_reducible first | refine condG_t ?_ | refine condG_f ?_ | refine condG_s (fun _ => ?_) (fun _ => ?_)) | (with_reducible refine draw_id ?_; refine lwp_draw rfl ?_) | (with_reducible refine dops_id ?_; (first | refine dops_go1 rfl (by simp only [hm', hlt, hb, hrf, if_true, go_sem, reduceIte, Nat.reduceAdd, Nat.reduceSub, Nat.reduceLT, Nat.reduceLeDiff, reduceCtorEq, Nat.reduceEqDiff, Int.reduceToNat]; try omega) ?_  | ((first | refine dops_guardT rfl ?_ | refine dops_guardF rfl ?_); with_reducible first | refine condG_t ?_ | refine condG_f ?_ | refine condG_s (fun _ => ?_) (fun _ => ?_)) | refine dops_guard_no rfl ?_ | refine dops_nil (drawQ_nil ?_)) <;> try simp only [hm', hlt, hb, hrf, if_true, go_sem, reduceIte, Nat.reduceAdd, Nat.reduceSub, Nat.reduceLT, Nat.reduceLeDiff, reduceCtorEq, Nat.reduceEqDiff, Int.reduceToNat])))
  refine ret_slot (h'.set (nx + 1) .tip) ?_ ⟨nx + 1, by omega, ?_, rfl⟩
  · intro x b hx
    by_cases e : x = nx + 1
    · subst e; simp only [go_sem, reduceIte, Nat.reduceAdd, Nat.reduceSub, Nat.reduceLT, Nat.reduceLeDiff, reduceCtorEq, Nat.reduceEqDiff, Int.reduceToNat] at hx ⊢; exact hx
    · have hx' : h' x = some b := by unfold Hp.set at hx; rwa [if_neg e] at hx
      have := hd x b hx'
      have e1 : (x = nx) = False := eq_false (by omega)
      simp only [e, e1, go_sem, reduceIte, Nat.reduceAdd, Nat.reduceSub, Nat.reduceLT, Nat.reduceLeDiff, reduceCtorEq, Nat.reduceEqDiff, Int.reduceToNat]; exact hx'
  · simp only [go_sem, reduceIte, Nat.reduceAdd, Nat.reduceSub, Nat.reduceLT, Nat.reduceLeDiff, reduceCtorEq, Nat.reduceEqDiff, Int.reduceToNat]
end Go.Proofs.Ytmpmngakheoacaa
/-
Contracts of package path, seventh part: the least paths from a place to all places. No conditions.
-/
namespace Go.Proofs.Ytmpmngakheoacaa
set_option linter.unusedSimpArgs false
set_option linter.unusedVariables false
set_option linter.unusedSectionVars false
open Go.RowKit Go.Sort
attribute [local irreducible] IntKind.wrap
attribute [local go_sem] Option.some.injEq Prod.mk.injEq false_and and_false Bool.true_eq_false dRun dRest dbare dMerge nones if_true Bool.true_and dgoC dgoCRest fillV okAll nextAll LOper.ok LOper.next LOp.ok LOp.next LVal.ok LVal.out LArg.ev putV binOK pick_true pick_false pick_bool V.undef Sh.size addHp dokAll dnextAll LOper.dok LOper.dres LOp.dok LOp.dout dput conOK veqL leafEq List.take_succ_cons List.take_zero List.take_nil List.drop_succ_cons List.drop_zero List.drop_nil List.set_cons_succ List.set_cons_zero List.getD_cons_succ List.getD_cons_zero List.length_cons List.length_nil List.map_cons List.map_nil List.all_cons List.all_nil List.mem_cons List.not_mem_nil List.replicate_succ List.replicate_zero List.cons_append List.nil_append List.append_nil List.isEmpty_cons List.isEmpty_nil appOwn appHp appOK Option.getD_some Option.isSome_some Option.isSome_none Nat.add_eq Nat.zero_add Nat.add_zero true_and and_true and_self true_implies implies_true false_implies forall_const forall_eq forall_eq_or_imp ne_eq not_false_eq_true not_true_eq_false Bool.not_true Bool.not_false decide_true decide_false Bool.and_true Bool.true_and Bool.and_false Bool.false_and true_or or_true false_or or_false eq_self Bool.false_eq_true nxNe nxNe' tupOf mkFrom bval ogive cutOwn cutE_nil cutE_full cutE_tok cutE_free_nil cutE_free_cons selems Int.toNat_natCast Int.toNat_zero List.take_length Hp.set_app Hp.del_app goOps goRest LOper.plain LOp.isCall LOper.dplain LOp.isStop lops_nil gRun gRest bare gMerge V.gd_true V.gd_false pick_gd pick_gdn pick_and pick_or partOK_self loadPart_self storePart_self dgoOps dgoRest beq_true beq_false partOK_ll partOK_al partOK_aa loadPart_l loadPart_a storePart_la storePart_aa fits_leaf fits_agg leafy_bool leafy_int leafy_str leafy_nilPtr leafy_ptr leafy_ept leafy_sl leafy_rs leafy_nilMap leafy_map leafy_nilChan leafy_chan leafy_fn leafy_nilFn leafy_yld leafy_iface leafy_nilIface veq_aa veq_li veq_lb veq_ls cells_agg cells_leaf cell_agg cell_leaf veq_ptr1 veq_ptr2 veq_ptr3 veq_ptr4 veq_ptr5 veq_slice1 veq_slice2 veq_func1 veq_func2 veq_func3 veq_iface1 veq_iface2 veq_iface3 veq_map1 veq_map2 veq_map3 veq_chan1 veq_chan2 veq_chan3 conAt_add conAt_zero untaken wrHp Hp.turn delHp Option.isNone_some Option.isNone_none nxFq goOps2 goRest2 LOper.plain2 LOp.isApp ltNe ltNe1 ltNe' ltNe1' delO_nil delO_tok

theorem prow_leafy (m : Nat) (l : List Pa) : (prow m l).leafy = true := by unfold prow cellV; split <;> rfl
theorem prow_fits (m : Nat) (l : List Pa) : (prow m l).fits .leaf = true := by rw [fits_leaf]; exact prow_leafy m l
def cellsP (n : Nat) (ν : Nat → Nat) (out : List (List Pa)) : List V := (List.range n).map fun k => prow (ν k) (out.getD k [])
theorem cellsP_len (n : Nat) (ν : Nat → Nat) (out : List (List Pa)) : (cellsP n ν out).length = n := by simp [cellsP]
theorem cellsP_get {n : Nat} {ν : Nat → Nat} {out : List (List Pa)} {t : Nat} (ht : t < n) : (cellsP n ν out).getD t (.tup []) = prow (ν t) (out.getD t []) := by
  unfold cellsP
  rw [List.getD_eq_getElem?_getD, List.getElem?_eq_getElem (by simpa using ht)]
  simp
/-- What lies in memory while the least paths are sought. -/
structure FMem (h' hp : Hp) (nx nx1 n : Nat) (mv : V) (out : List (List Pa)) (ν : Nat → Nat) : Prop where
  box : hp nx = some (.arr (.agg 2) [mv])
  tab : hp (nx + 1) = some (.arr .leaf (cellsP n ν out))
  row : ∀ k, k < n → out.getD k [] ≠ [] → hp (ν k) = some (.arr (.agg 2) ((out.getD k []).map Pa.v)) ∧ nx + 2 ≤ ν k ∧ ν k < nx1
  apart : ∀ j k, j < n → k < n → j ≠ k → out.getD j [] ≠ [] → out.getD k [] ≠ [] → ν j ≠ ν k
  dom : DomB hp nx1
  ge : nx + 2 ≤ nx1
  same : Hp.same nx h' hp
theorem FMem.box' {h' hp : Hp} {nx nx1 n : Nat} {mv : V} {out : List (List Pa)} {ν : Nat → Nat} (F : FMem h' hp nx nx1 n mv out ν) {x : Nat} (h1 : nx1 ≤ x) {nx2 : Nat} (h2 : x < nx2) (b : Blk) : FMem h' (hp.set x b) nx nx2 n mv out ν := by
  have hge := F.ge
  have hs : ∀ y, y < nx1 → (hp.set x b) y = hp y := fun y hy => by unfold Hp.set; rw [if_neg (by omega)]
  refine ⟨by rw [hs _ (by omega)]; exact F.box, by rw [hs _ (by omega)]; exact F.tab, fun k hk hne => ?_, F.apart, F.dom.set (by omega) (by omega) b, by omega, (by (try dsimp only); repeat (first | exact F.same | refine same_set ?_ (by omega) _ | refine same_del ?_ (by omega)))⟩
  obtain ⟨a, b', c⟩ := F.row k hk hne
  exact ⟨by rw [hs _ c]; exact a, b', by omega⟩
theorem FMem.again {h' hp : Hp} {nx nx1 n : Nat} {mv : V} {out : List (List Pa)} {ν : Nat → Nat} (F : FMem h' hp nx nx1 n mv out ν) {x : Nat} (hx : nx + 2 ≤ x) (hx1 : x < nx1) (hν : ∀ k, k < n → out.getD k [] ≠ [] → ν k ≠ x) (b : Blk) : FMem h' (hp.set x b) nx nx1 n mv out ν := by
  have hge := F.ge
  have hs : ∀ y, y ≠ x → (hp.set x b) y = hp y := fun y hy => by unfold Hp.set; rw [if_neg hy]
  refine ⟨by rw [hs _ (by omega)]; exact F.box, by rw [hs _ (by omega)]; exact F.tab, fun k hk hne => ?_, F.apart, F.dom.set2 hx1 b, by omega, (by (try dsimp only); repeat (first | exact F.same | refine same_set ?_ (by omega) _ | refine same_del ?_ (by omega)))⟩
  obtain ⟨a, b', c⟩ := F.row k hk hne
  exact ⟨by rw [hs _ (hν k hk hne)]; exact a, b', c⟩
theorem FMem.del {h' hp : Hp} {nx nx1 n : Nat} {mv : V} {out : List (List Pa)} {ν : Nat → Nat} (F : FMem h' hp nx nx1 n mv out ν) {id : Nat} (hid : hp id = some .tip) (hge : nx + 2 ≤ id) : FMem h' (hp.del id) nx nx1 n mv out ν := by
  have hs : ∀ y, hp y ≠ some .tip → (hp.del id) y = hp y := fun y hy => by unfold Hp.del; rw [if_neg (fun e => hy (by rw [e]; exact hid))]
  refine ⟨by rw [hs _ (by rw [F.box]; exact (fun e => by cases e))]; exact F.box, by rw [hs _ (by rw [F.tab]; exact (fun e => by cases e))]; exact F.tab, fun k hk hne => ?_, F.apart, F.dom.del, F.ge, (by (try dsimp only); repeat (first | exact F.same | refine same_set ?_ (by omega) _ | refine same_del ?_ (by omega)))⟩
  obtain ⟨a, b', c⟩ := F.row k hk hne
  exact ⟨by rw [hs _ (by rw [a]; exact (fun e => by cases e))]; exact a, b', c⟩
theorem FMem.up {h' hp : Hp} {nx nx1 nx2 n : Nat} {mv : V} {out : List (List Pa)} {ν : Nat → Nat} (F : FMem h' hp nx nx1 n mv out ν) (h : nx1 ≤ nx2) : FMem h' hp nx nx2 n mv out ν :=
  ⟨F.box, F.tab, fun k hk hne => ⟨(F.row k hk hne).1, (F.row k hk hne).2.1, Nat.lt_of_lt_of_le (F.row k hk hne).2.2 h⟩, F.apart, F.dom.up h, Nat.le_trans F.ge h, F.same⟩
/-- A row put anew, and its cell. -/
theorem FMem.put {h' hp : Hp} {nx nx1 nx2 n : Nat} {mv : V} {out : List (List Pa)} {ν : Nat → Nat} (F : FMem h' hp nx nx1 n mv out ν) (hlen : out.length = n) {t x : Nat} (ht : t < n) (L' : List Pa) (hL : L' ≠ []) (hx : nx1 ≤ x) (hx2 : x < nx2)
    {hq : Hp} (h1 : hq x = some (.arr (.agg 2) (L'.map Pa.v))) (h2 : hq (nx + 1) = some (.arr .leaf ((cellsP n ν out).set t (.rs x (.agg 2) 0 L'.length)))) (h3 : ∀ y, y ≠ x → y ≠ nx + 1 → (out.getD t [] ≠ [] → y ≠ ν t) → y < nx1 → hq y = hp y) (hd : DomB hq nx2) :
    FMem h' hq nx nx2 n mv (out.set t L') (fun k => if k = t then x else ν k) := by
  have hge := F.ge
  have hset : ∀ j, (out.set t L').getD j [] = if j = t then L' else out.getD j [] := fun j => getD_setL _ _ _ _ _ (by rw [hlen]; exact ht)
  refine ⟨?_, ?_, fun k hk hne => ?_, fun j k hj hk hjk hnj hnk => ?_, hd, by omega, fun y hy => ?_⟩
  · rw [h3 nx (by omega) (by omega) (fun hne e => by have := (F.row t ht hne).2.1; omega) (by omega)]; exact F.box
  · rw [h2]
    congr 2
    refine List.ext_getElem (by simp [cellsP]) fun i i1 i2 => ?_
    have hin : i < n := by simpa [cellsP] using i2
    rw [List.getElem_set]
    simp only [cellsP, List.getElem_map, List.getElem_range, hset]
    by_cases e : t = i
    · subst e
      simp only [if_true]
      unfold prow cellV
      cases L' with
      | nil => exact absurd rfl hL
      | cons => simp
    · have e' : ¬ i = t := fun h => e h.symm
      simp only [e, e', if_false]
  · rw [hset] at hne ⊢
    by_cases e : k = t
    · simp only [e, if_true]; exact ⟨h1, by omega, hx2⟩
    · simp only [e, if_false] at hne ⊢
      obtain ⟨a, b, c⟩ := F.row k hk hne
      exact ⟨by rw [h3 _ (by omega) (by omega) (fun hnt => F.apart k t hk ht e hne hnt) c]; exact a, b, by omega⟩
  · rw [hset] at hnj hnk
    by_cases e : j = t <;> by_cases e2 : k = t
    · omega
    · simp only [e, e2, if_true, if_false] at hnk ⊢
      have := (F.row k hk hnk).2.2; omega
    · simp only [e, e2, if_true, if_false] at hnj ⊢
      have := (F.row j hj hnj).2.2; omega
    · simp only [e, e2, if_false] at hnj hnk ⊢
      exact F.apart j k hj hk hjk hnj hnk
  · rw [h3 y (by omega) (by omega) (fun hne e => by have := (F.row t ht hne).2.1; omega) (by omega)]; exact F.same y hy
def coL (out : List (List Pa)) : Nat := (out.map co).sum
theorem coL_set {out : List (List Pa)} {t : Nat} {L' : List Pa} (ht : t < out.length) (hc : co L' + 1 ≤ co (out.getD t [])) : coL (out.set t L') + 1 ≤ coL out := by
  unfold coL
  induction out generalizing t with
  | nil => simp at ht
  | cons x out ih =>
    cases t with
    | zero =>
      simp at hc
      simp only [List.set_cons_zero, List.map_cons, List.sum_cons]
      omega
    | succ t =>
      have := ih (t := t) (by simpa using ht) (by simpa using hc)
      simp only [List.set_cons_succ, List.map_cons, List.sum_cons]
      omega
theorem coL_le (out : List (List Pa)) : coL out ≤ out.length * 2097154 := by
  unfold coL
  induction out with
  | nil => simp
  | cons x out ih =>
    have h1 := minA_cap x
    have h2 := minA_cap (x.filter fun p => p.n)
    simp only [List.map_cons, List.sum_cons, List.length_cons, co]
    omega
theorem can_len {l : List Pa} (h : Can l) : l.length ≤ 2 := by
  match l, h with
  | [], _ => simp
  | [a], _ => simp
  | [a, b], _ => simp
  | a :: b :: c :: l, h =>
    have h1 := (List.pairwise_cons.1 h).1 b (by simp)
    have h2 := (List.pairwise_cons.1 (List.pairwise_cons.1 h).2).1 c (by simp)
    rw [h1.2.1] at h2
    cases h2.1
end Go.Proofs.Ytmpmngakheoacaa
