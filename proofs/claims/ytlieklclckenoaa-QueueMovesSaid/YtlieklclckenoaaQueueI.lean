/-
The queue's methods, at one element type each: what each does to the queue in memory. Conditions: the receiver is nil, or a pointer to a queue that New made.
-/
import Derived.Test.YtlieklclckenoaaOnly
namespace Go.Proofs.Ytlieklclckenoaa
open Go.RowKit Go.Shelf Go.Conc
attribute [local go_sem] Oper.semAt_some wide_fn wide_depth

set_option maxRecDepth 100000 in
theorem putI_room (b c cap s r : Nat) (buf : Array Value) (x : Value) (w : World)
    (hb : w.cell? ⟨b, 0, none⟩ = some (.chan (some c))) (hc : w.heap[c]? = some (.chan cap buf false s r false)) (hroom : buf.size < cap) :
    Calls Try.prog 17 #[.pointer (some ⟨b, 0, none⟩), x] w fun e w' => e = .returned .nilIface ∧ w' = w.setChan c cap (buf.push x) false (s + 1) r false := by
  refine calls_of_loneTo fun cs => ?_
  have e : Frame.enter Try.prog 17 #[.pointer (some ⟨b, 0, none⟩), x] .normal = (base 17).at ⟨#[.pointer (some ⟨b, 0, none⟩), x, undef, undef, undef, undef, undef, undef, undef, undef, undef, undef, undef, undef, undef, undef, undef], []⟩ [.code (Try.f17.body.getD .skip)] := by
    simp [Frame.enter, Frame.at, Try.func17, base, Try.f17]
  rw [e]
  refine LoneTo.goes (n := 30) ?_
  simp only [Try.f17, Option.getD_some]
  s_c stepG_seq
  s_reg
  s_op
  s_c stepG_region_end
  s_c stepG_seq
  s_c stepG_seq
  s_reg
  s_op
  s_op
  s_c stepG_region_end
  s_cond false
  s_c stepG_skip
  s_c stepG_seq
  s_c stepG_seq
  s_reg
  s_op
  s_op
  s_op
  s_op
  s_c stepG_region_end
  s_reg
  s_op
  s_c stepG_region_end
  s_c stepG_seq
  s_reg
  s_stop
  refine LoneTo.step (step_lone_select_send_room (c := c) (v := x) (z' := .int .i64 0) (cap := cap) (buf := buf) (s := s) (r := r) (tm := false)
    (stepG_comm (cases := #[scase c x (.int .i64 0)]) (blocking := false) (shape := .select) (w' := w) rfl rfl (by decide) (by simp [go_sem, execOp, scase, Act.eval]))
    hc hroom) ?_
  rw [Frame.finish_at]
  walk_nrm
  refine LoneTo.goes (n := 30) ?_
  s_op
  s_op
  s_c stepG_region_end
  s_c stepG_block
  s_cond true
  s_c stepG_seq
  s_reg
  s_op
  s_c stepG_region_end
  s_c stepG_ret'
  s_stop
  refine LoneTo.done ⟨_, _, rfl, ⟨rfl, rfl⟩, rfl, rfl, rfl, rfl, _, Try.func17, by simp [results, Try.f17, Frame.at]⟩

set_option maxRecDepth 100000 in
theorem putI_full (b c cap s r : Nat) (buf : Array Value) (x : Value) (w : World)
    (hb : w.cell? ⟨b, 0, none⟩ = some (.chan (some c))) (hc : w.heap[c]? = some (.chan cap buf false s r false)) (hroom : cap ≤ buf.size) :
    Calls Try.prog 17 #[.pointer (some ⟨b, 0, none⟩), x] w fun e w' => e = .returned (.iface 41 (.int .i64 11)) ∧ w' = w := by
  refine calls_of_loneTo fun cs => ?_
  have e : Frame.enter Try.prog 17 #[.pointer (some ⟨b, 0, none⟩), x] .normal = (base 17).at ⟨#[.pointer (some ⟨b, 0, none⟩), x, undef, undef, undef, undef, undef, undef, undef, undef, undef, undef, undef, undef, undef, undef, undef], []⟩ [.code (Try.f17.body.getD .skip)] := by
    simp [Frame.enter, Frame.at, Try.func17, base, Try.f17]
  rw [e]
  refine LoneTo.goes (n := 30) ?_
  simp only [Try.f17, Option.getD_some]
  s_c stepG_seq
  s_reg
  s_op
  s_c stepG_region_end
  s_c stepG_seq
  s_c stepG_seq
  s_reg
  s_op
  s_op
  s_c stepG_region_end
  s_cond false
  s_c stepG_skip
  s_c stepG_seq
  s_c stepG_seq
  s_reg
  s_op
  s_op
  s_op
  s_op
  s_c stepG_region_end
  s_reg
  s_op
  s_c stepG_region_end
  s_c stepG_seq
  s_reg
  s_stop
  refine LoneTo.step (step_lone_select_send_full (c := c) (v := x) (z' := .int .i64 0) (cap := cap) (buf := buf) (s := s) (r := r) (tm := false)
    (stepG_comm (cases := #[scase c x (.int .i64 0)]) (blocking := false) (shape := .select) (w' := w) rfl rfl (by decide) (by simp [go_sem, execOp, scase, Act.eval]))
    hc hroom) ?_
  rw [Frame.finish_at]
  walk_nrm
  refine LoneTo.goes (n := 30) ?_
  s_op
  s_op
  s_c stepG_region_end
  s_c stepG_block
  s_cond false
  s_c stepG_seq
  s_reg
  s_op
  s_op
  s_c stepG_region_end
  s_c stepG_ret'
  s_stop
  refine LoneTo.done ⟨_, _, rfl, ⟨rfl, rfl⟩, rfl, rfl, rfl, rfl, _, Try.func17, by simp [results, Try.f17, Frame.at]⟩

set_option maxRecDepth 100000 in
theorem takeI_some (b c cap s r : Nat) (buf : Array Value) (w : World)
    (hb : w.cell? ⟨b, 0, none⟩ = some (.chan (some c))) (hc : w.heap[c]? = some (.chan cap buf false s r false)) (hsome : 0 < buf.size) :
    Calls Try.prog 19 #[.pointer (some ⟨b, 0, none⟩)] w fun e w' => e = .returned (.tuple #[buf.getD 0 undef, .nilIface]) ∧ w' = w.setChan c cap (buf.extract 1 buf.size) false s (r + 1) false := by
  refine calls_of_loneTo fun cs => ?_
  have e : Frame.enter Try.prog 19 #[.pointer (some ⟨b, 0, none⟩)] .normal = (base 19).at ⟨#[.pointer (some ⟨b, 0, none⟩), undef, undef, undef, undef, undef, undef, undef, undef, undef, undef, undef, undef, undef, undef, undef, undef, undef, undef, undef, undef], []⟩ [.code (Try.f19.body.getD .skip)] := by
    simp [Frame.enter, Frame.at, Try.func19, base, Try.f19]
  rw [e]
  refine LoneTo.goes (n := 30) ?_
  simp only [Try.f19, Option.getD_some]
  s_c stepG_seq
  s_reg
  s_op
  s_op
  s_c stepG_region_end
  s_c stepG_seq
  s_reg
  s_op
  s_c stepG_region_end
  s_c stepG_seq
  s_c stepG_seq
  s_reg
  s_op
  s_op
  s_c stepG_region_end
  s_cond false
  s_c stepG_skip
  s_c stepG_seq
  s_reg
  s_op
  s_op
  s_op
  s_op
  s_c stepG_region_end
  s_c stepG_seq
  s_reg
  s_stop
  refine LoneTo.step (step_lone_select_recv_buf (c := c) (z := .int .i64 0) (cap := cap) (buf := buf) (closed := false) (s := s) (r := r) (tm := false)
    (stepG_comm (cases := #[rcase c (.int .i64 0)]) (blocking := false) (shape := .select) (w' := w) rfl rfl (by decide) (by simp [go_sem, execOp, rcase, Act.eval]))
    hc hsome) ?_
  rw [Frame.finish_at]
  walk_nrm
  refine LoneTo.goes (n := 30) ?_
  s_op
  s_op
  s_c stepG_region_end
  s_c stepG_block
  s_cond true
  s_c stepG_seq
  s_reg
  s_op
  s_op
  s_c stepG_region_end
  s_c stepG_seq
  s_reg
  s_op
  s_op
  s_op
  s_c stepG_region_end
  s_c stepG_ret'
  s_stop
  refine LoneTo.done ⟨_, _, rfl, ⟨rfl, rfl⟩, rfl, rfl, rfl, rfl, _, Try.func19, by simp [results, Try.f19, Frame.at, hsome]⟩

set_option maxRecDepth 100000 in
theorem takeI_empty (b c cap s r : Nat) (w : World)
    (hb : w.cell? ⟨b, 0, none⟩ = some (.chan (some c))) (hc : w.heap[c]? = some (.chan cap #[] false s r false))  :
    Calls Try.prog 19 #[.pointer (some ⟨b, 0, none⟩)] w fun e w' => e = .returned (.tuple #[.int .i64 0, .iface 41 (.int .i64 13)]) ∧ w' = w := by
  refine calls_of_loneTo fun cs => ?_
  have e : Frame.enter Try.prog 19 #[.pointer (some ⟨b, 0, none⟩)] .normal = (base 19).at ⟨#[.pointer (some ⟨b, 0, none⟩), undef, undef, undef, undef, undef, undef, undef, undef, undef, undef, undef, undef, undef, undef, undef, undef, undef, undef, undef, undef], []⟩ [.code (Try.f19.body.getD .skip)] := by
    simp [Frame.enter, Frame.at, Try.func19, base, Try.f19]
  rw [e]
  refine LoneTo.goes (n := 30) ?_
  simp only [Try.f19, Option.getD_some]
  s_c stepG_seq
  s_reg
  s_op
  s_op
  s_c stepG_region_end
  s_c stepG_seq
  s_reg
  s_op
  s_c stepG_region_end
  s_c stepG_seq
  s_c stepG_seq
  s_reg
  s_op
  s_op
  s_c stepG_region_end
  s_cond false
  s_c stepG_skip
  s_c stepG_seq
  s_reg
  s_op
  s_op
  s_op
  s_op
  s_c stepG_region_end
  s_c stepG_seq
  s_reg
  s_stop
  refine LoneTo.step (step_lone_select_default (c := c) (z := .int .i64 0) (cap := cap) (s := s) (r := r) (tm := false)
    (stepG_comm (cases := #[rcase c (.int .i64 0)]) (blocking := false) (shape := .select) (w' := w) rfl rfl (by decide) (by simp [go_sem, execOp, rcase, Act.eval]))
    hc) ?_
  rw [Frame.finish_at]
  walk_nrm
  refine LoneTo.goes (n := 30) ?_
  s_op
  s_op
  s_c stepG_region_end
  s_c stepG_block
  s_cond false
  s_c stepG_seq
  s_reg
  s_op
  s_op
  s_op
  s_op
  s_c stepG_region_end
  s_c stepG_ret'
  s_stop
  refine LoneTo.done ⟨_, _, rfl, ⟨rfl, rfl⟩, rfl, rfl, rfl, rfl, _, Try.func19, by simp [results, Try.f19, Frame.at]⟩

theorem newI_ok (n : Nat) (h1 : 1 ≤ n) (h2 : n ≤ 4096) (w : World) : Calls Try.prog 13 #[.int .i64 n] w fun e w' => e = .returned (.tuple #[.pointer (some ⟨w.heap.size + 1, 0, none⟩), .nilIface]) ∧ w' = (w.alloc (.chan n #[] false 0 0 false)).alloc (.cells #[.chan (some w.heap.size)] 74) := by
  have h3 : decide ((n : Int) < 1) = false := by simp; omega
  have h4 : decide (4096 < (n : Int)) = false := by simp; omega
  obtain ⟨i, hi, hb⟩ : ∃ i, Try.prog.info? 3 = some i ∧ i.bytes = 8 := by
    have h : (Try.prog.info? 3).map (·.bytes) = some 8 := by kernel_rfl
    obtain ⟨i, hi, hb⟩ := Option.map_eq_some_iff.1 h
    exact ⟨i, hi, hb⟩
  have hmc := fun w => run_makeChan (P := Try.prog) (w := w) Try.underlying72 hi .i64 n (by omega) (by rw [hb]; omega)
  go_enter Try.func13, Try.ntmps13
  go_wp2
  go_ret2
  exact ⟨rfl, rfl⟩
theorem lenI_some (b c cap s r : Nat) (buf : Array Value) (w : World)
    (hb : w.cell? ⟨b, 0, none⟩ = some (.chan (some c))) (hc : w.heap[c]? = some (.chan cap buf false s r false)) :
    Calls Try.prog 22 #[.pointer (some ⟨b, 0, none⟩)] w fun e w' => e = .returned (.int .i64 buf.size) ∧ w' = w := by
  have hlen := fun ty => run_len_chan (P := Try.prog) 72 ty Try.underlying72 hc
  go_enter Try.func22, Try.ntmps22
  go_wp2
  go_ret
  exact ⟨rfl, rfl⟩
theorem lenI_nil (w : World) :
    Calls Try.prog 22 #[.pointer none] w fun e w' => e = .returned (.int .i64 0) ∧ w = w' := by
  go_enter Try.func22, Try.ntmps22
  go_wp2
  go_ret
  exact ⟨rfl, rfl⟩
theorem roomI_some (b c cap s r : Nat) (buf : Array Value) (w : World)
    (hb : w.cell? ⟨b, 0, none⟩ = some (.chan (some c))) (hc : w.heap[c]? = some (.chan cap buf false s r false))
    (hcap : cap ≤ 4096) (hbuf : buf.size ≤ cap) :
    Calls Try.prog 23 #[.pointer (some ⟨b, 0, none⟩)] w fun e w' => e = .returned (.int .i64 (cap - buf.size)) ∧ ∃ n, w' = w.drewN n := by
  have hlen := fun n ty => run_len_chan (P := Try.prog) (w := w.drewN n) 72 ty Try.underlying72 hc
  have hcap := fun n ty => run_cap_chan (P := Try.prog) (w := w.drewN n) 72 ty Try.underlying72 hc
  go_enter Try.func23, Try.ntmps23
  go_wp2
  go_quiet (fail)
  go_wp2
  go_ret
  exact ⟨rfl, ⟨_, rfl⟩⟩
theorem takeI_cons (b c cap s r : Nat) (x : Value) (l : List Value) (w : World)
    (hb : w.cell? ⟨b, 0, none⟩ = some (.chan (some c))) (hc : w.heap[c]? = some (.chan cap (x :: l).toArray false s r false)) :
    Calls Try.prog 19 #[.pointer (some ⟨b, 0, none⟩)] w fun e w' => e = .returned (.tuple #[x, .nilIface]) ∧ w' = w.setChan c cap l.toArray false s (r + 1) false := by
  refine (takeI_some b c cap s r _ w hb hc (by simp)).mono ?_
  rintro e w' ⟨rfl, rfl⟩
  simp

set_option maxRecDepth 100000 in
theorem drainI_loop (n l bq b c cap : Nat) (St Stop : List Value → World → Prop)
    (hst : ∀ rest W, St rest W → W.cell? ⟨bq, 0, none⟩ = some (.pointer (some ⟨b, 0, none⟩)) ∧ W.cell? ⟨b, 0, none⟩ = some (.chan (some c)) ∧ ∃ s r, W.heap[c]? = some (.chan cap rest.toArray false s r false))
    (hround : ∀ x rest W s r, St (x :: rest) W → W.heap[c]? = some (.chan cap (x :: rest).toArray false s r false) →
      YieldAt Fence.wide (n - 1) Try.prog l #[x] (W.setChan c cap rest.toArray false s (r + 1) false) fun e W' =>
        (e = .returned (.bool true) ∧ St rest W') ∨ (e = .returned (.bool false) ∧ Stop rest W'))
    (xs : List Value) (w : World) (h0 : St xs w) :
    CallsIn Fence.wide n Try.prog 28 #[.func (.yield l) #[] #[], .pointer (some ⟨bq, 0, none⟩)] w fun e W' => (∃ v, e = .returned v) ∧ (St [] W' ∨ ∃ rest, Stop rest W') := by
  refine callsIn_of_wp Try.func28 rfl trivial ?_ rfl
  simp only [Try.ntmps28, List.size_toArray, List.length_cons, List.length_nil, Nat.reduceAdd, Nat.reduceSub, Array.replicate_succ, Array.replicate_zero, List.push_toArray, List.append_toArray, List.nil_append, List.cons_append]
  gi_wp2
  gi_loopw [3] (fun _ wr => ∃ rest, St rest wr) (fun _ wr => chanLeft wr c)
  case atStart => exact ⟨xs, h0⟩
  case round =>
    obtain ⟨rest, hS⟩ := hrel
    obtain ⟨hq, hb, s, r, hc⟩ := hst rest wr hS
    cases rest with
    | nil =>
      gi_wp2_with (gi_at_call 19; refine (callsIn_wide.2 (takeI_empty b c cap s r wr hb hc)).mono ?_; rintro e w' ⟨rfl, rfl⟩)
      refine bodyPost_ret (results_none rfl _ _ _) rfl ?_
      exact ⟨⟨_, rfl⟩, .inl hS⟩
    | cons x rest =>
      obtain ⟨fn, tmps, assign, body, hy, hR⟩ := hround x rest wr s r hS hc
      gi_wp2_with (first | (gi_at_call 19; refine (callsIn_wide.2 (takeI_cons b c cap s r x rest wr hb hc)).mono ?_; rintro e w' ⟨rfl, rfl⟩))
      refine hR.mono ?_
      rintro e W3 (⟨rfl, hS3⟩ | ⟨rfl, hS3⟩)
      · obtain ⟨-, -, s3, r3, hc3⟩ := hst _ _ hS3
        gi_wp2
        go_roundw
        case rel => exact ⟨_, hS3⟩
        case measure => rw [chanLeft_eq hc3, chanLeft_eq hc]; simp
      · gi_wp2
        refine bodyPost_ret (results_none rfl _ _ _) rfl ?_
        exact ⟨⟨_, rfl⟩, .inr ⟨_, hS3⟩⟩
theorem newI_q (k : Int) (n : Nat) (hk : k = n) (h1 : 1 ≤ n) (h2 : n ≤ 4096) (w : World) : Calls Try.prog 13 #[.int .i64 k] w fun e w' => e = .returned (.tuple #[.pointer (some ⟨w.heap.size + 1, 0, none⟩), .nilIface]) ∧
    IsQ 74 w' (w.heap.size + 1) w.heap.size n [] ∧ Below w.heap.size w w' ∧ w'.heap.size = w.heap.size + 2 := by
  subst hk
  refine (newI_ok n h1 h2 w).mono ?_
  rintro e w' ⟨rfl, rfl⟩
  have hx := Boxed.new (w.alloc (.chan n #[] false 0 0 false)) 74 (.chan (some w.heap.size))
  simp only [World.size_alloc] at hx
  refine ⟨rfl, ⟨hx, ⟨0, 0, ?_⟩⟩, ((Below.refl _ w).alloc (Nat.le_refl _) _).alloc (by simp) _, by simp⟩
  rw [Below.heap_alloc _ _ _ (by simp)]; exact heap_alloc_new w _

theorem putI_q (b c cap : Nat) (l : List Value) (x : Value) (w : World) (h : IsQ 74 w b c cap l) (hr : l.length < cap) :
    Calls Try.prog 17 #[.pointer (some ⟨b, 0, none⟩), x] w fun e w' => e = .returned .nilIface ∧ IsQ 74 w' b c cap (l ++ [x]) ∧ Only (· = c) w w' ∧ w'.heap.size = w.heap.size := by
  obtain ⟨s, r, hc⟩ := h.chan
  refine (putI_room b c cap s r l.toArray x w h.ptr hc (by simpa using hr)).mono ?_
  rintro e w' ⟨rfl, rfl⟩
  refine ⟨rfl, ?_, (Only.refl _ w).setChan (c := c) (.inr (by rfl)) _ _ _ _ _ _, size_setChan _ _ _ _ _ _ _ _⟩
  rw [List.push_toArray]; exact h.set _ _ _
theorem putI_qfull (b c cap : Nat) (l : List Value) (x : Value) (w : World) (h : IsQ 74 w b c cap l) (hr : cap ≤ l.length) :
    Calls Try.prog 17 #[.pointer (some ⟨b, 0, none⟩), x] w fun e w' => e = .returned (.iface 41 (.int .i64 11)) ∧ w = w' := by
  obtain ⟨s, r, hc⟩ := h.chan
  refine (putI_full b c cap s r l.toArray x w h.ptr hc (by simpa using hr)).mono ?_
  rintro e w' ⟨rfl, rfl⟩
  exact ⟨rfl, rfl⟩
theorem lenI_q (b c cap : Nat) (l : List Value) (w : World) (h : IsQ 74 w b c cap l) :
    Calls Try.prog 22 #[.pointer (some ⟨b, 0, none⟩)] w fun e w' => e = .returned (.int .i64 l.length) ∧ w = w' := by
  obtain ⟨s, r, hc⟩ := h.chan
  refine (lenI_some b c cap s r l.toArray w h.ptr hc).mono ?_
  rintro e w' ⟨rfl, rfl⟩
  exact ⟨by simp, rfl⟩
theorem roomI_q (b c cap : Nat) (l : List Value) (w : World) (h : IsQ 74 w b c cap l) (hcap : cap ≤ 4096) (hl : l.length ≤ cap) :
    Calls Try.prog 23 #[.pointer (some ⟨b, 0, none⟩)] w fun e w' => e = .returned (.int .i64 (cap - l.length)) ∧ ∃ n, w' = w.drewN n := by
  obtain ⟨s, r, hc⟩ := h.chan
  refine (roomI_some b c cap s r l.toArray w h.ptr hc hcap (by simpa using hl)).mono ?_
  rintro e w' ⟨rfl, h⟩
  exact ⟨by simp, h⟩
theorem putI_nil (x : Value) (w : World) :
    Calls Try.prog 17 #[.pointer none, x] w fun e w' => e = .returned (.iface 41 (.int .i64 13)) ∧ w = w' := by
  go_enter Try.func17, Try.ntmps17
  go_wp2
  go_ret
  exact ⟨rfl, rfl⟩
theorem takeI_nil (w : World) :
    Calls Try.prog 19 #[.pointer none] w fun e w' => e = .returned (.tuple #[.int .i64 0, .iface 41 (.int .i64 13)]) ∧ w = w' := by
  go_enter Try.func19, Try.ntmps19
  go_wp2
  go_ret2
  exact ⟨rfl, rfl⟩
theorem roomI_nil (w : World) :
    Calls Try.prog 23 #[.pointer none] w fun e w' => e = .returned (.int .i64 0) ∧ w = w' := by
  go_enter Try.func23, Try.ntmps23
  go_wp2
  go_ret
  exact ⟨rfl, rfl⟩
theorem newI_bad (n : Int) (h : n < 1 ∨ 4096 < n) (w : World) : Calls Try.prog 13 #[.int .i64 n] w fun e w' => e = .returned (.tuple #[.pointer none, .iface 41 (.int .i64 1)]) ∧ w = w' := by
  by_cases h1 : n < 1
  · have h3 : decide ((n : Int) < 1) = true := by simpa using h1
    go_enter Try.func13, Try.ntmps13
    go_wp2
    go_ret2
    exact ⟨rfl, rfl⟩
  · have h3 : decide ((n : Int) < 1) = false := by simpa using h1
    have h4 : decide (4096 < (n : Int)) = true := by simp; omega
    go_enter Try.func13, Try.ntmps13
    go_wp2
    go_ret2
    exact ⟨rfl, rfl⟩
theorem drainI_nil (n l bq : Nat) (w : World) (hq : w.cell? ⟨bq, 0, none⟩ = some (.pointer none)) :
    CallsIn Fence.wide n Try.prog 28 #[.func (.yield l) #[] #[], .pointer (some ⟨bq, 0, none⟩)] w fun e W' => (∃ v, e = .returned v) ∧ w = W' := by
  refine callsIn_of_wp Try.func28 rfl trivial ?_ rfl
  simp only [Try.ntmps28, List.size_toArray, List.length_cons, List.length_nil, Nat.reduceAdd, Nat.reduceSub, Array.replicate_succ, Array.replicate_zero, List.push_toArray, List.append_toArray, List.nil_append, List.cons_append]
  gi_wp2
  gi_loopw [3] (fun _ wr => wr = w) (fun _ _ => 0)
  case atStart => rfl
  case round =>
    obtain rfl := hrel
    gi_wp2_with (first | (gi_at_call 19; refine (callsIn_wide.2 (takeI_nil wr)).mono ?_; rintro e w' ⟨rfl, rfl⟩))
    refine bodyPost_ret (results_none rfl _ _ _) rfl ?_
    exact ⟨⟨_, rfl⟩, rfl⟩
theorem drainI_make (q : Option Addr) (w : World) : Calls Try.prog 24 #[.pointer q] w fun e w' => e = .returned (.func (.func 28) #[] #[.pointer (some ⟨w.heap.size, 0, none⟩)]) ∧ w' = w.alloc (.cells #[.pointer q] 37) := by
  go_enter Try.func24, Try.ntmps24
  go_wp2
  go_ret
  exact ⟨rfl, rfl⟩
theorem takeI_q (b c cap : Nat) (x : Value) (l : List Value) (w : World) (h : IsQ 74 w b c cap (x :: l)) :
    Calls Try.prog 19 #[.pointer (some ⟨b, 0, none⟩)] w fun e w' => e = .returned (.tuple #[x, .nilIface]) ∧ IsQ 74 w' b c cap l ∧ Only (· = c) w w' ∧ w'.heap.size = w.heap.size := by
  obtain ⟨s, r, hc⟩ := h.chan
  refine (takeI_cons b c cap s r x l w h.ptr hc).mono ?_
  rintro e w' ⟨rfl, rfl⟩
  exact ⟨rfl, h.set _ _ _, (Only.refl _ w).setChan (c := c) (.inr (by rfl)) _ _ _ _ _ _, size_setChan _ _ _ _ _ _ _ _⟩
theorem takeI_qempty (b c cap : Nat) (w : World) (h : IsQ 74 w b c cap []) :
    Calls Try.prog 19 #[.pointer (some ⟨b, 0, none⟩)] w fun e w' => e = .returned (.tuple #[.int .i64 0, .iface 41 (.int .i64 13)]) ∧ w = w' := by
  obtain ⟨s, r, hc⟩ := h.chan
  refine (takeI_empty b c cap s r w h.ptr hc).mono ?_
  rintro e w' ⟨rfl, rfl⟩
  exact ⟨rfl, rfl⟩
end Go.Proofs.Ytlieklclckenoaa
