/-
queue.Move at int: two different queues, or one of them nil, or the same pointer twice. Conditions: bounds of at most 4096.
-/
import Derived.Test.YtlieklclckenoaaQueueI
import Derived.Lib.Hide
namespace Go.Proofs.Ytlieklclckenoaa
open Go.RowKit Go.Shelf Go.Conc

theorem IsQ.drewN {T : TypeId} {w : World} {b c cap : Nat} {l : List Value} (h : IsQ T w b c cap l) (n : Nat) : IsQ T (w.drewN n) b c cap l := ⟨h.box, h.chan⟩

theorem infoQ : ∃ j, Try.prog.info? 74 = some j ∧ j.size ≠ 0 := by
  have h : (Try.prog.info? 74).map (·.size) = some 1 := by kernel_rfl
  obtain ⟨i, hi, hb⟩ := Option.map_eq_some_iff.1 h
  exact ⟨i, hi, by omega⟩

theorem move_same (a : Addr) (many : Int) (w : World) : Calls Try.prog 21 #[.pointer (some a), .pointer (some a), .int .i64 many] w fun e w' => e = .returned (.int .i64 0) ∧ w = w' := by
  obtain ⟨j, hj, hjs⟩ := infoQ
  have heq := run_eql_ptr_same (P := Try.prog) Try.underlying37 hj hjs a w
  go_enter Try.func21, Try.ntmps21
  go_wp2
  go_step3
  go_wp2
  rw [Exit.noGoto_ret]
  go_ret
  exact ⟨rfl, rfl⟩

theorem move_toNil (a : Addr) (many : Int) (hm : 0 < many) (w : World) : Calls Try.prog 21 #[.pointer (some a), .pointer none, .int .i64 many] w fun e w' => e = .returned (.int .i64 0) ∧ w = w' := by
  have h0 : decide (0 < many) = true := by simpa using hm
  go_enter Try.func21, Try.ntmps21
  go_wp2
  go_step3
  go_wp2
  go_step3
  go_wp2
  go_loopw [7] (fun n wr => n = .int .i64 0 ∧ wr = w) (fun _ _ => 0)
  case atStart => exact ⟨rfl, rfl⟩
  case round =>
    obtain ⟨rfl, rfl⟩ := hrel
    go_wp2_with (go_at_call 23; refine (roomI_nil _).mono ?_; rintro e w' ⟨rfl, rfl⟩)
    (try rw [Exit.noGoto_ret])
    go_ret
    exact ⟨rfl, rfl⟩

theorem move_fromNil (b c cap : Nat) (l : List Value) (many : Int) (hm : 0 < many) (w : World) (hq : IsQ 74 w b c cap l) (hcap : cap ≤ 4096) (hl : l.length < cap) :
    Calls Try.prog 21 #[.pointer none, .pointer (some ⟨b, 0, none⟩), .int .i64 many] w fun e w' => e = .returned (.int .i64 0) ∧ ∃ n, w' = w.drewN n := by
  have h0 : decide (0 < many) = true := by simpa using hm
  have h1 : decide ((0 : Int) < (cap : Int) - (l.length : Int)) = true := by simp; omega
  have heq := run_eql_ptr_nil (P := Try.prog) Try.underlying37 (some ⟨b, 0, none⟩) w
  go_enter Try.func21, Try.ntmps21
  go_wp2
  go_step3
  go_wp2
  go_step3
  go_wp2
  go_loopw [7] (fun n wr => n = .int .i64 0 ∧ wr = w) (fun _ _ => 0)
  case atStart => exact ⟨rfl, rfl⟩
  case round =>
    obtain ⟨rfl, rfl⟩ := hrel
    go_wp2_with (first
      | (go_at_call 23; (with_reducible refine (roomI_q b c cap l wr hq hcap (by omega)).mono ?_); rintro e w' ⟨rfl, nq, rfl⟩)
      | (go_at_call 19; refine (takeI_nil _).mono ?_; rintro e w' ⟨rfl, rfl⟩))
    rw [Exit.noGoto_ret]
    go_ret
    exact ⟨rfl, _, rfl⟩

/-- Two different queues. -/
theorem move_two (b1 c1 cap1 b2 c2 cap2 : Nat) (l1 l2 : List Value) (many : Int) (w : World) (hq1 : IsQ 74 w b1 c1 cap1 l1) (hq2 : IsQ 74 w b2 c2 cap2 l2)
    (hcap1 : cap1 ≤ 4096) (hcap2 : cap2 ≤ 4096) (hl1 : l1.length ≤ cap1) (hl2 : l2.length ≤ cap2) (hb : b1 ≠ b2) (hc : c1 ≠ c2) (hbc : b1 ≠ c2) (hcb : c1 ≠ b2) :
    Calls Try.prog 21 #[.pointer (some ⟨b1, 0, none⟩), .pointer (some ⟨b2, 0, none⟩), .int .i64 many] w fun e w' => ∃ k : Nat, e = .returned (.int .i64 k) ∧
      k = min (min l1.length (cap2 - l2.length)) many.toNat ∧ IsQ 74 w' b1 c1 cap1 (l1.drop k) ∧ IsQ 74 w' b2 c2 cap2 (l2 ++ l1.take k) ∧ Only (fun x => x = c1 ∨ x = c2) w w' := by
  obtain ⟨j, hj, hjs⟩ := infoQ
  have heq := run_eql_ptr_other (P := Try.prog) Try.underlying37 hj hjs (a := ⟨b1, 0, none⟩) (b := ⟨b2, 0, none⟩) w (by simp [hb]) hq1.box hq2.box
  have HB := Lib.hid hb; clear hb
  have HC := Lib.hid hc; clear hc
  have HBC := Lib.hid hbc; clear hbc
  have HCB := Lib.hid hcb; clear hcb
  go_enter Try.func21, Try.ntmps21
  go_wp2
  go_step3
  go_wp2
  go_step3
  go_wp2
  go_loopw [7] (fun n wr => ∃ k : Nat, n = .int .i64 k ∧ k ≤ l1.length ∧ l2.length + k ≤ cap2 ∧ k ≤ many.toNat ∧ IsQ 74 wr b1 c1 cap1 (l1.drop k) ∧ IsQ 74 wr b2 c2 cap2 (l2 ++ l1.take k) ∧ Only (fun x => x = c1 ∨ x = c2) w wr)
    (fun n _ => l1.length - (intOf n).toNat)
  case atStart => exact ⟨0, rfl, by omega, by omega, by omega, by simpa using hq1, by simpa using hq2, Only.refl _ _⟩
  case round =>
    clear heq hq1 hq2
    obtain ⟨k, rfl, hk1, hk2, hk3, hr1, hr2, ho⟩ := hrel
    by_cases h1 : (k : Int) < many
    · have d1 : decide ((k : Int) < many) = true := by simpa using h1
      have hlen : (l2 ++ l1.take k).length = l2.length + k := by simp; omega
      have HLEN := Lib.hid hlen; clear hlen
      by_cases h2 : l2.length + k < cap2
      · have d2 : decide ((0 : Int) < (cap2 : Int) - ((l2.length : Int) + k)) = true := by simp; omega
        by_cases h3 : k < l1.length
        · obtain ⟨x, hx⟩ : ∃ x, l1.drop k = x :: l1.drop (k + 1) := ⟨l1[k], by rw [List.drop_eq_getElem_cons h3]⟩
          have hx2 : l1.take (k + 1) = l1.take k ++ [x] := by
            rw [List.take_succ_eq_append_getElem h3]
            have := congrArg (fun l => l[0]?) hx
            simp [h3] at this
            rw [this]
          rw [hx] at hr1
          have HX2 := Lib.hid hx2; clear hx2
          have HX := Lib.hid hx; clear hx
          go_wp2_with (first
            | (go_at_call 23; (with_reducible refine (roomI_q b2 c2 cap2 _ wr hr2 hcap2 (by rw [HLEN.out]; omega)).mono ?_); rintro e w' ⟨rfl, nq, rfl⟩; rw [HLEN.out]; simp only [Int.natCast_add])
            | (go_at_call 19; (with_reducible refine (takeI_q b1 c1 cap1 x (l1.drop (k + 1)) _ (hr1.drewN nq)).mono ?_); rintro e w3 ⟨rfl, hr3, ho3, -⟩)
            | (go_at_call 17; (with_reducible refine (putI_q b2 c2 cap2 _ x w3 ((hr2.drewN nq).kept ho3 (Ne.symm HCB.out) (Ne.symm HC.out)) (by rw [HLEN.out]; exact h2)).mono ?_); rintro e w4 ⟨rfl, hr4, ho4, -⟩))
          have R1 := hr3.kept ho4 HBC.out HC.out
          rw [List.append_assoc, ← HX2.out] at hr4
          have R3 := (ho.drewN nq).trans ((ho3.mono (fun _ _ h => .inl h)).trans (ho4.mono (fun _ _ h => .inr h)))
          go_roundw
          case rel => exact ⟨k + 1, by go_num, by omega, by omega, by omega, R1, hr4, R3⟩
          case measure => simp [intOf]; omega
        · have hx : l1.drop k = [] := by simp; omega
          rw [hx] at hr1
          have HX := Lib.hid hx; clear hx
          go_wp2_with (first
            | (go_at_call 23; (with_reducible refine (roomI_q b2 c2 cap2 _ wr hr2 hcap2 (by rw [HLEN.out]; omega)).mono ?_); rintro e w' ⟨rfl, nq, rfl⟩; rw [HLEN.out]; simp only [Int.natCast_add])
            | (go_at_call 19; (with_reducible refine (takeI_qempty b1 c1 cap1 _ (hr1.drewN nq)).mono ?_); rintro e w3 ⟨rfl, rfl⟩))
          rw [Exit.noGoto_ret]
          go_ret
          exact ⟨k, rfl, by omega, by rw [HX.out]; exact hr1.drewN _, hr2.drewN _, ho.drewN _⟩
      · have d2 : decide ((0 : Int) < (cap2 : Int) - ((l2.length : Int) + k)) = false := by simp; omega
        go_wp2_with (go_at_call 23; (with_reducible refine (roomI_q b2 c2 cap2 _ wr hr2 hcap2 (by rw [HLEN.out]; omega)).mono ?_); rintro e w' ⟨rfl, nq, rfl⟩; rw [HLEN.out]; simp only [Int.natCast_add])
        rw [Exit.noGoto_ret]
        go_ret
        exact ⟨k, rfl, by omega, hr1.drewN _, hr2.drewN _, ho.drewN _⟩
    · have d1 : decide ((k : Int) < many) = false := by simpa using h1
      go_wp2
      try rw [Exit.noGoto_ret]
      go_ret
      exact ⟨k, rfl, by omega, hr1, hr2, ho⟩
end Go.Proofs.Ytlieklclckenoaa
