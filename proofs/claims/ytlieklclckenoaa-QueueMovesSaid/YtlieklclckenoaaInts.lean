/-
corollarynum.Ints at two slices that read as the same list. Conditions: the list's length below 2^40.
-/
import Derived.Test.YtlieklclckenoaaMem
import Derived.Lib.Hide
import Derived.Deep.QuietTactic
import Derived.BigQuiet
namespace Go.Proofs.Ytlieklclckenoaa
open Go.RowKit Go.Shelf Go.Conc

theorem ints_same (v1 v2 : Value) (xs : List Int) (w : World) (h1 : Reads w 3 1 v1 xs.length (xs.map (Value.int .i64))) (h2 : Reads w 3 1 v2 xs.length (xs.map (Value.int .i64))) (hl : xs.length ≤ 1000000000000) :
    Calls Try.prog 25 #[v1, v2] w fun e w' => e = .returned (.bool true) ∧ ∃ n, w' = w.drewN n := by
  obtain ⟨a1, c1, rfl, -, -⟩ := h1.shape
  obtain ⟨a2, c2, rfl, -, -⟩ := h2.shape
  obtain ⟨n, hn⟩ : ∃ n, n = xs.length := ⟨_, rfl⟩
  rw [← hn] at h1 h2 ⊢
  have H1 := Lib.hid h1; clear h1
  have H2 := Lib.hid h2; clear h2
  have hn5 : n ≤ 1000000000000 := by omega
  have HN := Lib.hid hn; clear hn
  go_enter Try.func25, Try.ntmps25
  go_wp2
  go_loopw [13] (fun i wr => ∃ k : Nat, k ≤ n ∧ i = .int .i64 k ∧ ∃ m, wr = w.drewN m) (fun i _ => n - (intOf i).toNat)
  case atStart => exact ⟨0, Nat.zero_le _, rfl, 0, rfl⟩
  case round =>
    obtain ⟨k, hk, rfl, m, rfl⟩ := hrel
    by_cases hlt : k < n
    · have d0 : decide ((k : Int) < (n : Int)) = true := by simpa using hlt
      obtain ⟨g1, o1, rfl, hc1⟩ := H1.out.cells (by omega)
      obtain ⟨g2, o2, rfl, hc2⟩ := H2.out.cells (by omega)
      have hkx : k < xs.length := by rw [← HN.out]; exact hlt
      have e1 : (xs.map (Value.int .i64))[k]? = some (.int .i64 xs[k]) := by simp [hkx]
      have k1 := hc1 k _ e1
      have k2 := hc2 k _ e1
      generalize xs[k] = y at k1 k2
      clear hc1 hc2 e1 hkx
      go_wp2
      go_quiet (fail)
      go_wp2
      go_roundw
      case rel => exact ⟨k + 1, by omega, by go_num, m + nq, by simp [World.drewN]⟩
      case measure => simp [intOf]; omega
    · have d0 : decide ((k : Int) < (n : Int)) = false := by simpa using hlt
      go_wp2
      (try rw [Exit.noGoto_ret])
      go_ret
      exact ⟨rfl, m, rfl⟩
end Go.Proofs.Ytlieklclckenoaa
