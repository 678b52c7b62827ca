/-
corollarynum.Num and .Is: an error's number. Conditions: the error is nil, or an api.Errno that is not zero.
-/
import Derived.Test.YtlieklclckenoaaOnly
namespace Go.Proofs.Ytlieklclckenoaa
open Go.RowKit

theorem num_nil (w : World) : Calls Try.prog 16 #[.nilIface] w fun e w' => e = .returned (.int .i64 0) ∧ w = w' := by
  go_enter Try.func16, Try.ntmps16
  go_wp2
  go_ret
  exact ⟨rfl, rfl⟩

theorem num_err (n : Int) (hn : (n != 0) = true) (w : World) : Calls Try.prog 16 #[.iface 41 (.int .i64 n)] w fun e w' => e = .returned (.int .i64 n) ∧ w = w' := by
  have hta := fun (w : World) => run_assert_int (P := Try.prog) (t := 41) (tx := 27) (k := .i64) (k' := .i64) n (by kernel_rfl) w
  go_enter Try.func16, Try.ntmps16
  go_wp2
  go_ret
  exact ⟨rfl, rfl⟩
theorem is_nil (m : Int) (w : World) : Calls Try.prog 14 #[.nilIface, .int .i64 m] w fun e w' => e = .returned (.bool ((0 : Int) == m)) ∧ w = w' := by
  go_enter Try.func14, Try.ntmps14
  go_wp2_with (go_at_call 16; refine (num_nil _).mono ?_; rintro e w' ⟨rfl, rfl⟩)
  go_ret
  exact ⟨rfl, rfl⟩
theorem is_err (n : Int) (hn : (n != 0) = true) (m : Int) (w : World) : Calls Try.prog 14 #[.iface 41 (.int .i64 n), .int .i64 m] w fun e w' => e = .returned (.bool (n == m)) ∧ w = w' := by
  go_enter Try.func14, Try.ntmps14
  go_wp2_with (go_at_call 16; refine (num_err _ hn _).mono ?_; rintro e w' ⟨rfl, rfl⟩)
  go_ret
  exact ⟨rfl, rfl⟩
end Go.Proofs.Ytlieklclckenoaa
