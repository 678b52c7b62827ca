/-
The chapter's example, which each law asks first: it holds, and turns nothing that was there. Conditions: none.
-/
import Derived.Test.YtlieklclckenoaaQueueI
import Derived.Test.YtlieklclckenoaaNum
namespace Go.Proofs.Ytlieklclckenoaa
open Go.RowKit Go.Shelf Go.Conc

theorem alive25 (w : World) : Calls Try.prog 7 #[] w fun e w' => e = .returned (.bool true) ∧ Below w.heap.size w w' := by
  go_enter Try.func7, Try.ntmps7
  go_wp2_with (first
    | (go_at_call 13; (with_reducible refine (newI_q 1 1 rfl (by omega) (by omega) w).mono ?_); rintro e w1 ⟨rfl, hq1, hb1, -⟩)
    | (go_at_call 17; (with_reducible refine (putI_q (w.heap.size + 1) w.heap.size 1 [] (.int .i64 7) w1 hq1 (by simp)).mono ?_); rintro e w2 ⟨rfl, hq2, ho2, -⟩; replace hq2 : IsQ 74 w2 (w.heap.size + 1) w.heap.size 1 [.int .i64 7] := hq2)
    | (go_at_call 17; (with_reducible refine (putI_qfull (w.heap.size + 1) w.heap.size 1 _ (.int .i64 8) w2 hq2 (by simp)).mono ?_); rintro e w3 ⟨rfl, rfl⟩)
    | (go_at_call 14; (with_reducible refine (is_err 11 rfl 11 w2).mono ?_); rintro e w3 ⟨rfl, rfl⟩)
    | (go_at_call 19; (with_reducible refine (takeI_q (w.heap.size + 1) w.heap.size 1 _ _ w2 hq2).mono ?_); clear hq2; rintro e w4 ⟨rfl, hq4, ho4, -⟩)
    | (go_at_call 19; (with_reducible refine (takeI_qempty (w.heap.size + 1) w.heap.size 1 w4 hq4).mono ?_); rintro e w5 ⟨rfl, rfl⟩)
    | (go_at_call 14; (with_reducible refine (is_err 13 rfl 13 w4).mono ?_); rintro e w3 ⟨rfl, rfl⟩))
  go_ret
  exact ⟨rfl, hb1.trans ((ho2.trans ho4).below hb1.size (fun k hk => by subst hk; exact Nat.le_refl _))⟩
end Go.Proofs.Ytlieklclckenoaa
