/-
corollarylaw22.PathThrough returns true for every input, and leaves its arguments as they were. Conditions: none.
-/
import Derived.Test.YtmpmngakheoacaaKPp
import Derived.Test.YtmpmngakheoacaaKi
namespace Go.Proofs.Ytmpmngakheoacaa
set_option linter.unusedSimpArgs false
set_option linter.unusedVariables false
set_option linter.unusedSectionVars false
open Go.ChangeShapes Go.WideShapes Go.ChangeAt Go.RowKit

set_option maxRecDepth 100000 in
theorem pathThrough_lifted (os : Os) (started : os.Started) (H : Type) (enc : TypeId × Value → H) :
    ReturnsInHanded {} Try.checked os 4 .any (Rows.pathThroughSpec.pre6 enc Try.prog Try.f4 Rows.pathThroughRow.domain false) (Rows.pathThroughSpec.post enc Try.prog Try.f4 false true false false) := by
  refine law_lifted (C := Try.checked) (tb := 4) own started (by kernel_rfl) Try.func4
    (ChangeSpec.witness6 (enc := enc) (C := Try.checked) false ⟨#[], #[.agg #[.int .i64 0, .slice none 0 0], .agg #[.int .i64 0, .int .i64 0, .int .i64 0]], []⟩ 8 (by kernel_rfl) (by kernel_rfl) (by kernel_rfl) (by kernel_rfl))
    rfl (fun ds hds => by match ds, hds with | [_, _], _ => rfl) rfl Try.underlying4 laidOut (fun t ht => ?_) ?_
  · simp only [Try.params4, List.mem_cons, List.not_mem_nil, or_false] at ht
    rcases ht with rfl | rfl <;> exact ⟨by kernel_rfl, of_decide_eq_true (by kernel_rfl)⟩
  · intro W base args ds p hval hA _ _
    refine law_contract (P := Try.prog) (congrArg Array.toList Try.params4) (by kernel_rfl) (fun xs hxs => ?_) W base args ds p hval hA
    match xs, hxs with
    | [x0, x1], ⟨h0, h1, _⟩ =>
      obtain ⟨o, P, ws, rfl⟩ := arg_map (by kernel_rfl) (by kernel_rfl) h0
      obtain ⟨x, y, z, rfl⟩ := arg_int3 (by kernel_rfl) (by kernel_rfl) h1
      exact pathThrough_law o P ws x y z

theorem pathThrough_holds : Rows.PathThroughSaid :=
  OpenClaim.holds_of_wide 4 Try.f4 rfl rfl rfl rfl rfl rfl rfl ⟨rfl, rfl, rfl, rfl, rfl⟩ rfl rfl rfl rfl rfl (by kernel_rfl) Try.func4 (by kernel_rfl)
    (of_decide_eq_true (by kernel_rfl)) (by unfold Func.isWrapper; first | (rw [if_pos (by decide +kernel)]; kernel_rfl) | (rw [if_neg (by decide +kernel)]; exact ⟨rfl, rfl⟩))
    (fun os started H enc _ => pathThrough_lifted os started H enc)

end Go.Proofs.Ytmpmngakheoacaa
