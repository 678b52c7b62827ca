/-
corollarylaw25.QueueDrains returns true for every input, and leaves its arguments as they were. Conditions: none.
-/
import Derived.Test.YtlieklclckenoaaLaw
import Derived.Test.YtlieklclckenoaaDrains
import Derived.SliceStrings
namespace Go.Proofs.Ytlieklclckenoaa
open Go.ChangeShapes Go.WideShapes Go.ChangeAt Go.RowKit

set_option maxRecDepth 100000 in
theorem queueDrains_lifted (os : Os) (started : os.Started) (H : Type) (enc : TypeId × Value → H) :
    ReturnsInHanded {} Try.checked os 3 .any (Rows.queueDrainsSpec.pre6 enc Try.prog Try.f3 Rows.queueDrainsRow.domain false) (Rows.queueDrainsSpec.post enc Try.prog Try.f3 false true false false) := by
  refine law_lifted (C := Try.checked) (tb := 4) own started (by kernel_rfl) Try.func3
    (ChangeSpec.witness6 (enc := enc) (C := Try.checked) false ⟨#[], #[.int .i64 0, .slice none 0 0, .int .i64 0], []⟩ 8 (by kernel_rfl) (by kernel_rfl) (by kernel_rfl) (by kernel_rfl))
    rfl (fun ds hds => by match ds, hds with | [_, _, _], _ => rfl) rfl Try.underlying4 laidOut (fun t ht => ?_) ?_
  · simp only [Try.params3, List.mem_cons, List.not_mem_nil, or_false] at ht
    rcases ht with rfl | rfl | rfl <;> exact ⟨by kernel_rfl, of_decide_eq_true (by kernel_rfl)⟩
  · intro W base args ds p hval0 hA0 hlt hsz
    have hval : ∀ (j : Nat) t v, Try.f3.params[j]? = some t → args[j]? = some v → Value.okWide Try.prog W .any base t v := hval0
    have hA : DataW.TrodAll enc Try.prog W 0 (fun _ => true) true Try.f3.params.toList args.toList ds p := hA0
    rw [Try.params3] at hA hval
    obtain ⟨v0, v1, v2, d0, d1, d2, p0, p1, p2, rfl, rfl, rfl, h0, h1, h2⟩ := trodAll_three hA
    obtain ⟨bound, rfl, rfl, rfl, -⟩ := open_int Try.underlying3 (hval 0 3 v0 rfl rfl) h0
    obtain ⟨stop, rfl, rfl, rfl, -⟩ := open_int Try.underlying3 (hval 2 3 v2 rfl rfl) h2
    obtain ⟨oad, len, cap, rfl⟩ := okWide_slice Try.underlying22 (hval 1 22 v1 rfl rfl)
    by_cases hl : 100 < len
    · exact drains_long bound stop oad cap len hl W
    · obtain ⟨fuel, hf⟩ := h1
      rcases open_strings Try.underlying22 Try.underlying9 (by kernel_rfl) hf with ⟨hcs, _⟩ | ⟨x, l, c, ss, hcs, _, hl2, hm, hz, _, hcell, _⟩
      · simp [Value.cells] at hcs
        obtain ⟨rfl, rfl, rfl⟩ := hcs
        exact drains_walk bound stop none 0 [] (by simp) W (fun i hi => by simp at hi)
      · simp [Value.cells] at hcs
        obtain ⟨rfl, rfl, rfl⟩ := hcs
        have hz' : ss.length = cap := by simpa using hz
        have e : (ss.take len).length = len := by simp; omega
        have := drains_walk bound stop (some x) cap (ss.take len) (by omega) W (fun i hi => ⟨x, rfl, by
          rw [hcell i (by omega)]
          simp only [List.getD_eq_getElem?_getD]
          rw [List.getElem?_take_of_lt (by omega)]⟩)
        rwa [e] at this

theorem queueDrains_holds : Rows.QueueDrainsSaid :=
  OpenClaim.holds_of_wide 3 Try.f3 rfl rfl rfl rfl rfl rfl rfl ⟨rfl, rfl, rfl, rfl, rfl⟩ rfl rfl rfl rfl rfl (by kernel_rfl) Try.func3 (by kernel_rfl)
    (of_decide_eq_true (by kernel_rfl)) (by unfold Func.isWrapper; first | (rw [if_pos (by decide +kernel)]; kernel_rfl) | (rw [if_neg (by decide +kernel)]; exact ⟨rfl, rfl⟩))
    (fun os started H enc _ => queueDrains_lifted os started H enc)
end Go.Proofs.Ytlieklclckenoaa
