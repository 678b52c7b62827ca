/-
corollarylaw25.QueueMoves returns true for every input, and leaves its arguments as they were. Conditions: none.
-/
import Derived.Test.YtlieklclckenoaaLaw
import Derived.Test.YtlieklclckenoaaMoves
import Derived.OpenShut
import Derived.ChangeSlices
namespace Go.Proofs.Ytlieklclckenoaa
open Go.ChangeShapes Go.WideShapes Go.ChangeAt Go.RowKit

set_option maxRecDepth 100000 in
theorem queueMoves_lifted (os : Os) (started : os.Started) (H : Type) (enc : TypeId × Value → H) :
    ReturnsInHanded {} Try.checked os 6 .any (Rows.queueMovesSpec.pre6 enc Try.prog Try.f6 Rows.queueMovesRow.domain false) (Rows.queueMovesSpec.post enc Try.prog Try.f6 false true false false) := by
  refine law_lifted (C := Try.checked) (tb := 4) own started (by kernel_rfl) Try.func6
    (ChangeSpec.witness6 (enc := enc) (C := Try.checked) false ⟨#[], #[.slice none 0 0, .agg #[.int .i64 0, .int .i64 0], .int .i64 0], []⟩ 8 (by kernel_rfl) (by kernel_rfl) (by kernel_rfl) (by kernel_rfl))
    rfl (fun ds hds => by match ds, hds with | [_, _, _], _ => rfl) rfl Try.underlying4 laidOut (fun t ht => ?_) ?_
  · simp only [Try.params6, List.mem_cons, List.not_mem_nil, or_false] at ht
    rcases ht with rfl | rfl | rfl <;> exact ⟨by kernel_rfl, of_decide_eq_true (by kernel_rfl)⟩
  · intro W base args ds p hval0 hA0 hlt hsz
    have hval : ∀ (j : Nat) t v, Try.f6.params[j]? = some t → args[j]? = some v → Value.okWide Try.prog W .any base t v := hval0
    have hA : DataW.TrodAll enc Try.prog W 0 (fun _ => true) true Try.f6.params.toList args.toList ds p := hA0
    rw [Try.params6] at hA hval
    obtain ⟨v0, v1, v2, d0, d1, d2, p0, p1, p2, rfl, rfl, rfl, h0, h1, h2⟩ := trodAll_three hA
    obtain ⟨many, rfl, rfl, rfl, -⟩ := open_int Try.underlying3 (hval 2 3 v2 rfl rfl) h2
    obtain ⟨oad, len, cap, rfl⟩ := okWide_slice Try.underlying42 (hval 0 42 v0 rfl rfl)
    have hv1 := hval 1 63 v1 rfl rfl
    simp only [Value.okWide, Try.underlying63] at hv1
    obtain ⟨ca, rfl, hca, -⟩ := hv1
    have hcell1 : Try.prog.cellsOf 3 = 1 := by kernel_rfl
    have hcell2 : Try.prog.cellsOf 63 = 2 := by kernel_rfl
    rw [hcell2] at hca
    obtain ⟨fuel1, hf1⟩ := h1
    obtain ⟨xs, m, -, -, -, hxl, hel⟩ := DataW.trod_array Try.underlying63 hf1
    rw [hcell1] at hel
    have e0 := hel 0 (by omega)
    have e1 := hel 1 (by omega)
    rw [List.getElem?_eq_getElem (by omega)] at e0 e1
    obtain ⟨b0, hb0, -⟩ := DataW.trod_int Try.underlying3 e0
    obtain ⟨b1, hb1, -⟩ := DataW.trod_int Try.underlying3 e1
    obtain ⟨cl⟩ := ca
    obtain ⟨x, y, rfl⟩ : ∃ x y, cl = [x, y] := by
      match cl, hca with
      | [x, y], _ => exact ⟨x, y, rfl⟩
    simp [Value.cells] at hb0 hb1
    subst hb0 hb1
    by_cases hl : 60 < len
    · exact moves_long b0 b1 many oad cap len hl W
    · obtain ⟨fuel, hf⟩ := h0
      rcases open_ints Try.underlying42 Try.underlying3 hcell1 hf with ⟨hcs, _⟩ | ⟨ad, len', cap', zs, hcs, _, hlc, _, hz, _, hcell, _⟩
      · simp [Value.cells] at hcs
        obtain ⟨rfl, rfl, rfl⟩ := hcs
        exact moves_walk b0 b1 many none 0 [] (by simp) W (fun h => by simp at h)
      · simp [Value.cells] at hcs
        obtain ⟨rfl, rfl, rfl⟩ := hcs
        have hz' : zs.length = cap := by simpa using hz
        have e : (zs.take len).length = len := by simp; omega
        have := moves_walk b0 b1 many (some ad) cap (zs.take len) (by omega) W (fun h => by
          rw [e] at h
          obtain ⟨gb, go, gs⟩ := ad
          have h00 := hcell 0 (by omega)
          have hs : gs = none := by
            simp only [Addr.add, World.cell?] at h00
            split at h00
            · cases gs with
              | none => rfl
              | some q => simp at h00
            · cases h00
          subst hs
          refine ⟨gb, go, rfl, fun j u hu => ?_⟩
          have hj : j < len := by
            have := (List.getElem?_eq_some_iff.1 hu).1
            simp [vints] at this
            omega
          have := hcell j (by omega)
          have hu2 : u = .int .i64 (zs.getD j 0) := by
            simp [vints, List.getElem?_take_of_lt hj] at hu
            obtain ⟨a, ha, rfl⟩ := hu
            simp [List.getD_eq_getElem?_getD, ha]
          rw [hu2, ← this]
          by_cases h0 : j = 0
          · subst h0; rfl
          · simp [Addr.add, h0])
        rwa [e] at this

theorem queueMoves_holds : Rows.QueueMovesSaid :=
  OpenClaim.holds_of_wide 6 Try.f6 rfl rfl rfl rfl rfl rfl rfl ⟨rfl, rfl, rfl, rfl, rfl⟩ rfl rfl rfl rfl rfl (by kernel_rfl) Try.func6 (by kernel_rfl)
    (of_decide_eq_true (by kernel_rfl)) (by unfold Func.isWrapper; first | (rw [if_pos (by decide +kernel)]; kernel_rfl) | (rw [if_neg (by decide +kernel)]; exact ⟨rfl, rfl⟩))
    (fun os started H enc _ => queueMoves_lifted os started H enc)
end Go.Proofs.Ytlieklclckenoaa
