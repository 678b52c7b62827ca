/-
corollarylaw25.QueuePlays returns true for every input, and leaves its arguments as they were. Conditions: none.
-/
import Derived.Test.YtlieklclckenoaaLaw
import Derived.Test.YtlieklclckenoaaPlays
import Derived.Deep.SlicePairs
import Derived.ChangeArms
namespace Go.Proofs.Ytlieklclckenoaa
open Go.ChangeShapes Go.WideShapes Go.ChangeAt Go.RowKit

set_option maxRecDepth 100000 in
theorem queuePlays_lifted (os : Os) (started : os.Started) (H : Type) (enc : TypeId × Value → H) :
    ReturnsInHanded {} Try.checked os 4 .any (Rows.queuePlaysSpec.pre6 enc Try.prog Try.f4 Rows.queuePlaysRow.domain false) (Rows.queuePlaysSpec.post enc Try.prog Try.f4 false true false false) := by
  refine law_lifted (C := Try.checked) (tb := 4) own started (by kernel_rfl) Try.func4
    (ChangeSpec.witness6 (enc := enc) (C := Try.checked) false ⟨#[], #[.int .i64 0, .int .i64 0, .slice none 0 0], []⟩ 8 (by kernel_rfl) (by kernel_rfl) (by kernel_rfl) (by kernel_rfl))
    rfl (fun ds hds => by match ds, hds with | [_, _, _], _ => rfl) rfl Try.underlying4 laidOut (fun t ht => ?_) ?_
  · simp only [Try.params4, List.mem_cons, List.not_mem_nil, or_false] at ht
    rcases ht with rfl | rfl | rfl <;> exact ⟨by kernel_rfl, of_decide_eq_true (by kernel_rfl)⟩
  · intro W base args ds p hval0 hA0 hlt hsz
    have hval : ∀ (j : Nat) t v, Try.f4.params[j]? = some t → args[j]? = some v → Value.okWide Try.prog W .any base t v := hval0
    have hA : DataW.TrodAll enc Try.prog W 0 (fun _ => true) true Try.f4.params.toList args.toList ds p := hA0
    rw [Try.params4] at hA hval
    obtain ⟨v0, v1, v2, d0, d1, d2, p0, p1, p2, rfl, rfl, rfl, h0, h1, h2⟩ := trodAll_three hA
    obtain ⟨a, rfl, rfl, rfl, -⟩ := open_int Try.underlying3 (hval 0 3 v0 rfl rfl) h0
    obtain ⟨b, rfl, rfl, rfl, -⟩ := open_int Try.underlying3 (hval 1 3 v1 rfl rfl) h1
    obtain ⟨oad, len, cap, rfl⟩ := okWide_slice Try.underlying36 (hval 2 36 v2 rfl rfl)
    by_cases hl : 80 < len
    · exact plays_long a b oad cap len hl W
    · by_cases hab : (a < 1 ∨ 4096 < a) ∨ (b < 1 ∨ 4096 < b)
      · exact plays_bad a b oad cap len (by omega) W hab
      · obtain ⟨ka, rfl⟩ : ∃ ka : Nat, a = ka := ⟨a.toNat, by omega⟩
        obtain ⟨kb, rfl⟩ : ∃ kb : Nat, b = kb := ⟨b.toNat, by omega⟩
        obtain ⟨fuel, hf⟩ := h2
        refine plays_walk ka kb (by omega) (by omega) (by omega) (by omega) oad cap len (by omega) W ?_
        rcases Deep.open_slice_pairs Try.underlying36 Try.underlying46 (by kernel_rfl) rfl rfl (by kernel_rfl) (by kernel_rfl) hf with ⟨hcs, _⟩ | ⟨ad, l, c, m, n, V0, V1, D0, D1, P0, P1, hcs, _, hlc, _, hm, _, hcell⟩
        · simp [Value.cells] at hcs
          obtain ⟨rfl, rfl, rfl⟩ := hcs
          intro i hi
          omega
        · simp [Value.cells] at hcs
          obtain ⟨rfl, rfl, rfl⟩ := hcs
          intro i hi
          have hml : len ≤ m := by rw [hm]; split <;> omega
          have hs : ad.spot = none := by
            obtain ⟨e0, -⟩ := hcell 0 (by omega)
            simp only [Nat.zero_mul, Addr.add, if_pos, World.cell?] at e0
            split at e0
            · cases hsp : ad.spot with
              | none => rfl
              | some q => rw [hsp] at e0; simp at e0
            · cases e0
          obtain ⟨e0, e1, t0, t1⟩ := hcell i (by omega)
          obtain ⟨x0, hx0, -⟩ := DataW.trod_int Try.underlying3 t0
          obtain ⟨x1, hx1, -⟩ := DataW.trod_int Try.underlying3 t1
          simp only [List.cons.injEq, and_true] at hx0 hx1
          rw [hx0] at e0
          rw [hx1] at e1
          obtain ⟨gb, go, gs⟩ := ad
          simp only at hs
          subst hs
          have hadd : ∀ j, (⟨gb, go, none⟩ : Addr).add j = ⟨gb, go + j, none⟩ := by
            intro j
            unfold Addr.add
            split
            · simp_all
            · rfl
          rw [hadd] at e0 e1
          exact ⟨gb, go, x0, x1, rfl, e0, e1⟩

theorem queuePlays_holds : Rows.QueuePlaysSaid :=
  OpenClaim.holds_of_wide 4 Try.f4 rfl rfl rfl rfl rfl rfl rfl ⟨rfl, rfl, rfl, rfl, rfl⟩ rfl rfl rfl rfl rfl (by kernel_rfl) Try.func4 (by kernel_rfl)
    (of_decide_eq_true (by kernel_rfl)) (by unfold Func.isWrapper; first | (rw [if_pos (by decide +kernel)]; kernel_rfl) | (rw [if_neg (by decide +kernel)]; exact ⟨rfl, rfl⟩))
    (fun os started H enc _ => queuePlays_lifted os started H enc)
end Go.Proofs.Ytlieklclckenoaa
