/-
The walk of QueueNil. Conditions: none.
-/
import Derived.Test.YtlieklclckenoaaAlive25
import Derived.Test.YtlieklclckenoaaMove
import Derived.Test.YtlieklclckenoaaRegion
namespace Go.Proofs.Ytlieklclckenoaa
open Go.RowKit Go.Shelf Go.Conc
attribute [local go_sem] Oper.semAt_some wide_fn wide_depth

set_option maxRecDepth 100000 in
theorem nil_walk (x : Int) (w : World) :
    Calls Try.prog 5 #[.int .i64 x] w fun e w' => e = .returned (.bool true) ∧ Below w.heap.size w w' := by
  have b0 := Boxed.new w 4 (.bool false)
  refine calls_of_wp_marks Try.func5 rfl ?_
  simp only [Try.ntmps5, List.size_toArray, List.length_cons, List.length_nil, Nat.reduceAdd, Nat.reduceSub, Array.replicate_succ, Array.replicate_zero, List.push_toArray, List.append_toArray, List.nil_append, List.cons_append]
  go_wp2_with (first
    | (go_at_call 7; refine (alive25 _).mono ?_; rintro e w1 ⟨rfl, hb1⟩)
    | (go_at_call 13; (with_reducible refine (newI_q 2 2 rfl (by omega) (by omega) w1).mono ?_); rintro e w2 ⟨rfl, hq2, hb2, -⟩)
    | (go_at_call 17; (with_reducible refine (putI_q (w1.heap.size + 1) w1.heap.size 2 [] (.int .i64 x) w2 hq2 (by simp)).mono ?_); rintro e w3 ⟨rfl, hq3, ho3, -⟩; replace hq3 : IsQ 74 w3 (w1.heap.size + 1) w1.heap.size 2 [.int .i64 x] := hq3)
    | (go_at_call 24; (with_reducible refine (drainI_make _ _).mono ?_); rintro e w5 ⟨rfl, rfl⟩))
  have hB2 : Below w1.heap.size w1 w3 := hb2.trans (ho3.below hb2.size (fun k hk => by subst hk; exact Nat.le_refl _))
  have hres : Boxed w3 w.heap.size 4 (.bool false) := boxed_only (boxed_only b0 (Only.of_below hb1 (fun _ => False)) (by simp)) (Only.of_below hB2 (fun _ => False)) (by simp)
  have hsz1 := hb1.size
  simp only [World.size_alloc] at hsz1
  have hB3 : Below w.heap.size w w3 := ((Below.refl _ w).alloc (Nat.le_refl _) _).trans ((hb1.mono (by simp)).trans (hB2.mono (by omega)))
  have hw1 := hq3.clt
  obtain ⟨c, hc⟩ : ∃ c, c = w1.heap.size := ⟨_, rfl⟩
  rw [← hc] at hq3 hw1 ⊢
  have hwc : w.heap.size < c := by omega
  clear hb1 hb2 hq2 ho3 hB2 hc hsz1 b0
  obtain ⟨nb, hnb⟩ : ∃ nb, nb = w3.heap.size := ⟨_, rfl⟩
  rw [← hnb] at hw1
  refine wp_rangeFunc_at (gf := 28) (lb := #[.pointer (some ⟨w3.heap.size, 0, none⟩)]) rfl (enters_of Try.func28 (by kernel_rfl) rfl) ?_
  simp only [World.size_alloc, ← hnb]
  intro rcd hrc hrl hY
  clear hY
  have q0 := Boxed.new w3 37 (.pointer none)
  rw [← hnb] at q0
  have b4 := World.alloc_heap_new (w3.alloc (.cells #[.pointer none] 37)) (.deferred (some []))
  have b5 := World.alloc_heap_new ((w3.alloc (.cells #[.pointer none] 37)).alloc (.deferred (some []))) (rcd .ready none)
  simp only [World.size_alloc, ← hnb] at b4 b5
  refine (drainI_nil 3 (nb + 1 + 1) nb _ ((q0.alloc _).alloc _).cell).mono ?_
  rintro e W2 ⟨hv, rfl⟩
  refine ⟨hv, .inl ⟨b5, ?_⟩⟩
  obtain ⟨W3, hW3⟩ : ∃ W3, W3 = ((((w3.alloc (.cells #[.pointer none] 37)).alloc (.deferred (some []))).alloc (rcd .ready none)).putObj (nb + 1 + 1) (rcd .exhausted none)) := ⟨_, rfl⟩
  rw [← hW3]
  have hO : Only (fun _ => False) w3 W3 := by rw [hW3]; exact ((((Only.refl (fun _ => False) w3).alloc _).alloc _).alloc _).putObj (.inl (by omega)) _
  have hq := hq3.kept hO (by simp) (by simp)
  have hR := boxed_only hres hO (by simp)
  have hD : W3.heap[nb + 1]? = some (.deferred (some [])) := by
    rw [hW3, World.putObj_heap_other (by omega), Below.heap_alloc _ _ _ (by simp only [World.size_alloc, ← hnb]; omega)]; exact b4
  have hB : Below w.heap.size w W3 := hB3.trans (hO.below hB3.size (by simp))
  have HNB := Lib.hid hnb
  have k1 := hR.cell
  have k2 := hR.frozen
  clear hW3 hO hq3 hres hB3 b4 b5 q0 hnb
  go_wp2_with (first
    | (go_at_call 19; refine (takeI_nil _).mono ?_; rintro e w' ⟨rfl, rfl⟩)
    | (go_at_call 17; refine (putI_nil _ _).mono ?_; rintro e w' ⟨rfl, rfl⟩)
    | (go_at_call 14; (with_reducible refine (is_err 13 rfl 13 _).mono ?_); rintro e w' ⟨rfl, rfl⟩)
    | (go_at_call 22; (with_reducible refine (lenI_nil _).mono ?_); rintro e w' ⟨rfl, rfl⟩)
    | (go_at_call 23; (with_reducible refine (roomI_nil _).mono ?_); rintro e w' ⟨rfl, rfl⟩)
    | (go_at_call 21; (with_reducible refine (move_toNil ⟨c + 1, 0, none⟩ 3 (by omega) _).mono ?_); rintro e w' ⟨rfl, rfl⟩)
    | (go_at_call 21; (with_reducible refine (move_fromNil (c + 1) c 2 _ 3 (by omega) _ hq (by omega) (by simp)).mono ?_); rintro e w' ⟨rfl, nq, rfl⟩)
    | (go_at_call 22; (with_reducible refine (lenI_q (c + 1) c 2 _ _ (hq.drewN nq)).mono ?_); rintro e w' ⟨rfl, rfl⟩))
  have hO1 : Only (· = w.heap.size) W3 ((W3.drewN nq).setCell ⟨w.heap.size, 0, none⟩ (.bool true)) := ((Only.refl (· = w.heap.size) W3).drewN nq).setCell (p := ⟨w.heap.size, 0, none⟩) (.inr rfl) _
  have hD1 : ((W3.drewN nq).setCell ⟨w.heap.size, 0, none⟩ (.bool true)).heap[nb + 1]? = some (.deferred (some [])) := (hO1.block _ (Array.getElem?_eq_some_iff.1 hD).1 (by omega)).trans hD
  have hR1 : Boxed ((W3.drewN nq).setCell ⟨w.heap.size, 0, none⟩ (.bool true)) w.heap.size 4 (.bool true) := Boxed.set (W := W3.drewN nq) (.bool true) hR
  have hO2 : Only (· = nb + 1) ((W3.drewN nq).setCell ⟨w.heap.size, 0, none⟩ (.bool true)) (((W3.drewN nq).setCell ⟨w.heap.size, 0, none⟩ (.bool true)).putObj (nb + 1) (.deferred none)) := (Only.refl _ _).putObj (.inr (by rfl)) _
  have hR2 := (boxed_only hR1 hO2 (by omega)).cell
  refine post_mark (D := nb + 1) (v := .bool true) rfl hD1 (results_cell1 rfl (ad := ⟨w.heap.size, 0, none⟩) rfl (by simp [go_sem, hR2])) ⟨rfl, ?_⟩
  exact hB.trans ((hO1.below hB.size (by omega)).trans (hO2.below (Nat.le_trans hB.size hO1.size) (by omega)))
end Go.Proofs.Ytlieklclckenoaa
