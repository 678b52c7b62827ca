/-
The document's queue, corollaryref25: Put, Take, Move at lists of ints in memory. Conditions: lists of at most 5000.
-/
import Derived.Test.YtlieklclckenoaaOnly
import Derived.Test.YtlieklclckenoaaRegion
import Derived.Test.YtlieklclckenoaaMem
import Derived.Lib.Hide
import Derived.Test.YtlieklclckenoaaFree
import Derived.Maps.AppendAt
import Derived.RegionTactic
import Derived.ChangeAlike
namespace Go.Proofs.Ytlieklclckenoaa
open Go.RowKit Go.Shelf Go.Conc

theorem infoI : (Try.prog.info? 3).map (fun i => (i.zero, i.size, i.bytes)) = some (some (.int .i64 0), 1, 8) := by kernel_rfl

theorem refPut_full (bound : Int) (v : Value) (n : Nat) (xs : List Value) (x : Int) (w : World) (h : Reads w 3 1 v n xs) (hb : bound = n) :
    Calls Try.prog 15 #[.agg #[.int .i64 bound, v], .int .i64 x] w fun e w' => e = .returned (.tuple #[.agg #[.int .i64 bound, v], .int .i64 11]) ∧ Only (fun _ => False) w w' := by
  obtain ⟨a, cp, rfl, hc1, hc2⟩ := h.shape
  subst hb
  go_enter Try.func15, Try.ntmps15
  go_wp2
  exact bodyPost_ret (v := .tuple #[.agg #[.int .i64 n, .slice a n cp], .int .i64 11]) (by simp [results, Try.results15, go_sem]) rfl ⟨rfl, ((Only.refl _ w).alloc _).alloc _⟩

theorem frozen_of_row (w : World) (B j : Nat) (cs : Array Value) (t : TypeId) (h : w.heap[B]? = some (.cells cs t (0, 0))) : w.frozen? ⟨B, j, none⟩ = false := by simp [World.frozen?, h]

theorem refPut_room (bound : Int) (v : Value) (n : Nat) (xs : List Value) (x : Int) (w : World) (h : Reads w 3 1 v n xs) (hb : bound ≠ n) (hn : n ≤ 5000) :
    Calls Try.prog 15 #[.agg #[.int .i64 bound, v], .int .i64 x] w fun e w' => ∃ v', e = .returned (.tuple #[.agg #[.int .i64 bound, v'], .int .i64 0]) ∧ Reads w' 3 1 v' (n + 1) (xs ++ [.int .i64 x]) ∧ Only (fun _ => False) w w' := by
  obtain ⟨a, cp, rfl, hc1, hc2⟩ := h.shape
  have e0 : ((n : Int) == bound) = false := by rw [beq_eq_false_iff_ne]; omega
  obtain ⟨i0, hi0, hz0, hz1, hz2⟩ := info_parts infoI
  have HB := Lib.hid hb; clear hb
  have HR := Lib.hid h; clear h
  go_enter Try.func15, Try.ntmps15
  go_wp2
  obtain ⟨W0, hW0⟩ : ∃ W0, W0 = (w.alloc (.cells #[.int .i64 bound, .slice a n cp] 44)).alloc (.cells #[.int .i64 0, .slice none 0 0] 44) := ⟨_, rfl⟩
  have b1 := World.alloc_heap_new w (.cells #[.int .i64 bound, .slice a n cp] 44)
  have b2 := World.alloc_heap_new (w.alloc (.cells #[.int .i64 bound, .slice a n cp] 44)) (.cells #[.int .i64 0, .slice none 0 0] 44)
  have hO : Only (fun _ => False) w W0 := by rw [hW0]; exact ((Only.refl _ w).alloc _).alloc _
  have hsz : W0.heap.size = w.heap.size + 2 := by rw [hW0]; simp
  have b1' : W0.heap[w.heap.size]? = some (.cells #[.int .i64 bound, .slice a n cp] 44) := by rw [hW0, Below.heap_alloc _ _ _ (by simp)]; exact b1
  have b2' : W0.heap[w.heap.size + 1]? = some (.cells #[.int .i64 0, .slice none 0 0] 44) := by rw [hW0]; simpa using b2
  rw [← hW0]
  have k1 : W0.cell? ⟨w.heap.size, 0, none⟩ = some (.int .i64 bound) := by unfold World.cell?; rw [b1']; rfl
  have k2 : W0.cell? ⟨w.heap.size, 1, none⟩ = some (.slice a n cp) := by unfold World.cell?; rw [b1']; rfl
  have HR2 := Lib.hid (HR.out.pure hO)
  clear hW0 b1 b2
  have HSZ := Lib.hid hsz; clear hsz
  have HB1 := Lib.hid b1'; clear b1'
  have HB2 := Lib.hid b2'; clear b2'
  refine wp_region_sp (w.heap.size + 2) 9 [(8, [2, 5, 7])] [.eq (.pointer (some ⟨w.heap.size, 0, none⟩)), .eq (.int .i64 bound), .fresh (w.heap.size + 2) 3 1, .eq (.pointer (some ⟨w.heap.size, 1, none⟩)), .eq (.slice a n cp),
      .own (w.heap.size + 2) 3 1 n xs, .eq (.int .i64 x), .rd 3 1 1 [.int .i64 x], .own (w.heap.size + 2) 3 1 (n + 1) (xs ++ [.int .i64 x])]
      (by kernel_rfl) (by kernel_rfl) (by kernel_rfl) ?hop ?hend
  case hop =>
    intro i hi o ho v w1 hB hd
    have hsz := Nat.le_trans (Nat.le_of_eq HSZ.out.symm) hB.size
    match i, hi with
    | 0, _ =>
      obtain rfl := Option.some.inj ho
      simp [depsOf, actAt, opYields, yieldsUpon, go_sem, spAt, Sp.holds]
      exact ⟨hB, .inl (Only.refl _ _)⟩
    | 1, _ =>
      obtain rfl := Option.some.inj ho
      show opYields _ _ (actAt _ _ v [0]) _ _
      have h0 : v 0 = _ := hd 0 (by decide)
      have h1 : w1.cell? ⟨w.heap.size, 0, none⟩ = some (.int .i64 bound) := (hB.cell (p := ⟨w.heap.size, 0, none⟩) (by rw [HSZ.out]; simp) (by simp)).trans k1
      simp [slotOf, actAt, Act.put, opYields, yieldsUpon, go_sem, spAt, Sp.holds, h0, h1]
      exact ⟨hB, .inl (Only.refl _ _)⟩
    | 2, _ =>
      obtain rfl := Option.some.inj ho
      simp [depsOf, actAt, opYields, yieldsUpon, go_sem, spAt, Sp.holds]
      exact ⟨hB.alloc _, ⟨own_new _ _ _ hsz _, some _, rfl⟩, .inl ((Only.refl _ _).alloc _)⟩
    | 3, _ =>
      obtain rfl := Option.some.inj ho
      simp [depsOf, actAt, opYields, yieldsUpon, go_sem, spAt, Sp.holds]
      exact ⟨hB, .inl (Only.refl _ _)⟩
    | 4, _ =>
      obtain rfl := Option.some.inj ho
      show opYields _ _ (actAt _ _ v [3]) _ _
      have h0 : v 3 = _ := hd 3 (by decide)
      have h1 : w1.cell? ⟨w.heap.size, 1, none⟩ = some (.slice a n cp) := (hB.cell (p := ⟨w.heap.size, 1, none⟩) (by rw [HSZ.out]; simp) (by simp)).trans k2
      simp [slotOf, actAt, Act.put, opYields, yieldsUpon, go_sem, spAt, Sp.holds, h0, h1]
      exact ⟨hB, .inl (Only.refl _ _)⟩
    | 5, _ =>
      obtain rfl := Option.some.inj ho
      have h2 : (Sp.fresh (w.heap.size + 2) 3 1).holds (v 2) w1 := hd 2 (by decide)
      have h4 : v 4 = _ := hd 4 (by decide)
      have hrd : Reads w1 3 1 (.slice a n cp) n xs := HR2.out.only hB (fun g cur fr hg he => by have := (Array.getElem?_eq_some_iff.1 he).1; rw [HSZ.out] at this; omega)
      exact yields_append_pure (.tmp 15) (.tmp 17) 42 rfl (w.heap.size + 2) 3 i0 _ 1 8 Try.underlying42 hi0 hz0 hz1 hz2 rfl (by omega) hB (v 2) rfl h2 (v 4) n xs rfl (by rw [h4]; exact hrd) (by simp only [maxLen]; omega) (by omega) hsz
    | 6, _ =>
      obtain rfl := Option.some.inj ho
      simp [depsOf, actAt, opYields, yieldsUpon, go_sem, spAt, Sp.holds]
      exact ⟨hB, .inl (Only.refl _ _)⟩
    | 7, _ =>
      obtain rfl := Option.some.inj ho
      show opYields _ _ (actAt _ _ v [6]) _ _
      have h0 : v 6 = _ := hd 6 (by decide)
      simp [slotOf, actAt, Act.put, opYields, yieldsUpon, go_sem, spAt, Sp.holds, h0]
      exact ⟨hB.alloc _, Reads.new w1 3 1 1 #[.int .i64 x] rfl (by simp [Value.oneCell']) (by decide), .inl ((Only.refl _ _).alloc _)⟩
    | 8, _ =>
      obtain rfl := Option.some.inj ho
      have h5 : w1.ownsRow (w.heap.size + 2) 3 1 (v 5) n xs := hd 5 (by decide)
      have h7 : Reads w1 3 1 (v 7) 1 [.int .i64 x] := hd 7 (by decide)
      exact yields_append_own (.tmp 18) (.tmp 20) 42 rfl (w.heap.size + 2) 3 i0 _ 1 8 Try.underlying42 hi0 hz0 hz1 hz2 rfl (by omega) hB (v 5) n xs rfl h5 (v 7) 1 _ rfl h7 (by simp only [maxLen]; omega) (by omega) hsz (Nat.le_refl _) (by rfl)
  case hend =>
    intro v w1 hB hΦ
    have e0 : v 0 = _ := hΦ 0 (by decide) (by decide)
    have e1 : v 1 = _ := hΦ 1 (by decide) (by decide)
    have e3 : v 3 = _ := hΦ 3 (by decide) (by decide)
    have e4 : v 4 = _ := hΦ 4 (by decide) (by decide)
    have e6 : v 6 = _ := hΦ 6 (by decide) (by decide)
    have h8 : w1.ownsRow (w.heap.size + 2) 3 1 (v 8) (n + 1) (xs ++ [.int .i64 x]) := hΦ 8 (by decide) (by decide)
    have hb2 : w1.heap[w.heap.size + 1]? = some (.cells #[.int .i64 0, .slice none 0 0] 44) := (hB.block _ (by rw [HSZ.out]; omega) (by omega)).trans HB2.out
    have c3 : w1.cell? ⟨w.heap.size + 1, 0, none⟩ = some (.int .i64 0) := by unfold World.cell?; rw [hb2]; rfl
    have c4 : w1.cell? ⟨w.heap.size + 1, 1, none⟩ = some (.slice none 0 0) := by unfold World.cell?; rw [hb2]; rfl
    have f3 := frozen_of_row w1 (w.heap.size + 1) 0 _ _ hb2
    have f4 := frozen_of_row w1 (w.heap.size + 1) 1 _ _ hb2
    obtain ⟨a8, cp8, e8⟩ := ownsRow_shape h8
    rw [e8] at h8
    have H8 := Lib.hid h8; clear h8
    have HF := Lib.hid hΦ; clear hΦ
    have HBO := Lib.hid hB; clear hB
    have HB2' := Lib.hid hb2; clear hb2
    show wpList _ _ _ _ (actAt _ _ v [0, 1, 2, 3, 4, 5, 6, 7, 8]) _
    simp only [List.drop_succ_cons, List.drop_zero, actAt, slotOf, List.getElem?_toArray, List.getElem?_cons_zero, List.getElem?_cons_succ, Option.bind_some, Option.getD_some, Act.put, e0, e1, e3, e4, e6, e8]
    generalize v 2 = x2
    generalize v 5 = x5
    generalize v 7 = x7
    go_wp2
    have hq := HR.out.2.1
    refine bodyPost_ret (v := .tuple #[.agg #[.int .i64 bound, .slice a8 (n + 1) cp8], .int .i64 0]) (by simp [results, Try.results15, go_sem, c3, c4]) rfl ⟨.slice a8 (n + 1) cp8, rfl, ?_, ?_⟩
    · refine Reads.of_own (base := w.heap.size + 2) ?_ (fun u hu => by
        rcases List.mem_append.1 hu with h | h
        · exact hq u h
        · rw [List.mem_singleton.1 h]; rfl)
      have := ownsRow_only H8.out (((Only.refl (fun k => k = w.heap.size + 1) w1).setCell (p := ⟨w.heap.size + 1, 0, none⟩) (.inr rfl) (.int .i64 bound)).setCell (p := ⟨w.heap.size + 1, 1, none⟩) (.inr rfl) (.slice a8 (n + 1) cp8)) (fun g hg e => by have := (H8.out.lt g hg).1; omega)
      exact this
    · have h1 := (hO.mono (T := fun k => w.heap.size ≤ k) (fun _ _ hf => hf.elim)).trans (HBO.out.mono (T := fun k => w.heap.size ≤ k) (fun k _ hk => by omega))
      exact ((h1.setCell (p := ⟨w.heap.size + 1, 0, none⟩) (.inl (by simp)) _).setCell (p := ⟨w.heap.size + 1, 1, none⟩) (.inl (by simp)) _).mono (fun k hk hs => by omega)

theorem Reads.tail_nil {w : World} {e : TypeId} {n g off cp : Nat} {x : Value} {xs : List Value} (h : Reads w e 1 (.slice (some ⟨g, off, none⟩) n cp) n (x :: xs)) (hn : n = 1) : Reads w e 1 (.slice (some ⟨g, off, none⟩) (n - 1) 0) (n - 1) xs := by
  subst hn
  obtain ⟨hl, h1c, -⟩ := h
  have : xs = [] := by simpa using hl
  subst this
  exact ⟨by simp, by simp, _, 0, rfl, Nat.le_refl _, by decide, .inl rfl⟩
theorem Reads.tail {w : World} {e : TypeId} {n g off cp : Nat} {x : Value} {xs : List Value} (h : Reads w e 1 (.slice (some ⟨g, off, none⟩) n cp) n (x :: xs)) (hn : 0 < n) : Reads w e 1 (.slice (some ⟨g, off + 1, none⟩) (n - 1) (cp - 1)) (n - 1) xs := by
  obtain ⟨hl, h1c, a, cp', hv, h1, h2, h3⟩ := h
  cases hv
  refine ⟨by simp at hl; omega, fun u hu => h1c u (by simp [hu]), _, _, rfl, by omega, by omega, ?_⟩
  rcases h3 with h3 | ⟨g', off', cur, fr, ha, hg, hc⟩
  · omega
  · cases ha
    refine .inr ⟨g, off + 1, cur, fr, rfl, hg, fun j u hu => ?_⟩
    have := hc (j + 1) u (by simpa using hu)
    rw [show off + 1 + j = off + (j + 1) by omega]
    exact this

theorem refTake_none (bound : Int) (v : Value) (n : Nat) (w : World) (h : Reads w 3 1 v n []) (hn : n = 0) :
    Calls Try.prog 18 #[.agg #[.int .i64 bound, v]] w fun e w' => e = .returned (.tuple #[.agg #[.int .i64 bound, v], .int .i64 0, .int .i64 13]) ∧ Only (fun _ => False) w w' := by
  obtain ⟨a, cp, rfl, hc1, hc2⟩ := h.shape
  have e0 : ((n : Int) == 0) = true := by simp [hn]
  have HR := Lib.hid h; clear h
  have HN := Lib.hid hn; clear hn
  go_enter Try.func18, Try.ntmps18
  go_wp2
  exact bodyPost_ret (v := .tuple #[.agg #[.int .i64 bound, .slice a n cp], .int .i64 0, .int .i64 13]) (by simp [results, Try.results18, go_sem]) rfl ⟨rfl, ((Only.refl _ w).alloc _).alloc _⟩

theorem refTake_one (bound : Int) (v : Value) (n : Nat) (x : Int) (xs : List Value) (w : World) (h : Reads w 3 1 v n (.int .i64 x :: xs)) (hn : n ≠ 0) :
    Calls Try.prog 18 #[.agg #[.int .i64 bound, v]] w fun e w' => ∃ v', e = .returned (.tuple #[.agg #[.int .i64 bound, v'], .int .i64 x, .int .i64 0]) ∧ Reads w' 3 1 v' (n - 1) xs ∧ Only (fun _ => False) w w' := by
  obtain ⟨a, cp, rfl, hc1, hc2⟩ := h.shape
  have e0 : ((n : Int) == 0) = false := by rw [beq_eq_false_iff_ne]; omega
  obtain ⟨g, off, rfl, hcell⟩ := h.cells (by omega)
  have hx : w.cell? ⟨g, off, none⟩ = some (.int .i64 x) := hcell 0 _ rfl
  have hlt := lt_of_cell hx
  have HR := Lib.hid h; clear h
  have HC := Lib.hid hcell; clear hcell
  have hpos : 0 < n := by omega
  have HN := Lib.hid hn; clear hn
  go_enter Try.func18, Try.ntmps18
  go_wp2
  have k3 : ((w.alloc (.cells #[.int .i64 bound, .slice (some ⟨g, off, none⟩) n cp] 44)).alloc (.cells #[.int .i64 0, .slice none 0 0] 44)).cell? ⟨g, off, none⟩ = some (.int .i64 x) := by
    exact (World.cell?_alloc_lt _ _ _ (by simp; omega)).trans ((World.cell?_alloc_lt _ _ _ hlt).trans hx)
  have k4 : (Value.slice (some ⟨g, off, none⟩) (n - 1) 0 = Value.slice (some ⟨g, off, none⟩) (n - 1) 0) := rfl
  have hO : Only (fun _ => False) w w := Only.refl _ _
  go_region
  all_goals go_wp2
  · have hr := HR.out.tail_nil (by omega : n = 1)
    exact bodyPost_ret (v := .tuple #[.agg #[.int .i64 bound, .slice (some ⟨g, off, none⟩) (n - 1) 0], .int .i64 x, .int .i64 0]) (by simp [results, Try.results18, go_sem]) rfl ⟨_, rfl, ((hr.alloc _).alloc _).drew, ((hO.alloc _).alloc _).drew⟩
  · have hr := HR.out.tail hpos
    exact bodyPost_ret (v := .tuple #[.agg #[.int .i64 bound, .slice (some ⟨g, off + 1, none⟩) (n - 1) (cp - 1)], .int .i64 x, .int .i64 0]) (by simp [results, Try.results18, go_sem]) rfl ⟨_, rfl, ((hr.alloc _).alloc _).drew, ((hO.alloc _).alloc _).drew⟩

/-- A block of two cells. -/
def Row2 (w : World) (B : Nat) (t : TypeId) (u v : Value) : Prop := w.heap[B]? = some (.cells #[u, v] t (0, 0))
theorem Row2.cell0 {w : World} {B : Nat} {t : TypeId} {u v : Value} (h : Row2 w B t u v) : w.cell? ⟨B, 0, none⟩ = some u := by unfold World.cell?; rw [h]; rfl
theorem Row2.cell1 {w : World} {B : Nat} {t : TypeId} {u v : Value} (h : Row2 w B t u v) : w.cell? ⟨B, 1, none⟩ = some v := by unfold World.cell?; rw [h]; rfl
theorem Row2.frozen {w : World} {B : Nat} {t : TypeId} {u v : Value} (h : Row2 w B t u v) (j : Nat) : w.frozen? ⟨B, j, none⟩ = false := frozen_of_row w B j _ _ h
theorem Row2.lt {w : World} {B : Nat} {t : TypeId} {u v : Value} (h : Row2 w B t u v) : B < w.heap.size := (Array.getElem?_eq_some_iff.1 h).1
theorem Row2.only {S : Nat → Prop} {w w' : World} {B : Nat} {t : TypeId} {u v : Value} (h : Row2 w B t u v) (k : Only S w w') (hS : ¬ S B) : Row2 w' B t u v := (k.block B h.lt hS).trans h
theorem Row2.pure {w w' : World} {B : Nat} {t : TypeId} {u v : Value} (h : Row2 w B t u v) (k : Only (fun _ => False) w w') : Row2 w' B t u v := h.only k id
theorem Row2.put {w : World} {B : Nat} {t : TypeId} {u v : Value} (h : Row2 w B t u v) (a b : Value) : Row2 ((w.setCell ⟨B, 0, none⟩ a).setCell ⟨B, 1, none⟩ b) B t a b := by
  unfold Row2
  have h' : w.heap[B]? = some (.cells #[u, v] t (0, 0)) := h
  have h1 : (w.setCell ⟨B, 0, none⟩ a).heap[B]? = some (.cells #[a, v] t (0, 0)) := by
    simp only [World.setCell, Array.getElem?_modify, h']; rfl
  generalize w.setCell ⟨B, 0, none⟩ a = w1 at *
  simp only [World.setCell, Array.getElem?_modify, h1]; rfl
theorem Row2.put_other {w : World} {B C : Nat} {t : TypeId} {u v : Value} (h : Row2 w B t u v) (hne : B ≠ C) (a b : Value) : Row2 ((w.setCell ⟨C, 0, none⟩ a).setCell ⟨C, 1, none⟩ b) B t u v := by
  unfold Row2
  rw [Below.heap_setCell _ _ _ _ (by simpa using hne), Below.heap_setCell _ _ _ _ (by simpa using hne)]; exact h
theorem Only.put2 {S : Nat → Prop} {a w : World} (h : Only S a w) {B : Nat} (hB : a.heap.size ≤ B ∨ S B) (u v : Value) : Only S a ((w.setCell ⟨B, 0, none⟩ u).setCell ⟨B, 1, none⟩ v) := (h.setCell (p := ⟨B, 0, none⟩) hB u).setCell (p := ⟨B, 1, none⟩) hB v
theorem Reads.put2 {w : World} {e : TypeId} {size : Nat} {x : Value} {n : Nat} {xs : List Value} (h : Reads w e size x n xs) {B : Nat} {t : TypeId} {u v : Value} (hr : Row2 w B t u v) (hne : t ≠ e) (a b : Value) : Reads ((w.setCell ⟨B, 0, none⟩ a).setCell ⟨B, 1, none⟩ b) e size x n xs :=
  h.only (((Only.refl (fun k => k = B) w).put2 (.inr rfl) a b)) (fun g cur fr hg he => by subst hg; rw [hr] at he; cases he; exact hne rfl)

theorem Row2.new (w : World) (t : TypeId) (u v : Value) : Row2 (w.alloc (.cells #[u, v] t)) w.heap.size t u v := World.alloc_heap_new w _
theorem Row2.alloc {w : World} {B : Nat} {t : TypeId} {u v : Value} (h : Row2 w B t u v) (o : Obj) : Row2 (w.alloc o) B t u v := h.pure ((Only.refl _ w).alloc o)

abbrev vi (l : List Int) : List Value := l.map (Value.int .i64)

theorem refMove (ba most : Int) (bb : Nat) (va vb : Value) (xs ys : List Int) (w : World) (ha : Reads w 3 1 va xs.length (vi xs)) (hb : Reads w 3 1 vb ys.length (vi ys))
    (hxs : xs.length ≤ 4096) (hys : ys.length ≤ bb) (hbb : bb ≤ 4096) :
    Calls Try.prog 20 #[.agg #[.int .i64 ba, va], .agg #[.int .i64 bb, vb], .int .i64 most] w fun e w' => ∃ (k : Nat) (va' vb' : Value), e = .returned (.tuple #[.agg #[.int .i64 ba, va'], .agg #[.int .i64 bb, vb'], .int .i64 k]) ∧
      k = min (min xs.length (bb - ys.length)) most.toNat ∧ Reads w' 3 1 va' (xs.length - k) (vi (xs.drop k)) ∧ Reads w' 3 1 vb' (ys.length + k) (vi (ys ++ xs.take k)) ∧ Only (fun _ => False) w w' := by
  have hlt1 : ∀ o, (w.alloc o).heap.size = w.heap.size + 1 := fun o => by simp
  obtain ⟨W0, hW0⟩ : ∃ W0, W0 = (((w.alloc (.cells #[.int .i64 ba, va] 44)).alloc (.cells #[.int .i64 bb, vb] 44)).alloc (.cells #[.int .i64 0, .slice none 0 0] 44)).alloc (.cells #[.int .i64 0, .slice none 0 0] 44) := ⟨_, rfl⟩
  have hO : Only (fun _ => False) w W0 := by rw [hW0]; exact ((((Only.refl _ w).alloc _).alloc _).alloc _).alloc _
  have r0 : Row2 W0 w.heap.size 44 (.int .i64 ba) va := by rw [hW0]; exact (((Row2.new w _ _ _).alloc _).alloc _).alloc _
  have r1 : Row2 W0 (w.heap.size + 1) 44 (.int .i64 bb) vb := by
    rw [hW0]
    have h := Row2.new (w.alloc (.cells #[.int .i64 ba, va] 44)) 44 (.int .i64 bb) vb
    rw [World.size_alloc] at h
    exact (h.alloc _).alloc _
  have r2 : Row2 W0 (w.heap.size + 1 + 1) 44 (.int .i64 0) (.slice none 0 0) := by
    rw [hW0]
    have h := Row2.new ((w.alloc (.cells #[.int .i64 ba, va] 44)).alloc (.cells #[.int .i64 bb, vb] 44)) 44 (.int .i64 0) (.slice none 0 0)
    rw [World.size_alloc, World.size_alloc] at h
    exact h.alloc _
  have r3 : Row2 W0 (w.heap.size + 1 + 1 + 1) 44 (.int .i64 0) (.slice none 0 0) := by
    rw [hW0]
    have h := Row2.new (((w.alloc (.cells #[.int .i64 ba, va] 44)).alloc (.cells #[.int .i64 bb, vb] 44)).alloc (.cells #[.int .i64 0, .slice none 0 0] 44)) 44 (.int .i64 0) (.slice none 0 0)
    rw [World.size_alloc, World.size_alloc, World.size_alloc] at h
    exact h
  have ha0 := ha.pure hO
  have hb0 := hb.pure hO
  clear ha hb
  have HW := Lib.hid hW0; clear hW0
  go_enter Try.func20, Try.ntmps20
  go_wp2
  rw [← HW.out]
  go_loopw [9] (fun n wr => ∃ (k : Nat) (a b : Value), n = .int .i64 k ∧ k ≤ xs.length ∧ ys.length + k ≤ bb ∧ k ≤ most.toNat ∧ Row2 wr w.heap.size 44 (.int .i64 ba) a ∧ Row2 wr (w.heap.size + 1) 44 (.int .i64 bb) b ∧
      Row2 wr (w.heap.size + 1 + 1) 44 (.int .i64 0) (.slice none 0 0) ∧ Row2 wr (w.heap.size + 1 + 1 + 1) 44 (.int .i64 0) (.slice none 0 0) ∧
      Reads wr 3 1 a (xs.length - k) (vi (xs.drop k)) ∧ Reads wr 3 1 b (ys.length + k) (vi (ys ++ xs.take k)) ∧ Only (fun _ => False) w wr) (fun n _ => xs.length - (intOf n).toNat)
  case atStart => exact ⟨0, _, _, rfl, by omega, by omega, by omega, r0, r1, r2, r3, by simpa using ha0, by simpa using hb0, hO⟩
  case round =>
    clear HW hO r0 r1 r2 r3 ha0 hb0 hlt1
    obtain ⟨k, a, b, rfl, hk1, hk2, hk3, q0, q1, q2, q3, hra, hrb, ho⟩ := hrel
    obtain ⟨aa, ca, rfl, -, -⟩ := hra.shape
    obtain ⟨ab, cb, rfl, -, -⟩ := hrb.shape
    obtain ⟨na, hna⟩ : ∃ na, na = xs.length - k := ⟨_, rfl⟩
    obtain ⟨nb, hnb⟩ : ∃ nb, nb = ys.length + k := ⟨_, rfl⟩
    rw [← hna] at hra q0
    rw [← hnb] at hrb q1
    have c0 := q0.cell0
    have c1 := q0.cell1
    have c2 := q1.cell0
    have c3 := q1.cell1
    have HRA := Lib.hid hra; clear hra
    have HRB := Lib.hid hrb; clear hrb
    by_cases h1 : (k : Int) < most
    · have d1 : decide ((k : Int) < most) = true := by simpa using h1
      by_cases h2 : 0 < na
      · have d2 : decide ((0 : Int) < (na : Int)) = true := by simp; omega
        by_cases h3 : nb < bb
        · have d3 : decide ((nb : Int) < (bb : Int)) = true := by simp; omega
          obtain ⟨x, hx⟩ : ∃ x, xs.drop k = x :: xs.drop (k + 1) := ⟨xs[k]'(by omega), by rw [List.drop_eq_getElem_cons (by omega)]⟩
          have hx2 : xs.take (k + 1) = xs.take k ++ [x] := by
            rw [List.take_succ_eq_append_getElem (by omega)]
            have := congrArg (fun l => l[0]?) hx
            simp [show k < xs.length by omega] at this
            rw [this]
          have hA : Reads wr 3 1 (.slice aa na ca) na (.int .i64 x :: vi (xs.drop (k + 1))) := by have := HRA.out; rw [hx] at this; exact this
          have hneA : na ≠ 0 := by omega
          have hneB : (bb : Int) ≠ nb := by omega
          have hnb5 : nb ≤ 5000 := by omega
          have HX2 := Lib.hid hx2; clear hx2
          have HX := Lib.hid hx; clear hx
          have HNA := Lib.hid hna; clear hna
          have HNB := Lib.hid hnb; clear hnb
          have HA := Lib.hid hA; clear hA
          have HneA := Lib.hid hneA; clear hneA
          have hB10 : w.heap.size + 1 ≠ w.heap.size := by omega
          have hB20 : w.heap.size + 1 + 1 ≠ w.heap.size := by omega
          have hB30 : w.heap.size + 1 + 1 + 1 ≠ w.heap.size := by omega
          have hT : (44 : TypeId) ≠ 3 := by decide
          have HneB := Lib.hid hneB; clear hneB
          go_wp2_with (first
            | (go_at_call 18; (with_reducible refine (refTake_one ba (.slice aa na ca) na x (vi (xs.drop (k + 1))) wr HA.out HneA.out).mono ?_); rintro e w3 ⟨v3, rfl, hr3, ho3⟩; obtain ⟨a3, cp3, rfl, -, -⟩ := hr3.shape; have g0 := (q0.pure ho3).cell0; have g1 := (q0.pure ho3).cell1; have g2 := (q1.pure ho3).cell0; have g3 := (q1.pure ho3).cell1; have g4 := (q0.pure ho3).frozen 0; have g5 := (q0.pure ho3).frozen 1; have z0 := (q0.pure ho3).lt; have z1 := (q1.pure ho3).lt;
                have S0 := Lib.hid (((q0.pure ho3).put (.int .i64 ba) (.slice a3 (na - 1) cp3)).alloc (.cells #[.int .i64 ba, .slice a3 (na - 1) cp3] 44));
                have S1 := Lib.hid (((q1.pure ho3).put_other (hB10 : w.heap.size + 1 ≠ w.heap.size) (.int .i64 ba) (.slice a3 (na - 1) cp3)).alloc (.cells #[.int .i64 ba, .slice a3 (na - 1) cp3] 44));
                have S2 := Lib.hid ((hr3.put2 (q0.pure ho3) hT (.int .i64 ba) (.slice a3 (na - 1) cp3)).alloc (.cells #[.int .i64 ba, .slice a3 (na - 1) cp3] 44));
                have S3 := Lib.hid (((HRB.out.pure ho3).put2 (q0.pure ho3) hT (.int .i64 ba) (.slice a3 (na - 1) cp3)).alloc (.cells #[.int .i64 ba, .slice a3 (na - 1) cp3] 44));
                have S4 := Lib.hid (((q2.pure ho3).put_other (hB20 : w.heap.size + 1 + 1 ≠ w.heap.size) (.int .i64 ba) (.slice a3 (na - 1) cp3)).alloc (.cells #[.int .i64 ba, .slice a3 (na - 1) cp3] 44));
                have S5 := Lib.hid (((q3.pure ho3).put_other (hB30 : w.heap.size + 1 + 1 + 1 ≠ w.heap.size) (.int .i64 ba) (.slice a3 (na - 1) cp3)).alloc (.cells #[.int .i64 ba, .slice a3 (na - 1) cp3] 44)))
            | (go_at_call 15; (with_reducible refine (refPut_room bb (.slice ab nb cb) nb (vi (ys ++ xs.take k)) x _ S3.out HneB.out hnb5).mono ?_); rintro e w4 ⟨v4, rfl, hr4, ho4⟩; obtain ⟨a4, cp4, rfl, -, -⟩ := hr4.shape; have g0 := (S1.out.pure ho4).cell0; have g1 := (S1.out.pure ho4).cell1; have g4 := (S1.out.pure ho4).frozen 0; have g5 := (S1.out.pure ho4).frozen 1))
          have e1 : na - 1 = xs.length - (k + 1) := by have := HNA.out; omega
          have e2 : nb + 1 = ys.length + (k + 1) := by have := HNB.out; omega
          have e3 : vi (ys ++ xs.take k) ++ [.int .i64 x] = vi (ys ++ xs.take (k + 1)) := by rw [HX2.out]; simp [vi]
          have F1 := S1.out.pure ho4
          have F2 := S2.out.pure ho4
          have R1 := F1.put (.int .i64 bb) (.slice a4 (nb + 1) cp4)
          have R2 := (S0.out.pure ho4).put_other (by omega : w.heap.size ≠ w.heap.size + 1) (.int .i64 bb) (.slice a4 (nb + 1) cp4)
          have R3 := (S4.out.pure ho4).put_other (by omega : w.heap.size + 1 + 1 ≠ w.heap.size + 1) (.int .i64 bb) (.slice a4 (nb + 1) cp4)
          have R4 := (S5.out.pure ho4).put_other (by omega : w.heap.size + 1 + 1 + 1 ≠ w.heap.size + 1) (.int .i64 bb) (.slice a4 (nb + 1) cp4)
          have R5 := F2.put2 F1 hT (.int .i64 bb) (.slice a4 (nb + 1) cp4)
          have R6 := hr4.put2 F1 hT (.int .i64 bb) (.slice a4 (nb + 1) cp4)
          have R7 : Only (fun _ => False) w _ := ((((ho.trans ho3).mono (T := fun i => w.heap.size ≤ i) (fun _ _ h => h.elim)).put2 (B := w.heap.size) (.inl (Nat.le_refl _)) (.int .i64 ba) (.slice a3 (na - 1) cp3) |>.alloc (.cells #[.int .i64 ba, .slice a3 (na - 1) cp3] 44)).trans (ho4.mono (fun _ _ h => h.elim)) |>.put2 (B := w.heap.size + 1) (.inl (by omega)) (.int .i64 bb) (.slice a4 (nb + 1) cp4)).mono (fun i hi h => by omega)
          go_roundw
          case rel => exact ⟨k + 1, _, _, by go_num, by have := HNA.out; have := HneA.out; omega, by have := HNB.out; omega, by omega, R2, R1, R3, R4, by rw [← e1]; exact R5, by rw [← e2, ← e3]; exact R6, R7⟩
          case measure => have := HNA.out; have := HneA.out; simp [intOf]; omega
        · have d3 : decide ((nb : Int) < (bb : Int)) = false := by simp; omega
          have HNA := Lib.hid hna; clear hna
          have HNB := Lib.hid hnb; clear hnb
          have c4 := q2.cell0
          have c5 := q2.cell1
          have c6 := q3.cell0
          have c7 := q3.cell1
          have c8 := q2.frozen 0
          have c9 := q2.frozen 1
          have c10 := q3.frozen 0
          have c11 := q3.frozen 1
          go_wp2
          go_region
          all_goals go_wp2
          have hT : (44 : TypeId) ≠ 3 := by decide
          have y3 := (q3.put_other (by omega : w.heap.size + 1 + 1 + 1 ≠ w.heap.size + 1 + 1) (.int .i64 ba) (.slice aa na ca))
          have y2 := (q2.put (.int .i64 ba) (.slice aa na ca)).put_other (by omega : w.heap.size + 1 + 1 ≠ w.heap.size + 1 + 1 + 1) (.int .i64 bb) (.slice ab nb cb)
          have ra := ((HRA.out.put2 q2 hT (.int .i64 ba) (.slice aa na ca)).put2 y3 hT (.int .i64 bb) (.slice ab nb cb)).drew
          have rb := ((HRB.out.put2 q2 hT (.int .i64 ba) (.slice aa na ca)).put2 y3 hT (.int .i64 bb) (.slice ab nb cb)).drew
          have rw2 : Only (fun _ => False) w _ := ((((ho.mono (T := fun i => w.heap.size ≤ i) (fun _ _ h => h.elim)).put2 (B := w.heap.size + 1 + 1) (.inl (by omega)) (.int .i64 ba) (.slice aa na ca)).put2 (B := w.heap.size + 1 + 1 + 1) (.inl (by omega)) (.int .i64 bb) (.slice ab nb cb)).mono (fun i hi h => by omega)).drew
          have y4 := y3.put (.int .i64 bb) (.slice ab nb cb)
          have z0 := y2.cell0
          have z1 := y2.cell1
          have z2 := y4.cell0
          have z3 := y4.cell1
          exact bodyPost_ret (v := .tuple #[.agg #[.int .i64 ba, .slice aa na ca], .agg #[.int .i64 bb, .slice ab nb cb], .int .i64 k]) (by simp [results, Try.results20, go_sem, z0, z1, z2, z3]) rfl ⟨k, _, _, rfl, by have := HNA.out; have := HNB.out; omega, by rw [← HNA.out]; exact ra, by rw [← HNB.out]; exact rb, rw2⟩
      · have d2 : decide ((0 : Int) < (na : Int)) = false := by simp; omega
        have HNA := Lib.hid hna; clear hna
        have HNB := Lib.hid hnb; clear hnb
        have c4 := q2.cell0
        have c5 := q2.cell1
        have c6 := q3.cell0
        have c7 := q3.cell1
        have c8 := q2.frozen 0
        have c9 := q2.frozen 1
        have c10 := q3.frozen 0
        have c11 := q3.frozen 1
        go_wp2
        go_region
        all_goals go_wp2
        have hT : (44 : TypeId) ≠ 3 := by decide
        have y3 := (q3.put_other (by omega : w.heap.size + 1 + 1 + 1 ≠ w.heap.size + 1 + 1) (.int .i64 ba) (.slice aa na ca))
        have y2 := (q2.put (.int .i64 ba) (.slice aa na ca)).put_other (by omega : w.heap.size + 1 + 1 ≠ w.heap.size + 1 + 1 + 1) (.int .i64 bb) (.slice ab nb cb)
        have ra := ((HRA.out.put2 q2 hT (.int .i64 ba) (.slice aa na ca)).put2 y3 hT (.int .i64 bb) (.slice ab nb cb)).drew
        have rb := ((HRB.out.put2 q2 hT (.int .i64 ba) (.slice aa na ca)).put2 y3 hT (.int .i64 bb) (.slice ab nb cb)).drew
        have rw2 : Only (fun _ => False) w _ := ((((ho.mono (T := fun i => w.heap.size ≤ i) (fun _ _ h => h.elim)).put2 (B := w.heap.size + 1 + 1) (.inl (by omega)) (.int .i64 ba) (.slice aa na ca)).put2 (B := w.heap.size + 1 + 1 + 1) (.inl (by omega)) (.int .i64 bb) (.slice ab nb cb)).mono (fun i hi h => by omega)).drew
        have y4 := y3.put (.int .i64 bb) (.slice ab nb cb)
        have z0 := y2.cell0
        have z1 := y2.cell1
        have z2 := y4.cell0
        have z3 := y4.cell1
        exact bodyPost_ret (v := .tuple #[.agg #[.int .i64 ba, .slice aa na ca], .agg #[.int .i64 bb, .slice ab nb cb], .int .i64 k]) (by simp [results, Try.results20, go_sem, z0, z1, z2, z3]) rfl ⟨k, _, _, rfl, by have := HNA.out; have := HNB.out; omega, by rw [← HNA.out]; exact ra, by rw [← HNB.out]; exact rb, rw2⟩
    · have d1 : decide ((k : Int) < most) = false := by simpa using h1
      have HNA := Lib.hid hna; clear hna
      have HNB := Lib.hid hnb; clear hnb
      have c4 := q2.cell0
      have c5 := q2.cell1
      have c6 := q3.cell0
      have c7 := q3.cell1
      have c8 := q2.frozen 0
      have c9 := q2.frozen 1
      have c10 := q3.frozen 0
      have c11 := q3.frozen 1
      go_wp2
      go_region
      all_goals go_wp2
      have hT : (44 : TypeId) ≠ 3 := by decide
      have y3 := (q3.put_other (by omega : w.heap.size + 1 + 1 + 1 ≠ w.heap.size + 1 + 1) (.int .i64 ba) (.slice aa na ca))
      have y2 := (q2.put (.int .i64 ba) (.slice aa na ca)).put_other (by omega : w.heap.size + 1 + 1 ≠ w.heap.size + 1 + 1 + 1) (.int .i64 bb) (.slice ab nb cb)
      have ra := ((HRA.out.put2 q2 hT (.int .i64 ba) (.slice aa na ca)).put2 y3 hT (.int .i64 bb) (.slice ab nb cb)).drew
      have rb := ((HRB.out.put2 q2 hT (.int .i64 ba) (.slice aa na ca)).put2 y3 hT (.int .i64 bb) (.slice ab nb cb)).drew
      have rw2 : Only (fun _ => False) w _ := ((((ho.mono (T := fun i => w.heap.size ≤ i) (fun _ _ h => h.elim)).put2 (B := w.heap.size + 1 + 1) (.inl (by omega)) (.int .i64 ba) (.slice aa na ca)).put2 (B := w.heap.size + 1 + 1 + 1) (.inl (by omega)) (.int .i64 bb) (.slice ab nb cb)).mono (fun i hi h => by omega)).drew
      have y4 := y3.put (.int .i64 bb) (.slice ab nb cb)
      have z0 := y2.cell0
      have z1 := y2.cell1
      have z2 := y4.cell0
      have z3 := y4.cell1
      exact bodyPost_ret (v := .tuple #[.agg #[.int .i64 ba, .slice aa na ca], .agg #[.int .i64 bb, .slice ab nb cb], .int .i64 k]) (by simp [results, Try.results20, go_sem, z0, z1, z2, z3]) rfl ⟨k, _, _, rfl, by have := HNA.out; have := HNB.out; omega, by rw [← HNA.out]; exact ra, by rw [← HNB.out]; exact rb, rw2⟩
end Go.Proofs.Ytlieklclckenoaa
