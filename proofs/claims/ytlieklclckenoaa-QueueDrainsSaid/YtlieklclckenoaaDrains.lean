/-
The walk of QueueDrains. Conditions: the list's cells.
-/
import Derived.Test.YtlieklclckenoaaAlive25
import Derived.Test.YtlieklclckenoaaQueueS
import Derived.Test.YtlieklclckenoaaRegion
import Derived.Lib.Hide
import Derived.Maps.AppendAt
import Derived.RangeFuncBox
namespace Go.Proofs.Ytlieklclckenoaa
open Go.RowKit Go.Shelf Go.Conc
attribute [local go_sem] Oper.semAt_some wide_fn wide_depth

theorem one_mod (x m : Int) (hm : 0 < m) (hm2 : m < 1000) : ∃ b : Nat, 1 ≤ b ∧ (b : Int) ≤ m ∧ wrap64 (1 + wrap64 ((IntKind.u64.wrap x).tmod m)) = (b : Int) := by
  have h0 : 0 ≤ IntKind.u64.wrap x := by
    simp only [IntKind.wrap, IntKind.signed, IntKind.bits]
    simp
    omega
  rw [Int.tmod_eq_emod_of_nonneg h0]
  have h2 : 0 ≤ IntKind.u64.wrap x % m := Int.emod_nonneg _ (by omega)
  have h3 : IntKind.u64.wrap x % m < m := Int.emod_lt_of_pos _ hm
  generalize IntKind.u64.wrap x % m = q at h2 h3
  obtain ⟨n, rfl⟩ := Int.eq_ofNat_of_zero_le h2
  refine ⟨1 + n, by omega, by omega, ?_⟩
  rw [show wrap64 (n : Int) = (n : Int) from by unfold wrap64; omega]
  unfold wrap64; omega

theorem setChan_other' (w : World) (c c' cap : Nat) (buf : Array Value) (closed : Bool) (s r : Nat) (tm : Bool) (h : c ≠ c') : (w.setChan c cap buf closed s r tm).heap[c']? = w.heap[c']? := by
  simp [World.setChan, Array.getElem?_setIfInBounds_ne h]

/-- What holds between two rounds of the first loop: l has been put, and gathered. -/
structure DrInv (w : World) (c bx bd : Nat) (stop : Int) (l : List ByteArray) (wr : World) : Prop where
  q : IsQ 68 wr (c + 1) c bd (l.map Value.string)
  acc : ∃ a cp, Boxed wr bx 22 (.slice a l.length cp) ∧ wr.ownsRow w.heap.size 9 1 (.slice a l.length cp) l.length (l.map Value.string)
  stop : Boxed wr w.heap.size 3 (.int .i64 stop)
  res : Boxed wr (w.heap.size + 1) 4 (.bool false)
  below : Below w.heap.size w wr
  c1 : w.heap.size + 1 < c
  c2 : c + 1 < bx

theorem DrInv.drewN {w : World} {c bx bd : Nat} {stop : Int} {l : List ByteArray} {wr : World} (h : DrInv w c bx bd stop l wr) (n : Nat) : DrInv w c bx bd stop l (wr.drewN n) :=
  ⟨⟨h.q.box, h.q.chan⟩, h.acc, h.stop, h.res, ⟨h.below.os, h.below.tape, h.below.output, h.below.size, h.below.block⟩, h.c1, h.c2⟩

/-- What holds between two rounds of the second loop: R is still in the queue, j things have come, o is the loop's record. -/
structure DrS (w : World) (c bx nb bd st : Nat) (a : Option Addr) (cp : Nat) (L R : List ByteArray) (j : Nat) (o : Obj) (W : World) : Prop where
  q : IsQ 68 W (c + 1) c bd (R.map Value.string)
  qb : Boxed W (nb + 1) 25 (.pointer (some ⟨c + 1, 0, none⟩))
  n : Boxed W nb 3 (.int .i64 j)
  inb : Boxed W bx 22 (.slice a L.length cp)
  row : W.ownsRow w.heap.size 9 1 (.slice a L.length cp) L.length (L.map Value.string)
  stop : Boxed W w.heap.size 3 (.int .i64 st)
  res : Boxed W (w.heap.size + 1) 4 (.bool false)
  rcd : W.heap[nb + 3]? = some o
  dfr : W.heap[nb + 2]? = some (.deferred (some []))
  below : Below w.heap.size w W
  c1 : w.heap.size + 1 < c
  c2 : c + 1 < bx
  c3 : bx < nb

theorem DrS.turn {w : World} {c bx nb bd st : Nat} {a : Option Addr} {cp : Nat} {L R R' : List ByteArray} {j j' : Nat} {o o' : Obj} {W W' : World} (h : DrS w c bx nb bd st a cp L R j o W)
    (k : Only (fun b => b = c ∨ b = nb ∨ b = nb + 3) W W') (hq : IsQ 68 W' (c + 1) c bd (R'.map Value.string)) (hn : Boxed W' nb 3 (.int .i64 j')) (hl : W'.heap[nb + 3]? = some o') (ho : o.isCells = false) :
    DrS w c bx nb bd st a cp L R' j' o' W' := by
  have c1 := h.c1
  have c2 := h.c2
  have c3 := h.c3
  refine ⟨hq, boxed_only h.qb k (by omega), hn, boxed_only h.inb k (by omega), ownsRow_only h.row k ?_, boxed_only h.stop k (by omega), boxed_only h.res k (by omega), hl,
    (k.block _ (Array.getElem?_eq_some_iff.1 h.dfr).1 (by omega)).trans h.dfr, h.below.trans (k.below h.below.size (by omega)), c1, c2, c3⟩
  intro g hg
  rintro (rfl | rfl | rfl)
  · exact ownsRow_notChan h.row (fun cur => by obtain ⟨s, r, hh⟩ := h.q.chan; rw [hh]; simp) _ hg rfl
  · exact ownsRow_notChan h.row (fun cur => by rw [show W.heap[g]? = _ from h.n]; simp) _ hg rfl
  · exact ownsRow_notChan h.row (fun cur => by rw [h.rcd]; rintro ⟨⟩; cases ho) _ hg rfl

/-- A put, and the append to what has been gathered. -/
theorem DrInv.put {w : World} {c bx bd : Nat} {stop : Int} {l : List ByteArray} {wr w2 w3 : World} {n : Nat} {x : ByteArray} {a : Option Addr} {cp : Nat} {v' : Value} (h : DrInv w c bx bd stop l wr)
    (hq : IsQ 68 w2 (c + 1) c bd (l.map Value.string ++ [.string x])) (ho : Only (· = c) wr w2) (hb : Boxed wr bx 22 (.slice a l.length cp)) (hrow : wr.ownsRow w.heap.size 9 1 (.slice a l.length cp) l.length (l.map Value.string))
    (hown' : w3.ownsRow w.heap.size 9 1 v' (l.length + 1) (l.map Value.string ++ [.string x]))
    (hgrow : ((w2.drewN n).alloc (.cells #[.string x] 9)).grownBy w3 (Value.slice a l.length cp).ownBlock) :
    DrInv w c bx bd stop (l ++ [x]) (w3.setCell ⟨bx, 0, none⟩ v') := by
  have hrow2 : (w2.drewN n).ownsRow w.heap.size 9 1 (.slice a l.length cp) l.length (l.map Value.string) :=
    ownsRow_only hrow (ho.drewN n) (ownsRow_notChan hrow (fun cur => by obtain ⟨s, r, hh⟩ := h.q.chan; rw [hh]; simp))
  have c1 := h.c1
  have c2 := h.c2
  have hbn : bx ≠ c := by omega
  have hb2 : Boxed (w2.drewN n) bx 22 (.slice a l.length cp) := boxed_only hb (ho.drewN n) (by simpa using hbn)
  have hsz : w.heap.size ≤ (w2.drewN n).heap.size := Nat.le_trans h.below.size ho.size
  have hbx : w.heap.size ≤ bx := by have := h.c1; have := h.c2; omega
  obtain ⟨h1, h2, h3, -, h5⟩ := hb2.appended (by decide) hrow2 hsz hbx hown' hgrow
  -- what the append leaves of other blocks
  have og : ∀ g, (Value.slice a l.length cp).ownBlock = some g → ∃ cur, wr.heap[g]? = some (.cells cur 9 (0, 0)) := by
    intro g hg
    rcases hrow.2 with ⟨he, _⟩ | ⟨g', cap, cur, he, _, hh, _⟩
    · rw [he] at hg; cases hg
    · rw [he] at hg; obtain rfl : g' = g := by simpa [Value.ownBlock] using hg
      exact ⟨_, hh⟩
  have hall : Only (fun k => k = bx ∨ (Value.slice a l.length cp).ownBlock = some k) (w2.drewN n) (w3.setCell ⟨bx, 0, none⟩ v') :=
    (((Only.refl _ (w2.drewN n)).alloc _).grown hgrow (fun k hk => .inr (.inr hk))).setCell (.inr (.inl rfl)) _
  have box : ∀ {b : Nat} {t : TypeId} {u : Value}, Boxed wr b t u → t ≠ 9 → b ≠ bx → b ≠ c → Boxed (w3.setCell ⟨bx, 0, none⟩ v') b t u := by
    intro b t u hu ht hne hnc
    refine boxed_only (boxed_only hu (ho.drewN n) (by simpa using hnc)) hall ?_
    rintro (rfl | hg)
    · exact hne rfl
    · obtain ⟨cur, hh⟩ := og _ hg
      have := (show wr.heap[b]? = _ from hu).symm.trans hh
      simp at this
      exact ht this.2
  refine ⟨?_, ?_, box h.stop (by decide) (by omega) (by have := h.c1; omega), box h.res (by decide) (by have := h.c1; have := h.c2; omega) (by have := h.c1; omega), ?_, h.c1, h.c2⟩
  · have hq' : IsQ 68 (w2.drewN n) (c + 1) c bd (l.map Value.string ++ [.string x]) := ⟨hq.box, hq.chan⟩
    rw [List.map_append]
    refine hq'.kept hall ?_ ?_
    · rintro (he | hg)
      · have := h.c2; omega
      · obtain ⟨cur, hh⟩ := og _ hg
        have := (show wr.heap[c + 1]? = _ from h.q.box).symm.trans hh
        simp at this
    · rintro (he | hg)
      · have := h.c2; omega
      · obtain ⟨cur, hh⟩ := og _ hg
        obtain ⟨s, r, hc⟩ := h.q.chan
        rw [hh] at hc; cases hc
  · obtain ⟨a', cp', rfl⟩ := ownsRow_shape hown'
    exact ⟨a', cp', by simpa using h2, by simpa using h3⟩
  · exact (h.below.trans (ho.below h.below.size (fun k hk => by subst hk; have := h.c1; omega))).trans (Below.trans (b := w2.drewN n) ⟨rfl, rfl, rfl, Nat.le_refl _, fun _ _ => rfl⟩ h5)

theorem infoS : (Try.prog.info? 9).map (fun i => (i.zero, i.size, i.bytes)) = some (some (.string { data := #[] }), 1, 16) := by kernel_rfl

set_option maxRecDepth 100000 in
theorem drains_walk (bound stop : Int) (oad : Option Addr) (cap : Nat) (ss : List ByteArray) (hlen : ss.length ≤ 100) (w : World)
    (hcells0 : ∀ i, i < ss.length → ∃ ad, oad = some ad ∧ w.cell? (ad.add i) = some (.string (ss.getD i ByteArray.empty))) :
    Calls Try.prog 3 #[.int .i64 bound, .slice oad ss.length cap, .int .i64 stop] w fun e w' => e = .returned (.bool true) ∧ Below w.heap.size w w' := by
  have HC := Lib.hid hcells0; clear hcells0
  have h100 : decide (100 < (ss.length : Int)) = false := by simp; omega
  obtain ⟨bd, hbd1, hbd2, hbd⟩ := one_mod bound 120 (by omega) (by omega)
  obtain ⟨st, hst1, hst2, hst⟩ := one_mod stop 20 (by omega) (by omega)
  obtain ⟨i0, hi0, hz0, hz1, hz2⟩ := info_parts infoS
  refine calls_of_wp_marks Try.func3 rfl ?_
  simp only [Try.ntmps3, List.size_toArray, List.length_cons, List.length_nil, Nat.reduceAdd, Nat.reduceSub, Array.replicate_succ, Array.replicate_zero, List.push_toArray, List.append_toArray, List.nil_append, List.cons_append]
  go_wp2_with (first
    | (go_at_call 7; refine (alive25 _).mono ?_; rintro e w1 ⟨rfl, hb1⟩)
    | (go_at_call 8; (with_reducible refine (newS_q bd bd rfl hbd1 (by omega) w1).mono ?_); rintro e w2 ⟨rfl, hq2, hb2, -⟩))
  have hsz1 := hb1.size
  have hsz2 := hb2.size
  simp only [World.size_alloc] at hsz1
  have hb2' : Below w1.heap.size w1 ((w2.alloc (.cells #[] 9)).alloc (.cells #[.slice (some ⟨w2.heap.size, 0, none⟩) 0 0] 22)) := (hb2.alloc hsz2 _).alloc (by simp; omega) _
  have hInv : DrInv w w1.heap.size (w2.heap.size + 1) bd stop [] ((w2.alloc (.cells #[] 9)).alloc (.cells #[.slice (some ⟨w2.heap.size, 0, none⟩) 0 0] 22)) := by
    have hst1 : Boxed ((w.alloc (.cells #[.int .i64 stop] 3)).alloc (.cells #[.bool false] 4)) w.heap.size 3 (.int .i64 stop) := (Boxed.new w _ _).alloc _
    have hre1 : Boxed ((w.alloc (.cells #[.int .i64 stop] 3)).alloc (.cells #[.bool false] 4)) (w.heap.size + 1) 4 (.bool false) := by have := Boxed.new (w.alloc (.cells #[.int .i64 stop] 3)) 4 (.bool false); simpa only [World.size_alloc] using this
    have hA := (Only.of_below hb1 (fun _ => False)).trans ((Only.of_below hb2' (fun _ => False)).mono (fun _ _ h => h))
    have hbx := Boxed.new (w2.alloc (.cells #[] 9)) 22 (.slice (some ⟨w2.heap.size, 0, none⟩) 0 0)
    simp only [World.size_alloc] at hbx
    have hrow := (World.ownsRow_made (base := w.heap.size) (e := 9) (size := 1) w2 #[] 0 (by omega) (by decide) rfl).alloc (.cells #[.slice (some ⟨w2.heap.size, 0, none⟩) 0 0] 22)
    refine ⟨(hq2.kept (((Only.refl (fun _ => False) w2).alloc _).alloc _) (by simp) (by simp)), ⟨_, _, hbx, hrow⟩, boxed_only hst1 hA (by simp), boxed_only hre1 hA (by simp), ?_, by omega, ?_⟩
    · exact (((Below.refl _ w).alloc (Nat.le_refl _) _).alloc (by simp) _).trans ((hb1.mono (by simp; omega)).trans (hb2'.mono (by omega)))
    · have := hq2.blt; omega
  generalize hwA : ((w2.alloc (.cells #[] 9)).alloc (.cells #[.slice (some ⟨w2.heap.size, 0, none⟩) 0 0] 22)) = wA at hInv ⊢
  obtain ⟨bx, hbx⟩ : ∃ bx, bx = w2.heap.size + 1 := ⟨_, rfl⟩
  rw [← hbx] at hInv ⊢
  obtain ⟨c, hc⟩ : ∃ c, c = w1.heap.size := ⟨_, rfl⟩
  rw [← hc] at hInv ⊢
  clear hwA hbx hc hb2' hq2 hb2 hb1
  go_loopw [35] (fun i wr => ∃ k : Nat, k ≤ ss.length ∧ i = .int .i64 k ∧ DrInv w c bx bd stop (ss.take (min k bd)) wr) (fun i _ => ss.length - (intOf i).toNat)
  case atStart => exact ⟨0, Nat.zero_le _, rfl, by simpa using hInv⟩
  case round =>
    obtain ⟨k, hk, rfl, hI⟩ := hrel
    by_cases hlt : k < ss.length
    · obtain ⟨ad, rfl, hcl0⟩ := HC.out k hlt
      have hcl : wr.cell? (ad.add k) = some (.string (ss[k]?.getD ByteArray.empty)) := (hI.below.cell (p := ad.add k) (by have := lt_of_cell hcl0; rw [addr_block] at this ⊢; exact this)).trans (by simpa using hcl0)
      clear hcl0
      obtain ⟨a, cp, hbx, hrow⟩ := hI.acc
      obtain ⟨x, hx⟩ : ∃ x, x = ss[k]?.getD ByteArray.empty := ⟨_, rfl⟩
      rw [← hx] at hcl
      by_cases hkb : k < bd
      · have hmin : min k bd = k := by omega
        have hlk : (ss.take (min k bd)).length = k := by simp; omega
        have hsn : ss.take (min (k + 1) bd) = ss.take (min k bd) ++ [x] := by
          rw [hmin, show min (k + 1) bd = k + 1 from by omega, List.take_succ_eq_append_getElem hlt, hx]; simp [hlt]
        have HX := Lib.hid hx; clear hx
        have HS := Lib.hid hsn; clear hsn
        rw [hlk] at hbx hrow
        have d1 : decide ((k : Int) < bd) = true := by simp; omega
        have HL := Lib.hid hlk; clear hlk
        have HM := Lib.hid hmin; clear hmin
        go_wp2_with (first
          | (go_at_call 9; (with_reducible refine (putS_q (c + 1) c bd _ (.string x) wr hI.q (by rw [List.length_map, HL.out]; exact hkb)).mono ?_); rintro e w3 ⟨rfl, hq3, ho3, -⟩; have hb3 := (boxed_only hbx ho3 (by have := hI.c2; omega)).cell))
        go_quiet (fail)
        have hrow3 : (w3.drewN nq).ownsRow w.heap.size 9 1 (.slice a k cp) k ((ss.take (min k bd)).map Value.string) :=
          ownsRow_only hrow (ho3.drewN nq) (ownsRow_notChan hrow (fun cur => by obtain ⟨s, r, hh⟩ := hI.q.chan; rw [hh]; simp))
        have hbx3 : Boxed (w3.drewN nq) bx 22 (.slice a k cp) := boxed_only hbx (ho3.drewN nq) (by have := hI.c2; omega)
        have hb4 := hbx3.cell
        have hsz3 : w.heap.size ≤ w3.heap.size := Nat.le_trans hI.below.size ho3.size
        go_wp2_with (first
          | (at_builtin; refine wpList_append_own _ rfl _ _ 22 rfl w.heap.size 9 i0 (.string { data := #[] }) 1 16 Try.underlying22 hi0 hz0 hz1 hz2 rfl (by decide) _ _ _ rfl (hrow3.alloc _) ⟨w3.heap.size, 0, none⟩ 1 1 [.string x] rfl rfl (cell_one_new (w3.drewN nq) _ _) (by simp [Value.oneCell']) (by unfold maxLen; omega) (by omega) (by simp; omega) ?_; intro v' w4 hown' hgrow _; obtain ⟨g', cap', rfl⟩ := ownsRow_succ hown'; have hb5 := (hbx3.appended (by decide) hrow3 (by simpa using hsz3) (by have := hI.c1; have := hI.c2; omega) hown' hgrow).1.cell; have hb6 := (hbx3.appended (by decide) hrow3 (by simpa using hsz3) (by have := hI.c1; have := hI.c2; omega) hown' hgrow).1.frozen))
        have R := DrInv.put hI (x := x) hq3 ho3 (by rw [HL.out]; exact hbx) (by rw [HL.out]; exact hrow) (by rw [HL.out]; exact hown') (by rw [HL.out]; exact hgrow)
        rw [← HS.out] at R
        go_roundw
        case rel => exact ⟨k + 1, by omega, by go_num, R⟩
        case measure => simp [intOf]; omega
      · have hmin : min k bd = bd := by omega
        have hlk : (ss.take (min k bd)).length = bd := by simp; omega
        have hsn : ss.take (min (k + 1) bd) = ss.take (min k bd) := by rw [hmin, show min (k + 1) bd = bd from by omega]
        have HS := Lib.hid hsn; clear hsn
        rw [hlk] at hbx hrow
        have HX := Lib.hid hx; clear hx
        have d1 : decide ((bd : Int) < bd) = false := by simp
        have HL := Lib.hid hlk; clear hlk
        have HM := Lib.hid hmin; clear hmin
        have hb3 := hbx.cell
        go_wp2_with (first
          | (go_at_call 9; (with_reducible refine (putS_qfull (c + 1) c bd _ (.string x) wr hI.q (by rw [List.length_map, HL.out]; exact Nat.le_refl _)).mono ?_); rintro e w3 ⟨rfl, rfl⟩))
        go_quiet (fail)
        go_wp2
        have R := hI.drewN nq
        rw [← HS.out] at R
        go_roundw
        case rel => exact ⟨k + 1, by omega, by go_num, R⟩
        case measure => simp [intOf]; omega
    · obtain rfl : k = ss.length := by omega
      obtain ⟨m, hm⟩ : ∃ m, m = min ss.length bd := ⟨_, rfl⟩
      rw [← hm] at hI
      have hml : (ss.take m).length = m := by simp; omega
      obtain ⟨a, cp, hbx, hrow⟩ := hI.acc
      have hrs := hI.res.cell
      have hsc := hI.stop.cell
      have hsf := hI.stop.frozen
      have hbelow := hI.below
      have c1 := hI.c1
      have c2 := hI.c2
      have hq := hI.q
      have hstb := hI.stop
      have hreb := hI.res
      clear hI hInv
      rw [hml] at hbx hrow
      obtain ⟨L, hL⟩ : ∃ L, L = ss.take m := ⟨_, rfl⟩
      rw [← hL] at hq hrow hml
      have HM := Lib.hid hm; clear hm
      have HL := Lib.hid hL; clear hL
      have HML := Lib.hid hml; clear hml
      go_wp2_with (go_at_call 10; (with_reducible refine (drainS_make _ _).mono ?_); rintro e w5 ⟨rfl, rfl⟩)
      refine wp_rangeFunc_at (gf := 26) (lb := #[.pointer (some ⟨wr.heap.size + 1, 0, none⟩)]) rfl (enters_of Try.func26 (by kernel_rfl) rfl) ?_
      obtain ⟨nb, hnb⟩ : ∃ nb, nb = wr.heap.size := ⟨_, rfl⟩
      simp only [World.size_alloc, ← hnb, World.size_setCell]
      have HNB := Lib.hid hnb; clear hnb
      intro rcd hrc hrl hY
      obtain ⟨WL, hWL⟩ : ∃ WL, WL = ((((wr.setCell ⟨w.heap.size, 0, none⟩ (.int .i64 st)).alloc (.cells #[.int .i64 0] 3)).alloc (.cells #[.pointer (some ⟨c + 1, 0, none⟩)] 25)).alloc (.deferred (some []))).alloc (rcd .ready none) := ⟨_, rfl⟩
      have hW0 : DrS w c bx nb bd st a cp L L 0 (rcd .ready none) WL := by
        have hbx3 : bx < nb := by have := hbx.lt; have := HNB.out; omega
        have hml := HML.out
        have o1 : Only (· = w.heap.size) wr (wr.setCell ⟨w.heap.size, 0, none⟩ (.int .i64 st)) := (Only.refl (· = w.heap.size) wr).setCell (p := ⟨w.heap.size, 0, none⟩) (.inr rfl) _
        have o2 : Only (· = w.heap.size) wr WL := by rw [hWL]; exact (((o1.alloc _).alloc _).alloc _).alloc _
        have b1 : Boxed (wr.setCell ⟨w.heap.size, 0, none⟩ (.int .i64 st)) w.heap.size 3 (.int .i64 st) := hstb.set _
        have e0 : (wr.setCell ⟨w.heap.size, 0, none⟩ (.int .i64 st)).heap.size = nb := by rw [World.size_setCell]; exact HNB.out.symm
        generalize wr.setCell ⟨w.heap.size, 0, none⟩ (.int .i64 st) = wS at hWL b1 e0
        have b2 := Boxed.new wS 3 (.int .i64 0)
        have b3 := Boxed.new (wS.alloc (.cells #[.int .i64 0] 3)) 25 (.pointer (some ⟨c + 1, 0, none⟩))
        have b4 := World.alloc_heap_new ((wS.alloc (.cells #[.int .i64 0] 3)).alloc (.cells #[.pointer (some ⟨c + 1, 0, none⟩)] 25)) (.deferred (some []))
        have b5 := World.alloc_heap_new (((wS.alloc (.cells #[.int .i64 0] 3)).alloc (.cells #[.pointer (some ⟨c + 1, 0, none⟩)] 25)).alloc (.deferred (some []))) (rcd .ready none)
        simp only [World.size_alloc, e0] at b2 b3 b4 b5
        refine ⟨hq.kept o2 (by omega) (by omega), ?_, ?_, boxed_only (by rw [hml]; exact hbx) o2 (by omega), ownsRow_only (by rw [hml]; exact hrow) o2 ?_, ?_, boxed_only hreb o2 (by omega), ?_, ?_, hbelow.trans (o2.below hbelow.size (by omega)), c1, c2, hbx3⟩
        · rw [hWL]; exact (b3.alloc _).alloc _
        · rw [hWL]; exact ((b2.alloc _).alloc _).alloc _
        · rintro g hg rfl
          exact ownsRow_notChan hrow (fun cur => by rw [show wr.heap[w.heap.size]? = _ from hstb]; simp) _ (by rw [← hml]; exact hg) rfl
        · rw [hWL]; exact (((b1.alloc _).alloc _).alloc _).alloc _
        · rw [hWL]; exact b5
        · rw [hWL, Below.heap_alloc _ _ _ (by simp only [World.size_alloc, e0]; omega)]; exact b4
      rw [← hWL]
      refine (drainS_loop 3 (nb + 3) (nb + 1) (c + 1) c bd
        (fun rest W => ∃ R : List ByteArray, rest = R.map Value.string ∧ ∃ j, j + R.length = L.length ∧ R = L.drop j ∧ j < st ∧ DrS w c bx nb bd st a cp L R j (rcd .ready none) W)
        (fun rest W => ∃ R : List ByteArray, rest = R.map Value.string ∧ st + R.length = L.length ∧ DrS w c bx nb bd st a cp L R st (rcd .done (some (.exit 2))) W)
        ?hst ?hround (L.map Value.string) _ ⟨L, rfl, 0, by simp, rfl, hst1, hW0⟩).mono ?_
      case hst =>
        rintro rest W ⟨R, rfl, j, hj, hR, hjs, hD⟩
        obtain ⟨s, r, hh⟩ := hD.q.chan
        exact ⟨hD.qb.cell, hD.q.ptr, s, r, hh⟩
      case hround =>
        rintro x rest W s r ⟨R, hxr, j, hj, hR, hjs, hD⟩ hch
        obtain ⟨y, R', rfl⟩ : ∃ y R', R = y :: R' := by cases R with | nil => cases hxr | cons y R' => exact ⟨y, R', rfl⟩
        simp only [List.map_cons, List.cons.injEq] at hxr
        obtain ⟨rfl, rfl⟩ := hxr
        obtain ⟨W1, hW1⟩ : ∃ W1, W1 = W.setChan c bd (R'.map Value.string).toArray false s (r + 1) false := ⟨_, rfl⟩
        rw [← hW1]
        have hD1 : DrS w c bx nb bd st a cp L R' j (rcd .ready none) W1 := by
          have c3 := hD.c3
          refine hD.turn (by rw [hW1]; exact (Only.refl _ W).setChan (c := c) (.inr (.inl rfl)) _ _ _ _ _ _) (by rw [hW1]; exact hD.q.set _ _ _) ?_ ?_ (hrc _ _)
          · have : Only (· = c) W W1 := by rw [hW1]; exact (Only.refl _ W).setChan (c := c) (.inr (by rfl)) _ _ _ _ _ _
            exact boxed_only hD.n this (by omega)
          · rw [hW1, setChan_other' _ _ _ _ _ _ _ _ _ (by omega)]; exact hD.rcd
        clear hD hch hW1 W
        refine hY 2 _ W1 _ rfl hD1.rcd ?_
        clear hY
        simp only [List.zip_toArray, List.zip_cons_cons, List.zip_nil_right, List.foldl_toArray', List.foldl_cons, List.foldl_nil, List.setIfInBounds_toArray, List.set_cons_succ, List.set_cons_zero]
        obtain ⟨W2, hW2⟩ : ∃ W2, W2 = W1.putObj (nb + 3) (rcd .busy none) := ⟨_, rfl⟩
        have hO2 : Only (· = nb + 3) W1 W2 := by rw [hW2]; exact (Only.refl _ W1).putObj (.inr (by rfl)) _
        have hD2 : DrS w c bx nb bd st a cp L R' j (rcd .busy none) W2 := by
          have c1 := hD1.c1
          have c2 := hD1.c2
          have c3 := hD1.c3
          refine hD1.turn (hO2.mono (fun k _ hk => .inr (.inr hk))) (hD1.q.kept hO2 (by omega) (by omega)) (boxed_only hD1.n hO2 (by omega)) ?_ (hrc _ _)
          rw [hW2]; exact World.putObj_heap_same (Array.getElem?_eq_some_iff.1 hD1.rcd).1
        have hlj : j < L.length := by simp only [List.length_cons] at hj; omega
        have hLj : L[j]? = some y := by
          have := congrArg (fun l => l[0]?) hR
          simp only [List.getElem?_cons_zero, List.getElem?_drop, Nat.add_zero] at this
          exact this.symm
        obtain ⟨g, rfl, -, hg2, hg3, hgc⟩ := ownsRow_cells hD2.row (by omega)
        have k1 := hgc j (.string y) (by rw [List.getElem?_map, hLj]; rfl)
        clear hgc
        have k2 := hD2.n.cell
        have k3 := hD2.inb.cell
        have k4 := hD2.stop.cell
        have k5 := hD2.n.frozen
        have HR := Lib.hid hR; clear hR
        have HLj := Lib.hid hLj; clear hLj
        have HW2 := Lib.hid hW2; clear hW2
        have hrd := Lib.hid hD1.rcd
        have e1 : decide ((L.length : Int) ≤ j) = false := by simp; omega
        have hO3 : Only (· = nb) W2 (W2.setCell ⟨nb, 0, none⟩ (.int .i64 ((j : Int) + 1))) := (Only.refl (· = nb) W2).setCell (p := ⟨nb, 0, none⟩) (.inr rfl) _
        have c1 := hD2.c1
        have c2 := hD2.c2
        have c3 := hD2.c3
        have hn3 : Boxed (W2.setCell ⟨nb, 0, none⟩ (.int .i64 ((j : Int) + 1))) nb 3 (.int .i64 ((j + 1 : Nat) : Int)) := by have := hD2.n.set (.int .i64 ((j : Int) + 1)); simpa using this
        have hD3 : DrS w c bx nb bd st (some ⟨g, 0, none⟩) cp L R' (j + 1) (rcd .busy none) (W2.setCell ⟨nb, 0, none⟩ (.int .i64 ((j : Int) + 1))) :=
          hD2.turn (hO3.mono (fun k _ hk => .inr (.inl hk))) (hD2.q.kept hO3 (by omega) (by omega)) hn3 ((hO3.block _ (Array.getElem?_eq_some_iff.1 hD2.rcd).1 (by omega)).trans hD2.rcd) (hrc _ _)
        have hD4 : ∀ o, o.isCells = false → DrS w c bx nb bd st (some ⟨g, 0, none⟩) cp L R' (j + 1) o ((W2.setCell ⟨nb, 0, none⟩ (.int .i64 ((j : Int) + 1))).putObj (nb + 3) o) := by
          intro o ho
          have hO4 : Only (· = nb + 3) (W2.setCell ⟨nb, 0, none⟩ (.int .i64 ((j : Int) + 1))) ((W2.setCell ⟨nb, 0, none⟩ (.int .i64 ((j : Int) + 1))).putObj (nb + 3) o) := (Only.refl _ _).putObj (.inr (by rfl)) _
          exact hD3.turn (hO4.mono (fun k _ hk => .inr (.inr hk))) (hD3.q.kept hO4 (by omega) (by omega)) (boxed_only hD3.n hO4 (by omega)) (World.putObj_heap_same (Array.getElem?_eq_some_iff.1 hD3.rcd).1) (hrc _ _)
        have k6 := hD3.stop.cell
        have k7 := hD3.n.cell
        simp only [Int.natCast_add, Int.cast_ofNat_Int] at k7
        have hrd3 := Lib.hid hD3.rcd
        have HD4 := Lib.hid hD4; clear hD4
        clear hD3 hn3 hO3
        by_cases hjs2 : j + 1 = st
        · have e2 : (((j : Int) + 1) == (st : Int)) = true := by rw [beq_iff_eq]; omega
          have Hjs := Lib.hid hjs2; clear hjs2
          gi_wp2
          refine ⟨hrd.out, ?_⟩
          rw [← HW2.out]
          gi_wp2
          have hjs3 := Hjs.out
          subst hjs3
          exact ⟨hrd3.out, .inr ⟨rfl, R', rfl, by simp only [List.length_cons] at hj; omega, HD4.out _ (hrc _ _)⟩⟩
        · have e2 : (((j : Int) + 1) == (st : Int)) = false := by rw [beq_eq_false_iff_ne]; omega
          gi_wp2
          refine ⟨hrd.out, ?_⟩
          rw [← HW2.out]
          gi_wp2
          refine ⟨hrd3.out, .inl ⟨rfl, R', rfl, j + 1, by simp only [List.length_cons] at hj; omega, ?_, by omega, HD4.out _ (hrc _ _)⟩⟩
          have := congrArg List.tail HR.out
          simpa [List.tail_drop] using this
      · intro e W3 hW3
        have fin : ∃ R : List ByteArray, ∃ j, j + R.length = L.length ∧ j = min st L.length ∧ (∃ v, e = .returned v) ∧
            ((DrS w c bx nb bd st a cp L R j (rcd .ready none) W3) ∨ DrS w c bx nb bd st a cp L R j (rcd .done (some (.exit 2))) W3) := by
          obtain ⟨hv, (⟨R, hR0, j, hj, hRd, hjs, hD⟩ | ⟨rest, R, hrest, hj, hD⟩)⟩ := hW3
          · obtain rfl : R = [] := by cases R with | nil => rfl | cons _ _ => cases hR0
            exact ⟨[], j, hj, by simp only [List.length_nil] at hj; omega, hv, .inl hD⟩
          · exact ⟨R, st, hj, by omega, hv, .inr hD⟩
        clear hW3 hW0 hWL hY
        obtain ⟨R, j, hj, hjm, hv, hD⟩ := fin
        have put : ∀ (o o' : Obj) (W : World), o.isCells = false → DrS w c bx nb bd st a cp L R j o W → DrS w c bx nb bd st a cp L R j o' (W.putObj (nb + 3) o') := by
          intro o o' W ho h
          have c3 := h.c3
          have hO4 : Only (· = nb + 3) W (W.putObj (nb + 3) o') := (Only.refl _ _).putObj (.inr (by rfl)) _
          exact h.turn (hO4.mono (fun k _ hk => .inr (.inr hk))) (h.q.kept hO4 (by omega) (by omega)) (boxed_only h.n hO4 (by omega)) (World.putObj_heap_same (Array.getElem?_eq_some_iff.1 h.rcd).1) ho
        have hroom : bd ≤ 4096 := by omega
        have hLb : L.length ≤ 120 := by have := HML.out; have := HM.out; omega
        have hRl : R.length ≤ 120 := by omega
        have hRb : (R.map Value.string).length ≤ bd := by have := HML.out; have := HM.out; simp; omega
        have hres : ((L.length : Int) - j) = (R.length : Int) := by omega
        have hmin : min (st : Int) (L.length : Int) = (j : Int) := by omega
        refine ⟨hv, ?_⟩
        have tail : ∀ (o : Obj) (W4 : World) (K : Prop), o.isCells = false → DrS w c bx nb bd st a cp L R j o W4 →
            ((∀ n, Calls Try.prog 11 #[.pointer (some ⟨c + 1, 0, none⟩)] (W4.drewN n) fun e w'' => e = .returned (.int .i64 R.length) ∧ ∃ m, w'' = W4.drewN m) →
              (∀ n, Calls Try.prog 12 #[.pointer (some ⟨c + 1, 0, none⟩)] (W4.drewN n) fun e w'' => e = .returned (.int .i64 ((bd : Int) - R.length)) ∧ ∃ m, w'' = W4.drewN m) → K) → K := by
          intro o W4 K ho h hK
          refine hK (fun n => ?_) (fun n => ?_)
          · refine Calls.quiet_of_same ((lenS_q (c + 1) c bd _ (W4.drewN n) ⟨h.q.box, h.q.chan⟩).mono ?_)
            rintro e w' ⟨rfl, rfl⟩
            exact ⟨by simp, rfl⟩
          · refine Calls.quiet_of ((roomS_q (c + 1) c bd _ (W4.drewN n) ⟨h.q.box, h.q.chan⟩ hroom hRb).mono ?_)
            rintro e w' ⟨rfl, m, rfl⟩
            exact ⟨by simp, m, rfl⟩
        have hlast : ∀ (j : Nat), j + R.length = L.length → j = min st L.length → (L.length < st ∧ j = L.length ∧ R = []) ∨ (¬ L.length < st ∧ j = st) := by
          intro j h1 h2
          by_cases h : L.length < st
          · refine .inl ⟨h, by omega, ?_⟩
            cases R with
            | nil => rfl
            | cons x R => simp only [List.length_cons] at h1; omega
          · exact .inr ⟨h, by omega⟩
        have fin3 : ∀ (o : Obj) (W4 : World) (nq : Nat) (j : Nat), DrS w c bx nb bd st a cp L R j o W4 → o.isCells = false → ∀ (a : Act), a.defers = [{ target := .collected (nb + 1 + 1), args := #[] }] → a.tmps.getD 6 undef = .pointer (some ⟨w.heap.size + 1, 0, none⟩) →
            bodyPostM Fence.wide 4 Try.prog Try.f3 (fun e w' => e = Ending.returned (Value.bool true) ∧ Below w.heap.size w w') .ret a ((W4.drewN nq).setCell ⟨w.heap.size + 1, 0, none⟩ (.bool true)) := by
          intro o W4 nq j h ho a ha ht
          have c3 := h.c3
          have hO : Only (· = w.heap.size + 1) W4 ((W4.drewN nq).setCell ⟨w.heap.size + 1, 0, none⟩ (.bool true)) := ((Only.refl (· = w.heap.size + 1) W4).drewN nq).setCell (p := ⟨w.heap.size + 1, 0, none⟩) (.inr rfl) _
          have hdf : ((W4.drewN nq).setCell ⟨w.heap.size + 1, 0, none⟩ (.bool true)).heap[nb + 2]? = some (.deferred (some [])) := (hO.block _ (Array.getElem?_eq_some_iff.1 h.dfr).1 (by omega)).trans h.dfr
          have hb : Boxed ((W4.drewN nq).setCell ⟨w.heap.size + 1, 0, none⟩ (.bool true)) (w.heap.size + 1) 4 (.bool true) := Boxed.set (W := W4.drewN nq) (.bool true) h.res
          have hO2 : Only (· = nb + 2) ((W4.drewN nq).setCell ⟨w.heap.size + 1, 0, none⟩ (.bool true)) (((W4.drewN nq).setCell ⟨w.heap.size + 1, 0, none⟩ (.bool true)).putObj (nb + 2) (.deferred none)) := (Only.refl _ _).putObj (.inr (by rfl)) _
          have hb2 := (boxed_only hb hO2 (by omega)).cell
          refine post_mark (D := nb + 2) (v := .bool true) ha hdf ?_ ⟨rfl, ?_⟩
          · exact results_cell1 rfl ht (by simp [go_sem, hb2])
          · exact h.below.trans ((hO.below h.below.size (by omega)).trans (hO2.below (Nat.le_trans h.below.size hO.size) (by omega)))
        rcases hD with hD | hD
        · refine .inl ⟨hD.rcd, ?_⟩
          have hD := put _ (rcd .exhausted none) _ (hrc _ _) hD
          clear put hv
          generalize W3.putObj (nb + 3) (rcd .exhausted none) = W4 at hD ⊢
          refine tail _ W4 _ (hrc _ _) hD (fun hLen hRoom => ?_)
          have HLen := Lib.hid hLen; clear hLen
          have HRoom := Lib.hid hRoom; clear hRoom
          rcases hlast j hj hjm with ⟨hls, rfl, rfl⟩ | ⟨hls, rfl⟩
          · have k1 := hD.n.cell
            have k2 := hD.inb.cell
            have k3 := hD.stop.cell
            have k4 := hD.res.cell
            have k5 := hD.res.frozen
            clear hj hjm hRl hres hmin
            clear hlast tail
            have HF := Lib.hid (fun nq => fin3 _ W4 nq _ hD (hrc _ _)); clear fin3
            have HD := Lib.hid hD; clear hD
            go_wp2
            refine wp_region_quiet_tail 24 (by kernel_rfl) (by kernel_rfl) ?_
            simp only [List.take_succ_cons, List.take_zero, List.drop_succ_cons, List.drop_zero]
            repeat (go_big_quiet_step (first | (go_at_call 11; exact HLen.out _) | (go_at_call 12; exact HRoom.out _)))
            refine wpQuiet_nil ?_
            intro _ hw'
            obtain ⟨nq, hw''⟩ := hw'
            subst hw''
            go_wp2
            exact HF.out nq _ (by simp) rfl
          · have k1 := hD.n.cell
            have k2 := hD.inb.cell
            have k3 := hD.stop.cell
            have k4 := hD.res.cell
            have k5 := hD.res.frozen
            have e3 : ((R.length : Int) == (L.length : Int) - (j : Int)) = true := by rw [beq_iff_eq]; omega
            clear hj hjm hres hmin
            clear hlast tail
            have HF := Lib.hid (fun nq => fin3 _ W4 nq _ hD (hrc _ _)); clear fin3
            have HD := Lib.hid hD; clear hD
            go_wp2
            refine wp_region_quiet_tail 24 (by kernel_rfl) (by kernel_rfl) ?_
            simp only [List.take_succ_cons, List.take_zero, List.drop_succ_cons, List.drop_zero]
            repeat (go_big_quiet_step (first | (go_at_call 11; exact HLen.out _) | (go_at_call 12; exact HRoom.out _)))
            refine wpQuiet_nil ?_
            intro _ hw'
            obtain ⟨nq, hw''⟩ := hw'
            subst hw''
            go_wp2
            exact HF.out nq _ (by simp) rfl
        · refine .inr ⟨.exit 2, hD.rcd, ?_⟩
          have hD := put _ (rcd .exhausted (some (.exit 2))) _ (hrc _ _) hD
          clear put hv
          generalize W3.putObj (nb + 3) (rcd .exhausted (some (.exit 2))) = W4 at hD ⊢
          refine tail _ W4 _ (hrc _ _) hD (fun hLen hRoom => ?_)
          have HLen := Lib.hid hLen; clear hLen
          have HRoom := Lib.hid hRoom; clear hRoom
          rcases hlast j hj hjm with ⟨hls, rfl, rfl⟩ | ⟨hls, rfl⟩
          · have k1 := hD.n.cell
            have k2 := hD.inb.cell
            have k3 := hD.stop.cell
            have k4 := hD.res.cell
            have k5 := hD.res.frozen
            clear hj hjm hRl hres hmin
            clear hlast tail
            have HF := Lib.hid (fun nq => fin3 _ W4 nq _ hD (hrc _ _)); clear fin3
            have HD := Lib.hid hD; clear hD
            go_wp2
            refine wp_region_quiet_tail 24 (by kernel_rfl) (by kernel_rfl) ?_
            simp only [List.take_succ_cons, List.take_zero, List.drop_succ_cons, List.drop_zero]
            repeat (go_big_quiet_step (first | (go_at_call 11; exact HLen.out _) | (go_at_call 12; exact HRoom.out _)))
            refine wpQuiet_nil ?_
            intro _ hw'
            obtain ⟨nq, hw''⟩ := hw'
            subst hw''
            go_wp2
            exact HF.out nq _ (by simp) rfl
          · have k1 := hD.n.cell
            have k2 := hD.inb.cell
            have k3 := hD.stop.cell
            have k4 := hD.res.cell
            have k5 := hD.res.frozen
            have e3 : ((R.length : Int) == (L.length : Int) - (j : Int)) = true := by rw [beq_iff_eq]; omega
            clear hj hjm hres hmin
            clear hlast tail
            have HF := Lib.hid (fun nq => fin3 _ W4 nq _ hD (hrc _ _)); clear fin3
            have HD := Lib.hid hD; clear hD
            go_wp2
            refine wp_region_quiet_tail 24 (by kernel_rfl) (by kernel_rfl) ?_
            simp only [List.take_succ_cons, List.take_zero, List.drop_succ_cons, List.drop_zero]
            repeat (go_big_quiet_step (first | (go_at_call 11; exact HLen.out _) | (go_at_call 12; exact HRoom.out _)))
            refine wpQuiet_nil ?_
            intro _ hw'
            obtain ⟨nq, hw''⟩ := hw'
            subst hw''
            go_wp2
            exact HF.out nq _ (by simp) rfl

theorem drains_long (bound stop : Int) (oad : Option Addr) (cap len : Nat) (hlen : 100 < len) (w : World) :
    Calls Try.prog 3 #[.int .i64 bound, .slice oad len cap, .int .i64 stop] w fun e w' => e = .returned (.bool true) ∧ Below w.heap.size w w' := by
  have h100 : decide (100 < (len : Int)) = true := by simp; omega
  go_enter Try.func3, Try.ntmps3
  go_wp2_with (first
    | (go_at_call 7; refine (alive25 _).mono ?_; rintro e w1 ⟨rfl, hb1⟩; have hre1 := (boxed_only (by have := Boxed.new (w.alloc (.cells #[.int .i64 stop] 3)) 4 (.bool false); simpa only [World.size_alloc] using this) (Only.of_below hb1 (fun _ => False)) (by simp) : Boxed w1 (w.heap.size + 1) 4 (.bool false)); have hc1 := hre1.cell; have hf1 := hre1.frozen))
  have hB : Below w.heap.size w w1 := (((Below.refl _ w).alloc (Nat.le_refl _) _).alloc (by simp) _).trans (hb1.mono (by simp; omega))
  have hc2 := (hre1.set (.bool true)).cell
  refine bodyPost_ret (v := .bool true) (results_cell1 rfl (ad := ⟨w.heap.size + 1, 0, none⟩) rfl (by simp [go_sem, hc2])) rfl ⟨rfl, hB.setCell (p := ⟨w.heap.size + 1, 0, none⟩) (by simp) _⟩
end Go.Proofs.Ytlieklclckenoaa
