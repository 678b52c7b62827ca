/-
The walk of QueueMoves. Conditions: the list reads as integers.
-/
import Derived.Test.YtlieklclckenoaaAlive25
import Derived.Test.YtlieklclckenoaaMove
import Derived.Test.YtlieklclckenoaaMem
import Derived.Test.YtlieklclckenoaaInts
import Derived.Lib.Hide
import Derived.Maps.AppendAt
import Derived.RangeFuncBox
import Derived.OwnWalkIn
import Derived.Laws.Cover1
namespace Go.Proofs.Ytlieklclckenoaa
open Go.RowKit Go.Shelf Go.Conc
attribute [local go_sem] Oper.semAt_some wide_fn wide_depth

theorem max_m (many : Int) : ∃ M : Nat, M = many.toNat ∧ ∀ (P : Program) (ts : Array TypeId) (t : TypeId) (w : World), (Builtin.max_ ts t #[.int .i64 0, .int .i64 many]).run P w = .ok (.int .i64 M) w := by
  refine ⟨_, rfl, fun P ts t w => ?_⟩
  rw [run_max_int2]
  congr 2
  split <;> omega
theorem min_m (b l M k : Nat) (h : k = min (min l b) M) (P : Program) (ts : Array TypeId) (t : TypeId) (w : World) : (Builtin.min_ ts t #[.int .i64 b, .int .i64 l, .int .i64 M]).run P w = .ok (.int .i64 k) w := by
  rw [run_min_int3]
  congr 2
  subst h
  split <;> split at * <;> omega
attribute [-go_sem] run_max_int2 run_min_int2 run_min_int3

theorem one_mod2 (x m : Int) (hm : 0 < m) (hm2 : m < 1000) : ∃ b : Nat, 1 ≤ b ∧ (b : Int) ≤ m ∧ wrap64 (1 + wrap64 ((IntKind.u64.wrap x).tmod m)) = (b : Int) := by
  have h0 : 0 ≤ IntKind.u64.wrap x := by
    simp only [IntKind.wrap, IntKind.signed, IntKind.bits]
    simp
    omega
  rw [Int.tmod_eq_emod_of_nonneg h0]
  have h2 : 0 ≤ IntKind.u64.wrap x % m := Int.emod_nonneg _ (by omega)
  have h3 : IntKind.u64.wrap x % m < m := Int.emod_lt_of_pos _ hm
  generalize IntKind.u64.wrap x % m = q at h2 h3
  obtain ⟨n, rfl⟩ := Int.eq_ofNat_of_zero_le h2
  refine ⟨1 + n, by omega, by omega, ?_⟩
  rw [show wrap64 (n : Int) = (n : Int) from by unfold wrap64; omega]
  unfold wrap64; omega

theorem post_mark2 {P : Program} {fn : Func} {R : Ending → World → Prop} {D E : Nat} {a : Act} {W : World} {v : Value} (hd : a.defers = [{ target := .collected E, args := #[] }, { target := .collected D, args := #[] }])
    (hE : W.heap[E]? = some (.deferred (some []))) (hD : (W.putObj E (.deferred none)).heap[D]? = some (.deferred (some [])))
    (hr : (results fn a.tmps).run P ((W.putObj E (.deferred none)).putObj D (.deferred none)) = .ok v ((W.putObj E (.deferred none)).putObj D (.deferred none))) (hR : R (.returned v) ((W.putObj E (.deferred none)).putObj D (.deferred none))) : bodyPostM Fence.wide 4 P fn R .ret a W := by
  obtain ⟨tmps, defers⟩ := a
  simp only at hd
  subst hd
  exact ⟨by simp, .inl ⟨_, _, rfl, run_takeDeferred hE, ⟨by simp, .inl ⟨_, _, rfl, run_takeDeferred hD, ⟨v, hr, hR⟩⟩⟩⟩⟩

theorem infoI2 : (Try.prog.info? 3).map (fun i => (i.zero, i.size, i.bytes)) = some (some (.int .i64 0), 1, 8) := by kernel_rfl

abbrev vints (l : List Int) : List Value := l.map (Value.int .i64)

/-- What holds between two rounds of the first loop: l has been put, and gathered. -/
structure MvPut (w0 : World) (cp cq a b : Nat) (l : List Int) (v : Value) (W : World) : Prop where
  p : IsQ 74 W (cp + 1) cp a (vints l)
  q : IsQ 74 W (cq + 1) cq b []
  row : W.ownsRow w0.heap.size 3 1 v l.length (vints l)
  only : Only (· = cp) w0 W
  c1 : cp + 1 < cq
  c2 : cq + 1 < w0.heap.size

theorem MvPut.put {w0 : World} {cp cq a b : Nat} {l : List Int} {v v' : Value} {W W2 W3 : World} {x : Int} (h : MvPut w0 cp cq a b l v W)
    (hq : IsQ 74 W2 (cp + 1) cp a (vints l ++ [.int .i64 x])) (ho : Only (· = cp) W W2) (hown' : W3.ownsRow w0.heap.size 3 1 v' (l.length + 1) (vints l ++ [.int .i64 x]))
    (hgrow : (W2.alloc (.cells #[.int .i64 x] 3)).grownBy W3 v.ownBlock) : MvPut w0 cp cq a b (l ++ [x]) v' W3 := by
  have c1 := h.c1
  have c2 := h.c2
  have hs : w0.heap.size ≤ W2.heap.size := Nat.le_trans h.only.size ho.size
  have k : Only (fun k => w0.heap.size ≤ k) W2 W3 := ((Only.refl (fun k => w0.heap.size ≤ k) W2).alloc _).grown hgrow (fun k hk => .inr (h.row.lt k hk).1)
  refine ⟨?_, (h.q.kept ho (by omega) (by omega)).kept k (by omega) (by omega), ?_, ?_, c1, c2⟩
  · have := hq.kept k (by omega) (by omega)
    simpa [vints] using this
  · simpa [vints] using hown'
  · exact ((h.only.mono (T := fun i => i = cp ∨ w0.heap.size ≤ i) (fun _ _ h => .inl h)).trans ((ho.mono (fun _ _ h => .inl h)).trans (k.mono (fun _ _ h => .inr h)))).mono (fun i hi h => by omega)

/-- What holds within a loop that drains a queue (qa: its block): ps is still in p, qs in q, G has been gathered in the box bx; bq: the loop's own box; nb: its mark; o: its record. -/
structure MvOut (wI : World) (cp cq a b bx bq nb qa : Nat) (ps qs G : List Int) (o : Obj) (W : World) : Prop where
  p : IsQ 74 W (cp + 1) cp a (vints ps)
  q : IsQ 74 W (cq + 1) cq b (vints qs)
  out : ∃ v, Boxed W bx 42 v ∧ W.ownsRow wI.heap.size 3 1 v G.length (vints G)
  qb : Boxed W bq 37 (.pointer (some ⟨qa, 0, none⟩))
  dfr : W.heap[nb]? = some (.deferred (some []))
  rcd : W.heap[nb + 1]? = some o
  only : Only (fun i => i = cp ∨ i = cq) wI W
  c1 : cp + 1 < cq
  c2 : cq + 1 < wI.heap.size
  c3 : wI.heap.size ≤ bx
  c4 : bx < bq
  c5 : bq < nb

theorem MvOut.turn {wI : World} {cp cq a b bx bq nb qa : Nat} {ps qs ps' qs' G : List Int} {o o' : Obj} {W W' : World} (h : MvOut wI cp cq a b bx bq nb qa ps qs G o W) (ho : o.isCells = false)
    (k : Only (fun i => i = cp ∨ i = cq ∨ i = nb + 1) W W') (hp : IsQ 74 W' (cp + 1) cp a (vints ps')) (hq : IsQ 74 W' (cq + 1) cq b (vints qs')) (hl : W'.heap[nb + 1]? = some o') :
    MvOut wI cp cq a b bx bq nb qa ps' qs' G o' W' := by
  have c1 := h.c1
  have c2 := h.c2
  have c3 := h.c3
  have c4 := h.c4
  have c5 := h.c5
  obtain ⟨v, hb, hr⟩ := h.out
  refine ⟨hp, hq, ⟨v, boxed_only hb k (by omega), ownsRow_only hr k ?_⟩, boxed_only h.qb k (by omega), (k.block _ (Array.getElem?_eq_some_iff.1 h.dfr).1 (by omega)).trans h.dfr, hl, ?_, c1, c2, c3, c4, c5⟩
  · intro g hg hs
    have := (hr.lt g hg).1
    rcases hs with rfl | rfl | rfl
    · omega
    · omega
    · exact ownsRow_notChan hr (fun cur => by rw [h.rcd]; rintro ⟨⟩; cases ho) _ hg rfl
  · exact ((h.only.mono (T := fun i => i = cp ∨ i = cq ∨ wI.heap.size ≤ i) (fun i _ h => by omega)).trans (k.mono (fun i _ h => by omega))).mono (fun i hi h => by omega)

theorem MvOut.mark {wI : World} {cp cq a b bx bq nb qa : Nat} {ps qs G : List Int} {o o' : Obj} {W : World} (h : MvOut wI cp cq a b bx bq nb qa ps qs G o W) (ho : o.isCells = false) : MvOut wI cp cq a b bx bq nb qa ps qs G o' (W.putObj (nb + 1) o') := by
  have := h.c1
  have := h.c2
  have := h.c3
  have := h.c4
  have := h.c5
  have k : Only (· = nb + 1) W (W.putObj (nb + 1) o') := (Only.refl _ W).putObj (.inr (by rfl)) _
  exact h.turn ho (k.mono (fun _ _ h => .inr (.inr h))) (h.p.kept k (by omega) (by omega)) (h.q.kept k (by omega) (by omega)) (World.putObj_heap_same (Array.getElem?_eq_some_iff.1 h.rcd).1)

theorem MvOut.append {wI : World} {cp cq a b bx bq nb qa : Nat} {ps qs G : List Int} {o : Obj} {W W3 : World} {v v' : Value} {x : Int} (h : MvOut wI cp cq a b bx bq nb qa ps qs G o W) (ho : o.isCells = false)
    (hb : Boxed W bx 42 v) (hrow : W.ownsRow wI.heap.size 3 1 v G.length (vints G)) (hown' : W3.ownsRow wI.heap.size 3 1 v' (G.length + 1) (vints G ++ [.int .i64 x]))
    (hgrow : (W.alloc (.cells #[.int .i64 x] 3)).grownBy W3 v.ownBlock) : MvOut wI cp cq a b bx bq nb qa ps qs (G ++ [x]) o (W3.setCell ⟨bx, 0, none⟩ v') := by
  have c1 := h.c1
  have c2 := h.c2
  have c3 := h.c3
  have c4 := h.c4
  have c5 := h.c5
  obtain ⟨h1, h2, h3, -, h5⟩ := hb.appended (by decide) hrow h.only.size h.c3 hown' hgrow
  have hall : Only (fun k => k = bx ∨ v.ownBlock = some k) W (W3.setCell ⟨bx, 0, none⟩ v') := (((Only.refl _ W).alloc _).grown hgrow (fun k hk => .inr (.inr hk))).setCell (.inr (.inl rfl)) _
  have ng : ∀ g, v.ownBlock = some g → wI.heap.size ≤ g ∧ g ≠ bq ∧ g ≠ nb ∧ g ≠ nb + 1 := by
    intro g hg
    refine ⟨(hrow.lt g hg).1, ?_, ?_, ?_⟩
    · exact ownsRow_notChan hrow (fun cur => by rw [show W.heap[bq]? = _ from h.qb]; simp) _ hg
    · exact ownsRow_notChan hrow (fun cur => by rw [h.dfr]; simp) _ hg
    · exact ownsRow_notChan hrow (fun cur => by rw [h.rcd]; rintro ⟨⟩; cases ho) _ hg
  have old : ∀ i, i < wI.heap.size → ¬ (i = bx ∨ v.ownBlock = some i) := by
    rintro i hi (rfl | hg)
    · omega
    · have := (ng i hg).1; omega
  refine ⟨h.p.kept hall (old _ (by omega)) (old _ (by omega)), h.q.kept hall (old _ (by omega)) (old _ (by omega)), ⟨v', h2, by simpa [vints] using h3⟩, boxed_only h.qb hall ?_,
    (hall.block _ (Array.getElem?_eq_some_iff.1 h.dfr).1 ?_).trans h.dfr, (hall.block _ (Array.getElem?_eq_some_iff.1 h.rcd).1 ?_).trans h.rcd, ?_, c1, c2, c3, c4, c5⟩
  · rintro (e | hg)
    · omega
    · exact (ng _ hg).2.1 rfl
  · rintro (e | hg)
    · omega
    · exact (ng _ hg).2.2.1 rfl
  · rintro (e | hg)
    · omega
    · exact (ng _ hg).2.2.2 rfl
  · exact ((h.only.mono (T := fun i => i = cp ∨ i = cq ∨ wI.heap.size ≤ i) (fun i _ h => by omega)).trans (hall.mono (fun i _ h => by rcases h with h | h; omega; have := (ng i h).1; omega))).mono (fun i hi h => by omega)

theorem boxed_pair (w : World) (u v : Value) (t : TypeId) {w1 : World} (h : Below (w.alloc (.cells #[u, v] t)).heap.size (w.alloc (.cells #[u, v] t)) w1) : w1.cell? ⟨w.heap.size, 0, none⟩ = some u ∧ w1.cell? ⟨w.heap.size, 1, none⟩ = some v := by
  have e := World.alloc_heap_new w (.cells #[u, v] t)
  have e1 : w1.heap[w.heap.size]? = some (.cells #[u, v] t (0, 0)) := (h.block w.heap.size (by simp)).trans e
  constructor <;> (unfold World.cell?; rw [e1]; rfl)

theorem lenI_n {b c cap : Nat} {l : List Value} {w : World} (h : IsQ 74 w b c cap l) (m : Nat) (hm : l.length = m) :
    Calls Try.prog 22 #[.pointer (some ⟨b, 0, none⟩)] w fun e w' => e = .returned (.int .i64 m) ∧ w = w' := by
  subst hm; exact lenI_q b c cap l w h
theorem roomI_n {b c cap : Nat} {l : List Value} {w : World} (h : IsQ 74 w b c cap l) (hl : l = []) (hcap : cap ≤ 4096) :
    Calls Try.prog 23 #[.pointer (some ⟨b, 0, none⟩)] w fun e w' => e = .returned (.int .i64 cap) ∧ ∃ n, w' = w.drewN n := by
  subst hl
  refine (roomI_q b c cap [] w h hcap (by simp)).mono ?_
  rintro e w' ⟨rfl, n, rfl⟩
  exact ⟨by simp, n, rfl⟩

set_option maxHeartbeats 4000000 in
set_option maxRecDepth 100000 in
theorem moves_walk (b0 b1 many : Int) (oad : Option Addr) (cap : Nat) (l : List Int) (hl : l.length ≤ 60) (w : World) (hr : 0 < l.length → ∃ g off, oad = some ⟨g, off, none⟩ ∧ ∀ j u, (vints l)[j]? = some u → w.cell? ⟨g, off + j, none⟩ = some u) :
    Calls Try.prog 6 #[.slice oad l.length cap, .agg #[.int .i64 b0, .int .i64 b1], .int .i64 many] w fun e w' => e = .returned (.bool true) ∧ Below w.heap.size w w' := by
  obtain ⟨n, hn⟩ : ∃ n, n = l.length := ⟨_, rfl⟩
  rw [← hn] at hr hl ⊢
  have h60 : decide (60 < (n : Int)) = false := by simp; omega
  obtain ⟨a, ha1, ha2, ha⟩ := one_mod2 b0 80 (by omega) (by omega)
  obtain ⟨b, hbn1, hbn2, hb⟩ := one_mod2 b1 20 (by omega) (by omega)
  obtain ⟨i0, hi0, hz0, hz1, hz2⟩ := info_parts infoI2
  have HR := Lib.hid hr; clear hr
  have HN := Lib.hid hn; clear hn
  refine calls_of_wp_marks Try.func6 rfl ?_
  simp only [Try.ntmps6, List.size_toArray, List.length_cons, List.length_nil, Nat.reduceAdd, Nat.reduceSub, Array.replicate_succ, Array.replicate_zero, List.push_toArray, List.append_toArray, List.nil_append, List.cons_append]
  go_wp2_with (first
    | (go_at_call 7; refine (alive25 _).mono ?_; rintro e w1 ⟨rfl, hb1⟩; have d0 := (boxed_pair w _ _ _ hb1).1; have d1 := (boxed_pair w _ _ _ hb1).2)
    | (go_at_call 13; (with_reducible refine (newI_q a a rfl ha1 (by omega) w1).mono ?_); rintro e w2 ⟨rfl, hq2, hb2, -⟩; have d2 := hb2.cell (p := ⟨w.heap.size, 1, none⟩) (lt_of_cell d1) |>.trans d1)
    | (go_at_call 13; (with_reducible refine (newI_q b b rfl hbn1 (by omega) w2).mono ?_); rintro e w3 ⟨rfl, hq3, hb3, -⟩))
  have hI : MvPut w3 w1.heap.size w2.heap.size a b [] (.slice (some ⟨w3.heap.size, 0, none⟩) 0 0) (w3.alloc (.cells #[] 3)) := by
    have s1 := hq2.blt
    have s3 := hq3.blt
    have o3 := ((Only.refl (fun _ => False) w3).alloc (.cells #[] 3))
    exact ⟨(hq2.kept (Only.of_below hb3 (fun _ => False)) (by simp) (by simp)).kept o3 (by simp) (by simp), hq3.kept o3 (by simp) (by simp), own_new w3 _ _ (Nat.le_refl _) 1, o3.mono (fun _ _ h => h.elim), s1, s3⟩
  have hc0 : w.heap.size ≤ w1.heap.size := by have := hb1.size; simp only [World.size_alloc] at this; omega
  have hB : Below w.heap.size w w3 := ((Below.refl _ w).alloc (Nat.le_refl _) _).trans ((hb1.mono (by simp)).trans ((hb2.mono hc0).trans (hb3.mono (by have := hq2.blt; omega))))
  clear hq2 hb2 hb1 hq3 hb3 d0 d1 d2 h60
  generalize (w3.alloc (.cells #[] 3)) = W0 at hI ⊢
  generalize w1.heap.size = cp at hI hc0 ⊢
  generalize w2.heap.size = cq at hI ⊢
  have HB := Lib.hid hB; clear hB
  go_loopw [53, 11] (fun i v wr => ∃ k : Nat, k ≤ n ∧ i = .int .i64 k ∧ MvPut w3 cp cq a b (l.take (min k a)) v wr) (fun i _ _ => n - (intOf i).toNat)
  case atStart => exact ⟨0, Nat.zero_le _, rfl, by simpa using hI⟩
  case round =>
    obtain ⟨k, hk, rfl, hI⟩ := hrel
    by_cases hlt : k < n
    · have dk : decide ((k : Int) < (n : Int)) = true := by simpa using hlt
      have hkx : k < l.length := by rw [← HN.out]; exact hlt
      obtain ⟨g, off, rfl, hcl⟩ := HR.out (by omega)
      have g0 := hcl k (.int .i64 l[k]) (by simp [vints, hkx])
      have g1 : wr.cell? ⟨g, off + k, none⟩ = some (.int .i64 l[k]) := ((hI.only.cell (p := ⟨g, off + k, none⟩) (Nat.lt_of_lt_of_le (lt_of_cell g0) HB.out.size) (by have := lt_of_cell g0; simp only at this ⊢; omega)).trans (HB.out.cell (p := ⟨g, off + k, none⟩) (lt_of_cell g0))).trans g0
      have htk : l.take (k + 1) = l.take k ++ [l[k]] := by rw [List.take_succ_eq_append_getElem hkx]
      generalize l[k] = x at g1 htk
      clear g0 hcl
      obtain ⟨a1, c1', rfl⟩ := ownsRow_shape hI.row
      obtain ⟨len, hln⟩ : ∃ len, len = (l.take (min k a)).length := ⟨_, rfl⟩
      rw [← hln] at hI ⊢
      by_cases hka : k < a
      · have hmin : min k a = k := by omega
        have hmin2 : min (k + 1) a = k + 1 := by omega
        rw [hmin] at hI
        have hlen : (l.take k).length = k := by simp; omega
        rw [hmin, hlen] at hln
        rw [hln] at hI ⊢
        clear hln
        have hp := hI.p
        have hrow := hI.row
        rw [hlen] at hrow
        have hplen : (vints (l.take k)).length < a := by simp [vints]; omega
        have hsz : w3.heap.size ≤ wr.heap.size := hI.only.size
        have HT := Lib.hid htk; clear htk
        have HM2 := Lib.hid hmin2; clear hmin2
        have c1 := hI.c1
        have c2 := hI.c2
        go_wp2_with (first
          | (go_at_call 17; (with_reducible refine (putI_q (cp + 1) cp a (vints (l.take k)) (.int .i64 x) wr hp hplen).mono ?_); rintro e w4 ⟨rfl, hq4, ho4, -⟩; have hrow4 := ownsRow_only hrow ho4 (fun g hg e => by have := (hrow.lt g hg).1; omega); have hsz4 := Nat.le_trans hsz ho4.size)
          | (at_builtin; refine wpList_append_own _ rfl _ _ 42 rfl w3.heap.size 3 i0 (.int .i64 0) 1 8 Try.underlying42 hi0 hz0 hz1 hz2 rfl (by decide) _ _ _ rfl (hrow4.alloc _) ⟨w4.heap.size, 0, none⟩ 1 1 [.int .i64 x] rfl rfl (cell_one_new w4 _ _) (by simp [Value.oneCell']) (by unfold maxLen; omega) (by omega) (by simp; omega) ?_; intro v' w5 hown' hgrow _; obtain ⟨g', cap', rfl⟩ := ownsRow_succ hown'))
        have R := MvPut.put hI (x := x) hq4 ho4 (by rw [hlen]; exact hown') hgrow
        rw [← HT.out] at R
        go_roundw
        case rel => exact ⟨k + 1, by omega, by go_num, by rw [HM2.out]; exact R⟩
        case measure => simp [intOf]; omega
      · have hmin : min k a = a := by omega
        have hmin2 : min (k + 1) a = a := by omega
        have hplen : a ≤ (vints (l.take (min k a))).length := by simp [vints]; omega
        have HM := Lib.hid hmin; clear hmin
        have HM2 := Lib.hid hmin2; clear hmin2
        have HT := Lib.hid htk; clear htk
        have HLN := Lib.hid hln; clear hln
        go_wp2_with (go_at_call 17; (with_reducible refine (putI_qfull (cp + 1) cp a (vints (l.take (min k a))) (.int .i64 x) wr hI.p hplen).mono ?_); rintro e w4 ⟨rfl, rfl⟩)
        have he : min k a = min (k + 1) a := by rw [HM.out, HM2.out]
        rw [he] at hI
        go_roundw
        case rel => exact ⟨k + 1, by omega, by go_num, hI⟩
        case measure => simp [intOf]; omega
    · obtain rfl : k = n := by omega
      obtain ⟨L, hL⟩ : ∃ L, L = l.take (min k a) := ⟨_, rfl⟩
      have hLl : L.length ≤ 60 := by rw [hL]; simp; omega
      have hLa : L.length ≤ a := by rw [hL]; simp; omega
      rw [← hL] at hI
      obtain ⟨av, cv, rfl⟩ := ownsRow_shape hI.row
      have dk : decide ((k : Int) < (k : Int)) = false := by simp
      have c1 := hI.c1
      have c2 := hI.c2
      have hvl : (vints L).length ≤ a := by simpa [vints] using hLa
      have HL := Lib.hid hL; clear hL
      have z1 : cp + 1 ≠ cq + 1 := by omega
      have z2 : cp ≠ cq := by omega
      have z3 : cp + 1 ≠ cq := by omega
      have z4 : cp ≠ cq + 1 := by omega
      have z5 : b ≤ 4096 := by omega
      have z6 : a ≤ 4096 := by omega
      have Z1 := Lib.hid z1; clear z1
      have Z2 := Lib.hid z2; clear z2
      have Z3 := Lib.hid z3; clear z3
      have Z4 := Lib.hid z4; clear z4
      have HB20 := Lib.hid z5; clear z5
      obtain ⟨M, hM, hmax⟩ := max_m many
      have hmax := hmax Try.prog
      have HM := Lib.hid hM; clear hM
      have HA80 := Lib.hid z6; clear z6
      go_upto_region 20 with (first
        | (go_at_call 23; (with_reducible refine (roomI_n hI.q rfl HB20.out).mono ?_); rintro e w' ⟨rfl, nq, rfl⟩)
        | (go_at_call 21; (with_reducible refine (move_two (cp + 1) cp a (cq + 1) cq b (vints L) [] many (wr.drewN nq) (hI.p.drewN nq) (hI.q.drewN nq) HA80.out HB20.out hvl (Nat.zero_le _) Z1.out Z2.out Z3.out Z4.out).mono ?_); rintro e w5 ⟨km, rfl, hkm, hp5, hq5, ho5⟩;
            have hkm2 : km = min (min L.length b) many.toNat := (by rw [hkm]; simp [vints]);
            have t1 : decide ((km : Int) < 0) = false := (by simp; done); have t2 : decide (b < km) = false := (by simp; omega); have t3 : decide (M < km) = false := (by have := HM.out; simp; omega);
            have t4 := min_m b L.length M km (by have := HM.out; omega) Try.prog;
            obtain ⟨mp, hmp⟩ : ∃ mp, mp = L.length - km := ⟨_, rfl⟩;
            have t5 : wrap64 ((L.length : Int) - (km : Int)) = (mp : Int) := (by unfold wrap64; omega);
            have lp := Lib.hid (lenI_n hp5 mp (by rw [hmp]; simp [vints])); have lq := Lib.hid (lenI_n hq5 km (by simp [vints]; omega)); have HKM := Lib.hid hkm2; clear hkm hkm2; have HMP := Lib.hid hmp; clear hmp)
        | (go_at_call 22; (with_reducible refine lq.out.mono ?_); rintro e w' ⟨rfl, rfl⟩)
        | (go_at_call 22; (with_reducible refine lp.out.mono ?_); rintro e w' ⟨rfl, rfl⟩)
        | (go_at_call 24; (with_reducible refine (drainI_make _ _).mono ?_); rintro e w7 ⟨rfl, rfl⟩))
      have hp : IsQ 74 w5 (cp + 1) cp a (vints (L.drop km)) := by have := hp5; simpa [vints, List.map_drop] using this
      have hq : IsQ 74 w5 (cq + 1) cq b (vints (L.take km)) := by have := hq5; simpa [vints, List.map_take] using this
      have ho : Only (fun x => x = cp ∨ x = cq) wr w5 := ((Only.refl _ wr).drewN nq).trans ho5
      have hrow5 : w5.ownsRow w3.heap.size 3 1 (.slice av L.length cv) L.length (vints L) := ownsRow_only hI.row ho (fun g hg e => by have := (hI.row.lt g hg).1; omega)
      have hin : Reads w5 3 1 (.slice av L.length cv) L.length (vints L) := Reads.of_own hrow5 (by intro u hu; obtain ⟨x, -, rfl⟩ := List.mem_map.1 hu; rfl)
      have hB5 : Below w.heap.size w w5 := HB.out.trans (((hI.only.mono (fun _ _ h => .inl h)).trans ho).below HB.out.size (fun i hi => by omega))
      have hs5 : cq + 1 < w5.heap.size := hq.blt
      clear hp5 hq5 ho5 ho hI hrow5 t1 t2 t3 t4 t5 lp lq hmax dk
      have HIN := Lib.hid hin; clear hin
      go_wp2_with (go_at_call 24; (with_reducible refine (drainI_make _ _).mono ?_); rintro e w7 ⟨rfl, rfl⟩)
      refine wp_rangeFunc_at (gf := 28) (lb := #[.pointer (some ⟨w5.heap.size + 1 + 1, 0, none⟩)]) rfl (enters_of Try.func28 (by kernel_rfl) rfl) ?_
      obtain ⟨s, hs⟩ : ∃ s, s = w5.heap.size := ⟨_, rfl⟩
      simp only [World.size_alloc, ← hs]
      have HS := Lib.hid hs; clear hs
      intro rcd hrc hrl hY
      obtain ⟨WL, hWL⟩ : ∃ WL, WL = ((((w5.alloc (.cells #[] 3)).alloc (.cells #[.slice (some ⟨s, 0, none⟩) 0 0] 42)).alloc (.cells #[.pointer (some ⟨cq + 1, 0, none⟩)] 37)).alloc (.deferred (some []))).alloc (rcd .ready none) := ⟨_, rfl⟩
      have hW0 : MvOut w5 cp cq a b (s + 1) (s + 1 + 1) (s + 1 + 1 + 1) (cq + 1) (L.drop km) (L.take km) [] (rcd .ready none) WL := by
        have o2 : Only (fun _ => False) w5 WL := by rw [hWL]; exact (((((Only.refl (fun _ => False) w5).alloc _).alloc _).alloc _).alloc _).alloc _
        have e0 := HS.out.symm
        have r0 := own_new w5 w5.heap.size 3 (Nat.le_refl _) 1
        have b2 := Boxed.new (w5.alloc (.cells #[] 3)) 42 (.slice (some ⟨s, 0, none⟩) 0 0)
        have b3 := Boxed.new ((w5.alloc (.cells #[] 3)).alloc (.cells #[.slice (some ⟨s, 0, none⟩) 0 0] 42)) 37 (.pointer (some ⟨cq + 1, 0, none⟩))
        have b4 := World.alloc_heap_new (((w5.alloc (.cells #[] 3)).alloc (.cells #[.slice (some ⟨s, 0, none⟩) 0 0] 42)).alloc (.cells #[.pointer (some ⟨cq + 1, 0, none⟩)] 37)) (.deferred (some []))
        have b5 := World.alloc_heap_new ((((w5.alloc (.cells #[] 3)).alloc (.cells #[.slice (some ⟨s, 0, none⟩) 0 0] 42)).alloc (.cells #[.pointer (some ⟨cq + 1, 0, none⟩)] 37)).alloc (.deferred (some []))) (rcd .ready none)
        simp only [World.size_alloc, e0] at b2 b3 b4 b5 r0
        refine ⟨hp.kept o2 id id, hq.kept o2 id id, ⟨.slice (some ⟨s, 0, none⟩) 0 0, ?_, ?_⟩, ?_, ?_, ?_, o2.mono (fun _ _ h => h.elim), c1, hs5, by omega, by omega, by omega⟩
        · rw [hWL]; exact ((b2.alloc _).alloc _).alloc _
        · rw [hWL, e0]; exact (((r0.alloc _).alloc _).alloc _).alloc _
        · rw [hWL]; exact (b3.alloc _).alloc _
        · rw [hWL, Below.heap_alloc _ _ _ (by simp only [World.size_alloc, e0]; omega)]; exact b4
        · rw [hWL]; exact b5
      rw [← hWL]
      refine (drainI_loop 3 (s + 1 + 1 + 1 + 1) (s + 1 + 1) (cq + 1) cq b
        (fun rest W => ∃ (qs G : List Int), rest = vints qs ∧ G ++ qs = L.take km ∧ MvOut w5 cp cq a b (s + 1) (s + 1 + 1) (s + 1 + 1 + 1) (cq + 1) (L.drop km) qs G (rcd .ready none) W)
        (fun _ _ => False) ?hst ?hround (vints (L.take km)) _ ⟨L.take km, [], rfl, rfl, hW0⟩).mono ?_
      case hst =>
        rintro rest W ⟨qs, G, rfl, hG, hD⟩
        obtain ⟨s1, r1, hh⟩ := hD.q.chan
        exact ⟨hD.qb.cell, hD.q.ptr, s1, r1, hh⟩
      case hround =>
        rintro x rest W s1 r1 ⟨qs, G, hxr, hG, hD⟩ hch
        obtain ⟨y, qs', rfl⟩ : ∃ y qs', qs = y :: qs' := by cases qs with | nil => cases hxr | cons y R' => exact ⟨y, R', rfl⟩
        simp only [vints, List.map_cons, List.cons.injEq] at hxr
        obtain ⟨rfl, rfl⟩ := hxr
        obtain ⟨W1, hW1⟩ : ∃ W1, W1 = W.setChan cq b (vints qs').toArray false s1 (r1 + 1) false := ⟨_, rfl⟩
        have hD1 : MvOut w5 cp cq a b (s + 1) (s + 1 + 1) (s + 1 + 1 + 1) (cq + 1) (L.drop km) qs' G (rcd .ready none) W1 := by
          have k : Only (· = cq) W W1 := by rw [hW1]; exact (Only.refl _ W).setChan (c := cq) (.inr (by rfl)) _ _ _ _ _ _
          have := hD.c2
          have := hD.c3
          have := hD.c4
          have := hD.c5
          refine hD.turn (hrc _ _) (k.mono (fun _ _ h => .inr (.inl h))) (hD.p.kept k (by omega) (by omega)) (by rw [hW1]; exact hD.q.set _ _ _) ((k.block _ (Array.getElem?_eq_some_iff.1 hD.rcd).1 (by omega)).trans hD.rcd)
        rw [show (List.map (Value.int .i64) qs') = vints qs' from rfl, ← hW1]
        clear hD hch hW1 W
        refine hY 2 _ W1 _ rfl hD1.rcd ?_
        clear hY
        simp only [List.zip_toArray, List.zip_cons_cons, List.zip_nil_right, List.foldl_toArray', List.foldl_cons, List.foldl_nil, List.setIfInBounds_toArray, List.set_cons_succ, List.set_cons_zero]
        obtain ⟨W2, hW2⟩ : ∃ W2, W2 = W1.putObj (s + 1 + 1 + 1 + 1) (rcd .busy none) := ⟨_, rfl⟩
        have hO2 : Only (· = s + 1 + 1 + 1 + 1) W1 W2 := by rw [hW2]; exact (Only.refl _ W1).putObj (.inr (by rfl)) _
        have hD2 : MvOut w5 cp cq a b (s + 1) (s + 1 + 1) (s + 1 + 1 + 1) (cq + 1) (L.drop km) qs' G (rcd .busy none) W2 := by
          have := hD1.c2
          have := hD1.c3
          have := hD1.c4
          have := hD1.c5
          refine hD1.turn (hrc _ _) (hO2.mono (fun _ _ h => .inr (.inr h))) (hD1.p.kept hO2 (by omega) (by omega)) (hD1.q.kept hO2 (by omega) (by omega)) ?_
          rw [hW2]; exact World.putObj_heap_same (Array.getElem?_eq_some_iff.1 hD1.rcd).1
        have hrd := Lib.hid hD1.rcd
        have HW2 := Lib.hid hW2; clear hW2
        obtain ⟨vo, hbo, hro⟩ := hD2.out
        obtain ⟨ao, co, rfl⟩ := ownsRow_shape hro
        have k1 := hbo.cell
        have k2 := hbo.frozen
        have hGl : G.length ≤ 60 := by have := congrArg List.length hG; simp at this; omega
        have hsz2 := hD2.only.size
        gi_wp2
        refine ⟨hrd.out, ?_⟩
        rw [← HW2.out]
        gi_wp2_with (gi_at_builtin; refine wpListIn_append_own _ rfl _ _ 42 rfl w5.heap.size 3 i0 (.int .i64 0) 1 8 Try.underlying42 hi0 hz0 hz1 hz2 rfl (by decide) _ _ _ rfl (hro.alloc _) ⟨W2.heap.size, 0, none⟩ 1 1 [.int .i64 y] rfl rfl (cell_one_new W2 _ _) (by simp [Value.oneCell']) (by unfold maxLen; omega) (by omega) (by simp; omega) ?_; intro v' w6 hown' hgrow _; obtain ⟨g', cap', rfl⟩ := ownsRow_succ hown'; have k3 := (hbo.appended (by decide) hro hsz2 hD2.c3 hown' hgrow).1.cell; have k4 := (hbo.appended (by decide) hro hsz2 hD2.c3 hown' hgrow).1.frozen)
        have R := hD2.append (hrc _ _) hbo hro hown' hgrow
        exact ⟨R.rcd, .inl ⟨rfl, qs', G ++ [y], rfl, by simpa using hG, R.mark (hrc _ _)⟩⟩
      · rintro e W3 ⟨hv, (⟨qs, G, hq0, hG, hD⟩ | ⟨_, hf⟩)⟩
        · obtain rfl : qs = [] := by cases qs with | nil => rfl | cons _ _ => cases hq0
          simp only [List.append_nil] at hG
          subst hG
          refine ⟨hv, .inl ⟨hD.rcd, ?_⟩⟩
          have hD4 := hD.mark (o' := rcd .exhausted none) (hrc _ _)
          generalize W3.putObj (s + 1 + 1 + 1 + 1) (rcd .exhausted none) = W4 at hD4 ⊢
          clear hD hW0 hWL hY hv hq0
          go_wp2_with (go_at_call 24; (with_reducible refine (drainI_make _ _).mono ?_); rintro e w7 ⟨rfl, rfl⟩)
          refine wp_rangeFunc_at (gf := 28) (lb := #[.pointer (some ⟨W4.heap.size, 0, none⟩)]) rfl (enters_of Try.func28 (by kernel_rfl) rfl) ?_
          obtain ⟨u, hu⟩ : ∃ u, u = W4.heap.size := ⟨_, rfl⟩
          simp only [World.size_alloc, ← hu]
          have HU := Lib.hid hu; clear hu
          intro rcd2 hrc2 hrl2 hY2
          obtain ⟨WL, hWL⟩ : ∃ WL, WL = ((W4.alloc (.cells #[.pointer (some ⟨cp + 1, 0, none⟩)] 37)).alloc (.deferred (some []))).alloc (rcd2 .ready none) := ⟨_, rfl⟩
          have hW0 : MvOut w5 cp cq a b (s + 1) u (u + 1) (cp + 1) (L.drop km) [] (L.take km) (rcd2 .ready none) WL ∧ WL.heap[s + 1 + 1 + 1]? = some (.deferred (some [])) := by
            have o2 : Only (fun _ => False) W4 WL := by rw [hWL]; exact (((Only.refl (fun _ => False) W4).alloc _).alloc _).alloc _
            have e0 := HU.out.symm
            have b3 := Boxed.new W4 37 (.pointer (some ⟨cp + 1, 0, none⟩))
            have b4 := World.alloc_heap_new (W4.alloc (.cells #[.pointer (some ⟨cp + 1, 0, none⟩)] 37)) (.deferred (some []))
            have b5 := World.alloc_heap_new ((W4.alloc (.cells #[.pointer (some ⟨cp + 1, 0, none⟩)] 37)).alloc (.deferred (some []))) (rcd2 .ready none)
            simp only [World.size_alloc, e0] at b3 b4 b5
            obtain ⟨v, hb, hr⟩ := hD4.out
            have hlt := hb.lt
            refine ⟨⟨hD4.p.kept o2 id id, hD4.q.kept o2 id id, ⟨v, boxed_only hb o2 id, ownsRow_only hr o2 (fun _ _ => id)⟩, ?_, ?_, ?_, hD4.only.trans (o2.mono (fun _ _ h => h.elim)), hD4.c1, hD4.c2, hD4.c3, by omega, by omega⟩, (o2.block _ (Array.getElem?_eq_some_iff.1 hD4.dfr).1 id).trans hD4.dfr⟩
            · rw [hWL]; exact (b3.alloc _).alloc _
            · rw [hWL, Below.heap_alloc _ _ _ (by simp only [World.size_alloc, e0]; omega)]; exact b4
            · rw [hWL]; exact b5
          rw [← hWL]
          have hsu : s + 1 + 1 + 1 < u := by have := (Array.getElem?_eq_some_iff.1 hD4.dfr).1; rw [← HU.out] at this; exact this
          have HSU := Lib.hid hsu; clear hsu
          clear hWL hD4
          refine (drainI_loop 3 (u + 1 + 1) u (cp + 1) cp a
            (fun rest W => ∃ (qs G : List Int), rest = vints qs ∧ G ++ qs = L ∧ MvOut w5 cp cq a b (s + 1) u (u + 1) (cp + 1) qs [] G (rcd2 .ready none) W ∧ W.heap[s + 1 + 1 + 1]? = some (.deferred (some [])))
            (fun _ _ => False) ?hst ?hround (vints (L.drop km)) _ ⟨L.drop km, L.take km, rfl, List.take_append_drop _ _, hW0⟩).mono ?_
          case hst =>
            rintro rest W ⟨qs, G, rfl, hG, hD, hM⟩
            obtain ⟨s1, r1, hh⟩ := hD.p.chan
            exact ⟨hD.qb.cell, hD.p.ptr, s1, r1, hh⟩
          case hround =>
            rintro x rest W s1 r1 ⟨qs, G, hxr, hG, hD, hM⟩ hch
            obtain ⟨y, qs', rfl⟩ : ∃ y qs', qs = y :: qs' := by cases qs with | nil => cases hxr | cons y R' => exact ⟨y, R', rfl⟩
            simp only [vints, List.map_cons, List.cons.injEq] at hxr
            obtain ⟨rfl, rfl⟩ := hxr
            obtain ⟨W1, hW1⟩ : ∃ W1, W1 = W.setChan cp a (vints qs').toArray false s1 (r1 + 1) false := ⟨_, rfl⟩
            have hD1 : MvOut w5 cp cq a b (s + 1) u (u + 1) (cp + 1) qs' [] G (rcd2 .ready none) W1 := by
              have k : Only (· = cp) W W1 := by rw [hW1]; exact (Only.refl _ W).setChan (c := cp) (.inr (by rfl)) _ _ _ _ _ _
              have := hD.c2
              have := hD.c3
              have := hD.c4
              have := hD.c5
              refine hD.turn (hrc2 _ _) (k.mono (fun _ _ h => .inl h)) (by rw [hW1]; exact hD.p.set _ _ _) (hD.q.kept k (by omega) (by omega)) ((k.block _ (Array.getElem?_eq_some_iff.1 hD.rcd).1 (by omega)).trans hD.rcd)
            have hM1 : W1.heap[s + 1 + 1 + 1]? = some (.deferred (some [])) := by
              have k : Only (· = cp) W W1 := by rw [hW1]; exact (Only.refl _ W).setChan (c := cp) (.inr (by rfl)) _ _ _ _ _ _
              have := hD.c1
              have := hD.c2
              have := hD.c3
              exact (k.block _ (Array.getElem?_eq_some_iff.1 hM).1 (by omega)).trans hM
            rw [show (List.map (Value.int .i64) qs') = vints qs' from rfl, ← hW1]
            clear hD hch hW1 hM W
            refine hY2 2 _ W1 _ rfl hD1.rcd ?_
            clear hY2
            simp only [List.zip_toArray, List.zip_cons_cons, List.zip_nil_right, List.foldl_toArray', List.foldl_cons, List.foldl_nil, List.setIfInBounds_toArray, List.set_cons_succ, List.set_cons_zero]
            obtain ⟨W2, hW2⟩ : ∃ W2, W2 = W1.putObj (u + 1 + 1) (rcd2 .busy none) := ⟨_, rfl⟩
            have hO2 : Only (· = u + 1 + 1) W1 W2 := by rw [hW2]; exact (Only.refl _ W1).putObj (.inr (by rfl)) _
            have hD2 : MvOut w5 cp cq a b (s + 1) u (u + 1) (cp + 1) qs' [] G (rcd2 .busy none) W2 := by
              have := hD1.c2
              have := hD1.c3
              have := hD1.c4
              have := hD1.c5
              refine hD1.turn (hrc2 _ _) (hO2.mono (fun _ _ h => .inr (.inr h))) (hD1.p.kept hO2 (by omega) (by omega)) (hD1.q.kept hO2 (by omega) (by omega)) ?_
              rw [hW2]; exact World.putObj_heap_same (Array.getElem?_eq_some_iff.1 hD1.rcd).1
            have hM2 : W2.heap[s + 1 + 1 + 1]? = some (.deferred (some [])) := (hO2.block _ (Array.getElem?_eq_some_iff.1 hM1).1 (by have := HSU.out; omega)).trans hM1
            have HM2 := Lib.hid hM2; clear hM1 hM2
            have hrd := Lib.hid hD1.rcd
            have HW2 := Lib.hid hW2; clear hW2
            obtain ⟨vo, hbo, hro⟩ := hD2.out
            obtain ⟨ao, co, rfl⟩ := ownsRow_shape hro
            have k1 := hbo.cell
            have k2 := hbo.frozen
            have hGl : G.length ≤ 60 := by have := congrArg List.length hG; simp at this; omega
            have hsz2 := hD2.only.size
            gi_wp2
            refine ⟨hrd.out, ?_⟩
            rw [← HW2.out]
            gi_wp2_with (gi_at_builtin; refine wpListIn_append_own _ rfl _ _ 42 rfl w5.heap.size 3 i0 (.int .i64 0) 1 8 Try.underlying42 hi0 hz0 hz1 hz2 rfl (by decide) _ _ _ rfl (hro.alloc _) ⟨W2.heap.size, 0, none⟩ 1 1 [.int .i64 y] rfl rfl (cell_one_new W2 _ _) (by simp [Value.oneCell']) (by unfold maxLen; omega) (by omega) (by simp; omega) ?_; intro v' w6 hown' hgrow _; obtain ⟨g', cap', rfl⟩ := ownsRow_succ hown'; have k3 := (hbo.appended (by decide) hro hsz2 hD2.c3 hown' hgrow).1.cell; have k4 := (hbo.appended (by decide) hro hsz2 hD2.c3 hown' hgrow).1.frozen)
            have R := hD2.append (hrc2 _ _) hbo hro hown' hgrow
            refine ⟨R.rcd, .inl ⟨rfl, qs', G ++ [y], rfl, by simpa using hG, R.mark (hrc2 _ _), ?_⟩⟩
            have hk := (hbo.appended (by decide) hro hsz2 hD2.c3 hown' hgrow).2.2.2.1
            have := HSU.out
            rw [World.putObj_heap_other (by omega)]
            exact hk.same _ _ HM2.out rfl
          · rintro e W5 ⟨hv, (⟨qs, G, hq0, hG, hD, hM⟩ | ⟨_, hf⟩)⟩
            · obtain rfl : qs = [] := by cases qs with | nil => rfl | cons _ _ => cases hq0
              simp only [List.append_nil] at hG
              subst hG
              refine ⟨hv, .inl ⟨hD.rcd, ?_⟩⟩
              have hD5 := hD.mark (o' := rcd2 .exhausted none) (hrc2 _ _)
              have hM5 : (W5.putObj (u + 1 + 1) (rcd2 .exhausted none)).heap[s + 1 + 1 + 1]? = some (.deferred (some [])) := by
                have := HSU.out
                rw [World.putObj_heap_other (by omega)]
                exact hM
              generalize W5.putObj (u + 1 + 1) (rcd2 .exhausted none) = W6 at hD5 hM5 ⊢
              clear hD hM hY2 hv hq0
              obtain ⟨vo, hbo, hro⟩ := hD5.out
              obtain ⟨ao, co, rfl⟩ := ownsRow_shape hro
              have k1 := hbo.cell
              have k2 := hbo.frozen
              have hr1 : Reads W6 3 1 (.slice ao G.length co) G.length (vints G) := Reads.of_own hro (by intro u hu; obtain ⟨x, -, rfl⟩ := List.mem_map.1 hu; rfl)
              have hr2 : Reads W6 3 1 (.slice av G.length cv) G.length (vints G) := HIN.out.only hD5.only (by
                rintro g cur fr hS hg
                rcases hS with h | h
                · obtain ⟨s1, r1, hh⟩ := hp.chan; rw [h, hh] at hg; cases hg
                · obtain ⟨s1, r1, hh⟩ := hq.chan; rw [h, hh] at hg; cases hg)
              go_wp2_with (go_at_call 25; (with_reducible refine (ints_same _ _ G W6 hr1 hr2 (by omega)).mono ?_); rintro e w9 ⟨rfl, nq9, rfl⟩)
              have q1 := hD5.c3
              have q2 := hD5.c4
              have q3 := hD5.c1
              have q4 := HSU.out
              have q5 := hD5.dfr
              refine post_mark2 (E := u + 1) (D := s + 1 + 1 + 1) (v := .bool true) rfl ?_ ?_ ?_ ⟨rfl, ?_⟩
              · rw [World.heap_drewN]; exact q5
              · rw [World.putObj_heap_other (by omega), World.heap_drewN]; exact hM5
              · exact (results_tmp (t := 6) rfl _ _ _).trans rfl
              · exact hB5.trans ((((hD5.only.drewN nq9).putObj (.inl (by omega)) _).putObj (.inl (by omega)) _).below hB5.size (fun i hi => by omega))
            · exact hf.elim
        · exact hf.elim
theorem moves_long (b0 b1 many : Int) (oad : Option Addr) (cap len : Nat) (hlen : 60 < len) (w : World) :
    Calls Try.prog 6 #[.slice oad len cap, .agg #[.int .i64 b0, .int .i64 b1], .int .i64 many] w fun e w' => e = .returned (.bool true) ∧ Below w.heap.size w w' := by
  have h60 : decide (60 < (len : Int)) = true := by simp; omega
  go_enter Try.func6, Try.ntmps6
  go_wp2_with (first
    | (go_at_call 7; refine (alive25 _).mono ?_; rintro e w1 ⟨rfl, hb1⟩))
  have hB : Below w.heap.size w w1 := ((Below.refl _ w).alloc (Nat.le_refl _) _).trans (hb1.mono (by simp))
  exact bodyPost_ret (v := .bool true) (results_tmp (t := 6) rfl _ _ _) rfl ⟨rfl, hB⟩
end Go.Proofs.Ytlieklclckenoaa
