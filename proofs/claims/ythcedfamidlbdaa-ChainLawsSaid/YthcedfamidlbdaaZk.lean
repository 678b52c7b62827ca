/-
The abstract layer, eleventh part: literal slices, stores, make. No program in sight. No conditions.
-/
import Derived.Test.YthcedfamidlbdaaZj
namespace Go.Proofs.Ythcedfamidlbdaa
set_option linter.unusedSimpArgs false
set_option linter.unusedVariables false
set_option linter.unusedSectionVars false
open Go.RowKit

theorem foldCells (off : Nat) (c0 : Array Value) (cs : Array Value) :
    (cs.zipIdx.foldl (fun a (c, j) => a.setIfInBounds (off + j) c) c0).size = c0.size ∧
    ∀ j, j < c0.size → (cs.zipIdx.foldl (fun a (c, j) => a.setIfInBounds (off + j) c) c0).getD j Go.undef = if off ≤ j ∧ j < off + cs.size then cs.getD (j - off) Go.undef else c0.getD j Go.undef := by
  have key : ∀ (cs : List Value) (s : Nat) (c0 : Array Value), ((cs.zipIdx s).foldl (fun cs (p : Value × Nat) => cs.setIfInBounds (off + p.2) p.1) c0).size = c0.size ∧
      ∀ j, j < c0.size → ((cs.zipIdx s).foldl (fun cs (p : Value × Nat) => cs.setIfInBounds (off + p.2) p.1) c0).getD j Go.undef = if off + s ≤ j ∧ j < off + s + cs.length then cs.getD (j - (off + s)) Go.undef else c0.getD j Go.undef := by
    intro cs
    induction cs with
    | nil => intro s c0; exact ⟨rfl, fun j hj => by simp; omega⟩
    | cons c cs ih =>
      intro s c0
      obtain ⟨i1, i2⟩ := ih (s + 1) (c0.setIfInBounds (off + s) c)
      rw [List.zipIdx_cons, List.foldl_cons]
      refine ⟨by rw [i1]; simp, fun j hj => ?_⟩
      rw [i2 j (by simpa using hj)]
      by_cases e : j = off + s
      · subst e
        simp [hj, Array.getD_eq_getD_getElem?]
        intro h1
        omega
      · by_cases e2 : off + (s + 1) ≤ j ∧ j < off + (s + 1) + cs.length
        · rw [if_pos e2, if_pos (by simp; omega)]
          have : j - (off + s) = (j - (off + (s + 1))) + 1 := by omega
          rw [this]
          simp
        · rw [if_neg e2, if_neg (by simp; omega)]
          simp only [Array.getD_eq_getD_getElem?]
          rw [Array.getElem?_setIfInBounds_ne (by omega)]
  have e : cs.zipIdx.foldl (fun a (c, j) => a.setIfInBounds (off + j) c) c0 = (cs.toList.zipIdx 0).foldl (fun cs (p : Value × Nat) => cs.setIfInBounds (off + p.2) p.1) c0 := by
    rw [← Array.foldl_toList, Array.toList_zipIdx]
  obtain ⟨k1, k2⟩ := key cs.toList 0 c0
  refine ⟨by rw [e, k1], fun j hj => ?_⟩
  rw [e, k2 j hj]
  simp [Array.getD_eq_getD_getElem?, List.getD_eq_getElem?_getD]

theorem fillRow (k : Nat) (place : Nat → Option (Nat × Nat)) (hp : ∀ i, place i = some (i * k, k)) : ∀ (cvs : List Value) (s : Nat) (c0 : Array Value), (∀ cv ∈ cvs, cv.cells.size = k) → (s + cvs.length) * k ≤ c0.size →
    ∃ c, Instr.fill place c0 ((cvs.zipIdx s).map fun p => (p.2, p.1)) = some c ∧ c.size = c0.size ∧ (∀ j, j < s * k → c.getD j Go.undef = c0.getD j Go.undef) ∧
      ∀ i, i < cvs.length → ∀ j, j < k → c.getD ((s + i) * k + j) Go.undef = (cvs.getD i Go.undef).cells.getD j Go.undef
  | [], s, c0, _, _ => ⟨c0, rfl, rfl, fun _ _ => rfl, fun i hi => absurd hi (by simp)⟩
  | cv :: cvs, s, c0, hc, hs => by
    have h0 := hc cv (by simp)
    simp only [List.length_cons] at hs
    have hs1 : s * k + k ≤ c0.size := by
      have : (s + 1) * k ≤ (s + (cvs.length + 1)) * k := Nat.mul_le_mul_right _ (by omega)
      rw [Nat.add_mul, Nat.one_mul] at this
      omega
    obtain ⟨f1, f2⟩ := foldCells (s * k) c0 cv.cells
    generalize hc1 : cv.cells.zipIdx.foldl (fun a (c, j) => a.setIfInBounds (s * k + j) c) c0 = c1 at f1 f2
    obtain ⟨c, g1, g2, g3, g4⟩ := fillRow k place hp cvs (s + 1) c1 (fun x hx => hc x (by simp [hx])) (by rw [f1, show s + 1 + cvs.length = s + (cvs.length + 1) by omega]; exact hs)
    refine ⟨c, ?_, by rw [g2, f1], ?_, ?_⟩
    · rw [List.zipIdx_cons, List.map_cons, Instr.fill]
      simp only [hp, h0]
      rw [if_neg (by simp; omega), hc1]
      exact g1
    · intro j hj
      rw [g3 j (by rw [Nat.add_mul]; omega), f2 j (by omega), if_neg (by omega)]
    · intro i hi j hj
      cases i with
      | zero =>
        rw [Nat.add_zero, g3 _ (by rw [Nat.add_mul]; omega), f2 _ (by omega), if_pos (by omega)]
        simp
      | succ i =>
        have := g4 i (by simpa using hi) j hj
        have e : s + 1 + i = s + (i + 1) := by omega
        rw [e] at this
        simpa using this

/-- '[]T{..}', whole. -/
theorem bslice_yields {P : Program} {K : Ker} {h : Hp} (hr : Rel K h) {a : Nat} (ha : ¬ K.live a) {k : Sh} {t e : TypeId} {i : TypeInfo} {z : Value} (ht : P.underlying t = some (.slice e)) (hi : P.info? e = some i) (hz : i.zero = some z)
    (hsz : i.size = k.size) {vs : List V} {cvs : List Value} (hl : vs.length = cvs.length) (hv : ∀ i, i < vs.length → VR K (vs.getD i V.undef) (cvs.getD i Go.undef)) (hf : ∀ v ∈ vs, v.fits k = true) (hsmall : cvs.length * k.size ≤ 16777216) :
    ∃ cv K', (Instr.buildSlice t cvs.length ((cvs.zipIdx 0).map fun p => (p.2, p.1)).toArray).run P K.w = .ok cv K'.w ∧ K.le K' ∧ (∀ n, K'.live n → K.live n ∨ n = a) ∧ VR K' (.sl k (.tok a) vs) cv ∧ Rel K' (h.set a .tip) := by
  have hmem : ∀ i, i < vs.length → vs.getD i V.undef ∈ vs := fun i hi => by
    rw [List.getD_eq_getElem?_getD, List.getElem?_eq_getElem hi]; exact List.getElem_mem _
  have hcs : ∀ cv ∈ cvs, cv.cells.size = k.size := by
    intro cv hcv
    obtain ⟨j, hj, rfl⟩ := List.getElem_of_mem hcv
    have := (hv j (by omega)).cells (hf _ (hmem j (by omega)))
    rw [List.getD_eq_getElem?_getD (l := cvs), List.getElem?_eq_getElem hj] at this
    exact this.2.1
  obtain ⟨zs, hzs0, hzs1⟩ : ∃ zs : Array Value, (cvs.length * k.size = 0 → zs = #[]) ∧ (¬ cvs.length * k.size = 0 → zs = z.cells) := by
    by_cases e0 : cvs.length * k.size = 0
    · exact ⟨#[], fun _ => rfl, fun h => absurd e0 h⟩
    · exact ⟨z.cells, fun h => absurd h e0, fun _ => rfl⟩
  obtain ⟨c, g1, g2, g3, g4⟩ := fillRow k.size (fun i => some (i * k.size, k.size)) (fun _ => rfl) cvs 0 ((Array.range (cvs.length * k.size)).map (fun x => zs[x % zs.size]!)) hcs (by simp)
  obtain ⟨K', q1, q2, q3, q4, q5⟩ := newRow_yields hr ha hf c e cvs.length (by omega) (by rw [g2]; simp) (fun i hi j hj => by
    have h1 := (hv i hi).cells (hf _ (hmem i hi))
    have h2 := g4 i (by omega) j hj
    rw [Nat.zero_add] at h2
    rw [h2]
    exact h1.2.2.1 j hj)
  refine ⟨_, K', ?_, q2, q3, q4, q5⟩
  rw [q1]
  have hgt : ¬ (cvs.length * i.size > 2 ^ 24) := by rw [hsz]; omega
  rw [hl]
  simp only [hsz] at hgt
  have hsizeOf : (sizeOf e).run P K.w = .ok k.size K.w := by simp [sizeOf, typeInfo, hi, hsz]
  by_cases e0 : cvs.length * k.size = 0
  · rw [hzs0 e0] at g1
    simp only [Instr.buildSlice, Sem.run_bind, run_underlying ht, Result.andThen_ok, hsizeOf, if_neg hgt, Sem.run_pure, if_pos e0, g1]
    rfl
  · rw [hzs1 e0] at g1
    have hzv : (zeroValue e).run P K.w = .ok z K.w := by simp [zeroValue, typeInfo, hi, hz]
    simp only [Instr.buildSlice, Sem.run_bind, run_underlying ht, Result.andThen_ok, hsizeOf, if_neg hgt, Sem.run_pure, if_neg e0, hzv, g1]
    rfl

/-- What a store makes of an element. -/
def storePart (t : Sh) (o : Nat) (e v : V) : V :=
  match t, e with
  | .leaf, .agg cs => .agg (cs.set o v)
  | .leaf, _ => v
  | .agg m, .agg cs => if o = 0 ∧ cs.length = m then v else .agg (cs.take o ++ v.cells ++ cs.drop (o + m))
  | .agg _, e => e

theorem storePart_cells {k t : Sh} {o : Nat} {e v : V} (hp : partOK k t o) (hf : e.fits k = true) (hv : v.fits t = true) : (storePart t o e v).fits k = true ∧ o + t.size ≤ k.size ∧
    ∀ j, j < k.size → (storePart t o e v).cell j = if o ≤ j ∧ j < o + t.size then v.cell (j - o) else e.cell j := by
  cases k with
  | leaf =>
    cases t with
    | leaf =>
      simp only [partOK] at hp; subst hp
      have e1 : storePart .leaf 0 e v = v := by
        cases e <;> first | rfl | (simp [V.fits, V.leafy] at hf)
      refine ⟨by rw [e1]; exact hv, by simp [Sh.size], ?_⟩
      intro j hj
      have : j = 0 := by simp [Sh.size] at hj; exact hj
      subst this
      rw [e1, if_pos (by simp [Sh.size])]
    | agg m => exact hp.elim
  | agg n =>
    cases e with
    | agg cs =>
      simp only [V.fits, Bool.and_eq_true, decide_eq_true_eq, List.all_eq_true] at hf
      obtain ⟨h1, h2⟩ := hf
      cases t with
      | leaf =>
        simp only [partOK] at hp
        simp only [V.fits] at hv
        have hvc : v.cells = [v] := by cases v <;> first | rfl | (simp [V.leafy] at hv)
        refine ⟨?_, by simp [Sh.size]; omega, ?_⟩
        · simp only [storePart, V.fits, Bool.and_eq_true, decide_eq_true_eq, List.all_eq_true, List.length_set]
          refine ⟨h1, fun x hx => ?_⟩
          rcases List.mem_or_eq_of_mem_set hx with hx | rfl
          · exact h2 x hx
          · exact hv
        · intro j hj
          show (cs.set o v).getD j V.undef = _
          by_cases e : o = j
          · subst e
            rw [if_pos (by simp [Sh.size])]
            simp only [V.cell, hvc, Nat.sub_self, List.getD_eq_getElem?_getD]
            rw [List.getElem?_set_self (by omega)]
            rfl
          · rw [if_neg (by simp [Sh.size]; omega)]
            simp only [V.cell, V.cells, List.getD_eq_getElem?_getD]
            rw [List.getElem?_set_ne e]
      | agg m =>
        simp only [partOK] at hp
        cases v with
        | agg us =>
          simp only [V.fits, Bool.and_eq_true, decide_eq_true_eq, List.all_eq_true] at hv
          obtain ⟨g1, g2⟩ := hv
          unfold storePart
          by_cases hc : o = 0 ∧ cs.length = m
          · simp only [if_pos hc]
            refine ⟨?_, by simp [Sh.size]; omega, fun j hj => ?_⟩
            · simp only [V.fits, Bool.and_eq_true, decide_eq_true_eq, List.all_eq_true]
              exact ⟨by omega, g2⟩
            · have hj' : j < n := hj
              have hsz : (Sh.agg m).size = m := rfl
              rw [if_pos (by rw [hsz]; omega)]
              have : j - o = j := by omega
              rw [this]
          · simp only [if_neg hc]
            refine ⟨?_, by simp [Sh.size]; omega, ?_⟩
            · simp only [V.fits, V.cells, Bool.and_eq_true, decide_eq_true_eq, List.all_eq_true]
              refine ⟨by simp; omega, fun x hx => ?_⟩
              rcases List.mem_append.1 hx with hx | hx
              · rcases List.mem_append.1 hx with hx | hx
                · exact h2 x (List.mem_of_mem_take hx)
                · exact g2 x hx
              · exact h2 x (List.mem_of_mem_drop hx)
            · intro j hj
              have hj : j < n := hj
              have hsz : (Sh.agg m).size = m := rfl
              rw [hsz]
              show (cs.take o ++ us ++ cs.drop (o + m)).getD j V.undef = _
              simp only [V.cell, V.cells, List.getD_eq_getElem?_getD, List.append_assoc]
              by_cases e1 : o ≤ j ∧ j < o + m
              · rw [if_pos e1, List.getElem?_append_right (by simp; omega), List.getElem?_append_left (by simp; omega)]
                have : j - (cs.take o).length = j - o := by simp; omega
                rw [this]
              · rw [if_neg e1]
                by_cases e2 : j < o
                · rw [List.getElem?_append_left (by simp; omega), List.getElem?_take, if_pos e2]
                · rw [List.getElem?_append_right (by simp; omega), List.getElem?_append_right (by simp; omega), List.getElem?_drop]
                  congr 2
                  simp
                  omega
        | _ => simp [V.fits] at hv
    | _ => simp [V.fits] at hf

theorem aggOf_cells {K : Ker} {t : Sh} {v : V} {cv : Value} (r : VR K v cv) (hf : v.fits t = true) : cv.cells.toList.length = t.size ∧ ∀ x ∈ cv.cells.toList, x.oneCell' = true := by
  obtain ⟨c1, c2, c3, c4⟩ := r.cells hf
  refine ⟨by simpa using c2, fun x hx => ?_⟩
  obtain ⟨j, hj, rfl⟩ := List.getElem_of_mem hx
  have hj' : j < t.size := by rw [← c2]; simpa using hj
  have := c3 j hj'
  rw [Array.getD_eq_getD_getElem?, Array.getElem?_eq_getElem (by omega)] at this
  exact this.oneCell (c4 j hj')

/-- A store through a pointer to a named block. -/
theorem store_yields {P : Program} {K : Ker} {h : Hp} (hr : Rel K h) {t : TypeId} {s : Sh} (hs : shOf P t = some s) {n : Nat} {k : Sh} {i o : Nat} {es : List V} (hn : h n = some (.arr k es)) (hi : i < es.length) (hp : partOK k s o) {v : V} {cv : Value} (hv : VR K v cv) (hf : v.fits s = true) :
    ∃ K', (Instr.storeAt t (.pointer (some ⟨K.mu n, i * k.size + o, none⟩)) cv).run P K.w = .ok () K'.w ∧ K.le K' ∧ (∀ m, K'.live m → K.live m) ∧ Rel K' (h.set n (.arr k (es.set i (storePart s o (es.getD i V.undef) v)))) := by
  obtain ⟨cl, co⟩ := aggOf_cells hv hf
  have hbr := hr.blk n _ hn
  cases hbr with
  | arr _ _ c T hh hsz himm hfit hvs =>
    have hmem : es.getD i V.undef ∈ es := by
      rw [List.getD_eq_getElem?_getD, List.getElem?_eq_getElem hi]; exact List.getElem_mem _
    obtain ⟨p1, p2, p3⟩ := storePart_cells hp (hfit _ hmem) hf
    have hend : i * k.size + k.size ≤ es.length * k.size := by
      have : (i + 1) * k.size ≤ es.length * k.size := Nat.mul_le_mul_right _ hi
      rw [Nat.add_mul, Nat.one_mul] at this
      exact this
    have hst := run_storeCells_at P (K.mu n) (i * k.size + o) T cv.cells.toList 0 c K.w hh (by rw [cl]; omega) co
    simp only [Nat.add_zero, cl] at hst
    generalize hc' : (c.toList.take (i * k.size + o) ++ cv.cells.toList ++ c.toList.drop (i * k.size + o + s.size)).toArray = c' at hst
    have hcsz : c'.size = c.size := by rw [← hc']; simp only [List.size_toArray, List.length_append, List.length_take, List.length_drop, Array.length_toList, cl]; omega
    have hget : ∀ j, j < c.size → c'.getD j Go.undef = if i * k.size + o ≤ j ∧ j < i * k.size + o + s.size then cv.cells.getD (j - (i * k.size + o)) Go.undef else c.getD j Go.undef := by
      intro j hj
      rw [← hc']
      simp only [Array.getD_eq_getD_getElem?, List.getElem?_toArray, List.append_assoc]
      by_cases e1 : i * k.size + o ≤ j ∧ j < i * k.size + o + s.size
      · rw [if_pos e1, List.getElem?_append_right (by simp; omega), List.getElem?_append_left (by rw [cl]; simp; omega)]
        have : j - (c.toList.take (i * k.size + o)).length = j - (i * k.size + o) := by simp; omega
        rw [this]
        simp
      · rw [if_neg e1]
        by_cases e2 : j < i * k.size + o
        · rw [List.getElem?_append_left (by simp; omega), List.getElem?_take, if_pos e2]
          simp
        · rw [List.getElem?_append_right (by simp; omega), List.getElem?_append_right (by rw [cl]; simp; omega), List.getElem?_drop]
          have : i * k.size + o + s.size + (j - (c.toList.take (i * k.size + o)).length - cv.cells.toList.length) = j := by rw [cl]; simp; omega
          rw [this]
          simp
    have hle := K.le_row (K.mu n) c' c T hh hcsz (hr.base n _ hn) (fun q hq => by rw [himm] at hq; omega)
    refine ⟨K.row (K.mu n) c', ?_, hle, fun m hm => hm, ?_⟩
    · have hsize := run_sizeOf hs K.w
      simp only [Instr.storeAt, Instr.sureAddr, storeVar, Sem.run_bind, Sem.run_pure, Result.andThen_ok, hsize]
      have : cv.cells.size = s.size := by simpa using cl
      rw [if_neg (by rw [this]; simp)]
      exact hst
    · refine hr.row hn c' c T hh hcsz (fun q hq => by rw [himm] at hq; omega) ?_
      refine .arr k _ c' T ?_ (by rw [List.length_set, hcsz]; exact hsz) himm ?_ ?_
      · show (K.w.setRow (K.mu n) c').heap[K.mu n]? = _
        exact setRow_heap K.w (K.mu n) c c' T (0, 0) hh
      · intro e he
        rcases List.mem_or_eq_of_mem_set he with he | rfl
        · exact hfit e he
        · exact p1
      · intro i' hi' j hj
        rw [List.length_set] at hi'
        have hidx := idx_split hj hi'
        rw [hget _ (by omega)]
        obtain ⟨d1, d2, d3, d4⟩ := hv.cells hf
        by_cases e : i = i'
        · subst e
          have e1 : (es.set i (storePart s o (es.getD i V.undef) v)).getD i V.undef = storePart s o (es.getD i V.undef) v := by
            rw [List.getD_eq_getElem?_getD (l := es.set _ _), List.getElem?_set_self hi]; rfl
          rw [e1, p3 j hj]
          by_cases e2 : o ≤ j ∧ j < o + s.size
          · rw [if_pos e2, if_pos (by omega)]
            have : i * k.size + j - (i * k.size + o) = j - o := by omega
            rw [this]
            exact (d3 (j - o) (by omega)).mono hle
          · rw [if_neg e2, if_neg (by omega)]
            exact (hvs i hi j hj).mono hle
        · have e1 : (es.set i (storePart s o (es.getD i V.undef) v)).getD i' V.undef = es.getD i' V.undef := by
            rw [List.getD_eq_getElem?_getD (l := es.set _ _), List.getElem?_set_ne e, List.getD_eq_getElem?_getD]
          rw [e1, if_neg]
          · exact (hvs i' hi' j hj).mono hle
          · intro hc
            rcases Nat.lt_or_ge i i' with hlt | hge
            · have : (i + 1) * k.size ≤ i' * k.size := Nat.mul_le_mul_right _ hlt
              rw [Nat.add_mul, Nat.one_mul] at this
              omega
            · have : (i' + 1) * k.size ≤ i * k.size := Nat.mul_le_mul_right _ (by omega)
              rw [Nat.add_mul, Nat.one_mul] at this
              omega

end Go.Proofs.Ythcedfamidlbdaa
