/-
The abstract layer: rows of zeros: make, append of make, clear; literal slices that are owned. No program in sight. No conditions.
-/
import Derived.Test.YthcedfamidlbdaaZk
import Derived.Laws.MakeOwn
import Derived.Lib.AppendZeros
namespace Go.Proofs.Ythcedfamidlbdaa
set_option linter.unusedSimpArgs false
set_option linter.unusedVariables false
set_option linter.unusedSectionVars false
open Go.RowKit

theorem zero_at {zs : Array Value} {n ks : Nat} (hz : zs.size = ks) {i j : Nat} (hj : j < ks) (hi : i * ks + j < n) : ((Array.range n).map fun q => zs[q % zs.size]!).getD (i * ks + j) Go.undef = zs.getD j Go.undef := by
  subst hz
  have e : (i * zs.size + j) % zs.size = j := by rw [Nat.add_comm, Nat.add_mul_mod_self_right, Nat.mod_eq_of_lt hj]
  have h1 : (zs[j]! : Value) = zs[j] := by simp [hj]
  simp only [Array.getD_eq_getD_getElem?]
  rw [Array.getElem?_map, Array.getElem?_range, if_pos hi]
  simp only [Option.map_some, Option.getD_some, e, h1]
  rw [Array.getElem?_eq_getElem hj]
  rfl
theorem getD_rep {n i : Nat} {z : V} (h : i < n) : (List.replicate n z).getD i V.undef = z := by
  simp [List.getD_eq_getElem?_getD, List.getElem?_replicate, h]
theorem fits_rep {k : Sh} {n : Nat} {z : V} (h : z.fits k = true) : ∀ e ∈ List.replicate n z, e.fits k = true := fun e he => by
  rw [(List.mem_replicate.1 he).2]; exact h

section
variable {P : Program} {K : Ker} {h : Hp} {a : Nat} {k : Sh} {t e : TypeId} {i : TypeInfo} {z : Value} {zv : V}

/-- make([]T, n). -/
theorem mkz_run (ht : P.underlying t = some (.slice e)) (hi : P.info? e = some i) (hz : i.zero = some z) (hsz : i.size = k.size) (hpos : 0 < i.bytes) (kl kc : IntKind) {m : Int} (h0 : 0 ≤ m) (hb : m.toNat * i.bytes ≤ 140737488355328) (w : World) :
    (Instr.makeSlice t (.int kl m) (.int kc m)).run P w = .ok (.slice (some ⟨w.heap.size, 0, none⟩) m.toNat m.toNat) (w.alloc (.cells (madeCells z.cells (m.toNat * k.size)) e)) := by
  have h1 : m.toNat ≤ m.toNat * i.bytes := Nat.le_mul_of_pos_right _ hpos
  have h2 : ((i.bytes : Int) * m) ≤ 281474976710656 := by
    have e1 : m = (m.toNat : Int) := by omega
    rw [e1, ← Int.natCast_mul, Nat.mul_comm]
    omega
  rw [← hsz]
  exact run_make w t e i z ht hi hz kl kc m m h0 (Int.le_refl _) h2 (by omega)
theorem made_size (zs : Array Value) (n : Nat) : (madeCells zs n).size = n := by simp [madeCells]
theorem made_at {zs : Array Value} {n ks : Nat} (hz : zs.size = ks) {i j : Nat} (hj : j < ks) (hi : i * ks + j < n) : (madeCells zs n).getD (i * ks + j) Go.undef = zs.getD j Go.undef := zero_at hz hj hi

theorem mkz_own_yields (hr : Rel K h) (ha : ¬ K.live a) (ht : P.underlying t = some (.slice e)) (hi : P.info? e = some i) (hz : i.zero = some z) (hsz : i.size = k.size) (hpos : 0 < i.bytes) (hv : VR K zv z) (hf : zv.fits k = true) (kl kc : IntKind) {m : Int} (h0 : 0 ≤ m) (hb : m.toNat * i.bytes ≤ 140737488355328) :
    ∃ cv K', (Instr.makeSlice t (.int kl m) (.int kc m)).run P K.w = .ok cv K'.w ∧ K.le K' ∧ (∀ n, K'.live n → K.live n ∨ n = a) ∧ VR K' (.rs a k 0 m.toNat) cv ∧ Rel K' (h.set a (.arr k (List.replicate m.toNat zv))) := by
  obtain ⟨c1, c2, c3, c4⟩ := hv.cells hf
  obtain ⟨K', q1, q2, q3, q4, q5⟩ := ownRow_yields hr ha (k := k) (es := List.replicate m.toNat zv) (fits_rep hf) (madeCells z.cells (m.toNat * k.size)) e m.toNat (by simp) (by rw [made_size]; exact Nat.le_refl _) (fun q hq j hj => by
    rw [List.length_replicate] at hq
    rw [getD_rep hq, made_at c2 hj (idx_split hj hq)]
    exact c3 j hj)
  rw [List.length_replicate] at q4
  exact ⟨_, K', by rw [q1]; exact mkz_run ht hi hz hsz hpos kl kc h0 hb K.w, q2, q3, q4, q5⟩
theorem mkz_tok_yields (hr : Rel K h) (ha : ¬ K.live a) (ht : P.underlying t = some (.slice e)) (hi : P.info? e = some i) (hz : i.zero = some z) (hsz : i.size = k.size) (hpos : 0 < i.bytes) (hv : VR K zv z) (hf : zv.fits k = true) (kl kc : IntKind) {m : Int} (h0 : 0 ≤ m) (hb : m.toNat * i.bytes ≤ 140737488355328) :
    ∃ cv K', (Instr.makeSlice t (.int kl m) (.int kc m)).run P K.w = .ok cv K'.w ∧ K.le K' ∧ (∀ n, K'.live n → K.live n ∨ n = a) ∧ VR K' (.sl k (.tok a) (List.replicate m.toNat zv)) cv ∧ Rel K' (h.set a .tip) := by
  obtain ⟨c1, c2, c3, c4⟩ := hv.cells hf
  obtain ⟨K', q1, q2, q3, q4, q5⟩ := newRow_yields hr ha (k := k) (es := List.replicate m.toNat zv) (fits_rep hf) (madeCells z.cells (m.toNat * k.size)) e m.toNat (by simp) (by rw [made_size]; exact Nat.le_refl _) (fun q hq j hj => by
    rw [List.length_replicate] at hq
    rw [getD_rep hq, made_at c2 hj (idx_split hj hq)]
    exact c3 j hj)
  rw [List.length_replicate] at q4
  exact ⟨_, K', by rw [q1]; exact mkz_run ht hi hz hsz hpos kl kc h0 hb K.w, q2, q3, q4, q5⟩

/-- append([]T(nil), make([]T, n)..). -/
theorem appz_yields {tn : TypeId} {kn : IntKind} (hr : Rel K h) (ha : ¬ K.live a) (ht : P.underlying t = some (.slice e)) (htn : P.underlying tn = some (.int kn)) (hi : P.info? e = some i) (hz : i.zero = some z) (hsz : i.size = k.size) (hks : 0 < k.size) (hpos : 0 < i.bytes) (hv : VR K zv z) (hf : zv.fits k = true) (ty : TypeId) (kl : IntKind) {m : Int} (h0 : 0 < m) (hb : m.toNat * i.bytes ≤ 140737488355328) :
    ∃ cv K', (Builtin.append_ #[t, tn] ty #[.slice none 0 0, .int kl m]).run P K.w = .ok cv K'.w ∧ K.le K' ∧ (∀ n, K'.live n → K.live n ∨ n = a) ∧ VR K' (.rs a k 0 m.toNat) cv ∧ Rel K' (h.set a (.arr k (List.replicate m.toNat zv))) := by
  obtain ⟨c1, c2, c3, c4⟩ := hv.cells hf
  have h1 : m.toNat ≤ m.toNat * i.bytes := Nat.le_mul_of_pos_right _ hpos
  have e1 : (m.toNat : Int) = m := by omega
  have hrun := Lib.run_append_nil_zeros (P := P) K.w t tn ty e i z kl kn ht htn hi hz m.toNat (by omega) (by omega) (by omega) (by omega)
  rw [e1] at hrun
  have hge : m.toNat ≤ grownCap K.w m.toNat 0 e := by have := grownCap_ge K.w m.toNat 0 e; simpa using this
  have hsize : (Builtin.zeroCells z.cells m.toNat ++ Builtin.zeroCells z.cells (grownCap K.w m.toNat 0 e - m.toNat)).size = grownCap K.w m.toNat 0 e * k.size := by
    rw [Array.size_append, size_zeroCells, size_zeroCells, c2, ← Nat.add_mul]
    congr 1
    omega
  obtain ⟨K', q1, q2, q3, q4, q5⟩ := ownRow_yields (K := K.drew) (h := h) hr.drew (a := a) ha (k := k) (es := List.replicate m.toNat zv) (fits_rep hf) (Builtin.zeroCells z.cells m.toNat ++ Builtin.zeroCells z.cells (grownCap K.w m.toNat 0 e - m.toNat)) e (grownCap K.w m.toNat 0 e) (by simpa using hge) (by rw [hsize]; exact Nat.le_refl _) (fun q hq j hj => by
    rw [List.length_replicate] at hq
    have hlt := idx_split hj hq
    rw [getD_rep hq, Array.getD_eq_getD_getElem?, Array.getElem?_append_left (by rw [size_zeroCells, c2]; exact hlt), ← Array.getD_eq_getD_getElem?]
    unfold Builtin.zeroCells
    rw [zero_at c2 hj (by rw [c2]; exact hlt)]
    exact (c3 j hj).mono K.le_drew)
  rw [List.length_replicate] at q4
  refine ⟨_, K', ?_, K.le_drew.trans q2, q3, q4, q5⟩
  rw [q1]
  exact hrun

/-- clear of a part of an owned array. -/
theorem clear_yields (hr : Rel K h) {n off ln : Nat} {es : List V} (hn : h n = some (.arr k es)) (hle : off + ln ≤ es.length) {cx : Value} (hx : VR K (.rs n k off ln) cx) (ht : P.underlying t = some (.slice e)) (hi : P.info? e = some i) (hz : i.zero = some z) (hv : VR K zv z) (hf : zv.fits k = true) (ty : TypeId) :
    ∃ K', (Builtin.clear_ #[t] ty #[cx]).run P K.w = .ok (.tuple #[]) K'.w ∧ K.le K' ∧ (∀ m, K'.live m → K.live m) ∧ Rel K' (h.set n (.arr k (es.take off ++ List.replicate ln zv ++ es.drop (off + ln)))) := by
  obtain ⟨v1, v2, v3, v4⟩ := hv.cells hf
  cases hx with
  | rs _ _ _ _ cap hl hcap hm =>
    by_cases hz0 : ln = 0
    · subst hz0
      refine ⟨K, by simp [Builtin.clear_, run_underlying ht], .refl K, fun m hm => hm, ?_⟩
      have e1 : es.take off ++ List.replicate 0 zv ++ es.drop (off + 0) = es := by simp
      have e2 : h.set n (.arr k es) = h := by
        funext x
        unfold Hp.set
        split
        · rename_i e; subst e; exact hn.symm
        · rfl
      rw [e1, e2]
      exact hr
    · have hbr := hr.blk n _ hn
      cases hbr with
      | arr _ _ c T hh hcs himm hfit hvs =>
        have hzl : (Builtin.zeroCells z.cells ln).toList.length = ln * k.size := by simp [size_zeroCells, v2]
        have hend : off * k.size + ln * k.size ≤ es.length * k.size := by rw [← Nat.add_mul]; exact Nat.mul_le_mul_right _ hle
        have hzc : ∀ q j, q < ln → j < k.size → (Builtin.zeroCells z.cells ln).getD (q * k.size + j) Go.undef = z.cells.getD j Go.undef := fun q j hq hj => by
          unfold Builtin.zeroCells
          exact zero_at v2 hj (by rw [v2]; exact idx_split hj hq)
        have hst := run_storeCells_at P (K.mu n) (off * k.size) T (Builtin.zeroCells z.cells ln).toList 0 c K.w hh (by rw [hzl]; omega) (by
          intro u hu
          obtain ⟨q, hq, rfl⟩ := List.getElem_of_mem hu
          rw [hzl] at hq
          obtain ⟨d1, d2, d3⟩ := div_split hq
          have := hzc _ _ d1 d2
          rw [d3, Array.getD_eq_getD_getElem?, Array.getElem?_eq_getElem (by rw [size_zeroCells, v2]; exact hq)] at this
          have h2 : (Builtin.zeroCells z.cells ln).toList[q] = z.cells.getD (q % k.size) Go.undef := by simpa using this
          rw [h2]
          exact (v3 _ d2).oneCell (v4 _ d2))
        simp only [Nat.add_zero, hzl] at hst
        generalize hc' : (c.toList.take (off * k.size) ++ (Builtin.zeroCells z.cells ln).toList ++ c.toList.drop (off * k.size + ln * k.size)).toArray = c' at hst
        have hcsz : c'.size = c.size := by rw [← hc']; simp only [List.size_toArray, List.length_append, List.length_take, List.length_drop, Array.length_toList, hzl]; omega
        have hle1 := K.le_row (K.mu n) c' c T hh hcsz (hr.base n _ hn) (fun o ho => by rw [himm] at ho; omega)
        have hlen : (es.take off ++ List.replicate ln zv ++ es.drop (off + ln)).length = es.length := by simp; omega
        refine ⟨K.row (K.mu n) c', ?_, hle1, fun m hm => hm, ?_⟩
        · have hzv : (zeroValue e).run P K.w = .ok z K.w := by simp [zeroValue, typeInfo, hi, hz]
          obtain ⟨l', rfl⟩ : ∃ l', ln = l' + 1 := ⟨ln - 1, by omega⟩
          simp only [Builtin.clear_, Sem.run_bind, run_underlying ht, Result.andThen_ok, List.getElem?_toArray, List.getElem?_cons_zero, hzv, hst, Sem.run_pure]
          rfl
        · refine hr.row hn c' c T hh hcsz (fun o ho => by rw [himm] at ho; omega) (.arr k _ c' T ?_ (by rw [hlen, hcsz]; exact hcs) himm ?_ ?_)
          · show (K.w.setRow (K.mu n) c').heap[K.mu n]? = _
            exact setRow_heap K.w (K.mu n) c c' T (0, 0) hh
          · intro x hx
            rcases List.mem_append.1 hx with hx | hx
            · rcases List.mem_append.1 hx with hx | hx
              · exact hfit x (List.mem_of_mem_take hx)
              · exact fits_rep hf x hx
            · exact hfit x (List.mem_of_mem_drop hx)
          · intro q hq j hj
            rw [hlen] at hq
            have hidx := idx_split hj hq
            have hget : c'[q * k.size + j]? = if q < off then c[q * k.size + j]? else if q < off + ln then (Builtin.zeroCells z.cells ln)[(q - off) * k.size + j]? else c[q * k.size + j]? := by
              rw [← hc']
              simp only [List.getElem?_toArray, List.append_assoc]
              by_cases e1 : q < off
              · have h1 := idx_split hj e1
                rw [if_pos e1, List.getElem?_append_left (by simp; omega), List.getElem?_take, if_pos h1]
                simp
              · rw [if_neg e1]
                have h1 : off * k.size ≤ q * k.size := Nat.mul_le_mul_right _ (by omega)
                have hsub : q * k.size - off * k.size = (q - off) * k.size := (Nat.sub_mul _ _ _).symm
                have htk : (c.toList.take (off * k.size)).length = off * k.size := by simp; omega
                rw [List.getElem?_append_right (by rw [htk]; omega), htk]
                by_cases e2 : q < off + ln
                · have h2 := idx_split (k := k.size) (i := q - off) (n := ln) hj (by omega)
                  rw [if_pos e2, List.getElem?_append_left (by rw [hzl]; omega)]
                  have : q * k.size + j - off * k.size = (q - off) * k.size + j := by omega
                  rw [this]
                  simp
                · have h2 : (off + ln) * k.size ≤ q * k.size := Nat.mul_le_mul_right _ (by omega)
                  rw [Nat.add_mul] at h2
                  rw [if_neg e2, List.getElem?_append_right (by rw [hzl]; omega), hzl, List.getElem?_drop]
                  have : off * k.size + ln * k.size + (q * k.size + j - off * k.size - ln * k.size) = q * k.size + j := by omega
                  rw [this]
                  simp
            have hes : (es.take off ++ List.replicate ln zv ++ es.drop (off + ln)).getD q V.undef = if q < off then es.getD q V.undef else if q < off + ln then zv else es.getD q V.undef := by
              simp only [List.getD_eq_getElem?_getD, List.append_assoc]
              have htk : (es.take off).length = off := by simp; omega
              by_cases e1 : q < off
              · rw [if_pos e1, List.getElem?_append_left (by rw [htk]; exact e1), List.getElem?_take, if_pos e1]
              · rw [if_neg e1, List.getElem?_append_right (by rw [htk]; omega), htk]
                by_cases e2 : q < off + ln
                · rw [if_pos e2, List.getElem?_append_left (by simp; omega)]
                  rw [List.getElem?_replicate, if_pos (by omega)]
                  rfl
                · rw [if_neg e2, List.getElem?_append_right (by simp; omega), List.getElem?_drop]
                  have : off + ln + (q - off - (List.replicate ln zv).length) = q := by simp; omega
                  rw [this]
            rw [hes, Array.getD_eq_getD_getElem?, hget]
            by_cases e1 : q < off
            · rw [if_pos e1, if_pos e1, ← Array.getD_eq_getD_getElem?]
              exact (hvs q hq j hj).mono hle1
            · rw [if_neg e1, if_neg e1]
              by_cases e2 : q < off + ln
              · rw [if_pos e2, if_pos e2, ← Array.getD_eq_getD_getElem?, hzc _ _ (by omega) hj]
                exact (v3 j hj).mono hle1
              · rw [if_neg e2, if_neg e2, ← Array.getD_eq_getD_getElem?]
                exact (hvs q hq j hj).mono hle1
end

/-- '[]T{..}', whole, in an array that the code owns. -/
theorem bslice_own_yields {P : Program} {K : Ker} {h : Hp} (hr : Rel K h) {a : Nat} (ha : ¬ K.live a) {k : Sh} {t e : TypeId} {i : TypeInfo} {z : Value} (ht : P.underlying t = some (.slice e)) (hi : P.info? e = some i) (hz : i.zero = some z)
    (hsz : i.size = k.size) {vs : List V} {cvs : List Value} (hl : vs.length = cvs.length) (hv : ∀ i, i < vs.length → VR K (vs.getD i V.undef) (cvs.getD i Go.undef)) (hf : ∀ v ∈ vs, v.fits k = true) (hsmall : cvs.length * k.size ≤ 16777216) :
    ∃ cv K', (Instr.buildSlice t cvs.length ((cvs.zipIdx 0).map fun p => (p.2, p.1)).toArray).run P K.w = .ok cv K'.w ∧ K.le K' ∧ (∀ n, K'.live n → K.live n ∨ n = a) ∧ VR K' (.rs a k 0 vs.length) cv ∧ Rel K' (h.set a (.arr k vs)) := by
  have hmem : ∀ i, i < vs.length → vs.getD i V.undef ∈ vs := fun i hi => by
    rw [List.getD_eq_getElem?_getD, List.getElem?_eq_getElem hi]; exact List.getElem_mem _
  have hcs : ∀ cv ∈ cvs, cv.cells.size = k.size := by
    intro cv hcv
    obtain ⟨j, hj, rfl⟩ := List.getElem_of_mem hcv
    have := (hv j (by omega)).cells (hf _ (hmem j (by omega)))
    rw [List.getD_eq_getElem?_getD (l := cvs), List.getElem?_eq_getElem hj] at this
    exact this.2.1
  obtain ⟨zs, hzs0, hzs1⟩ : ∃ zs : Array Value, (cvs.length * k.size = 0 → zs = #[]) ∧ (¬ cvs.length * k.size = 0 → zs = z.cells) := by
    by_cases e0 : cvs.length * k.size = 0
    · exact ⟨#[], fun _ => rfl, fun h => absurd e0 h⟩
    · exact ⟨z.cells, fun h => absurd h e0, fun _ => rfl⟩
  obtain ⟨c, g1, g2, g3, g4⟩ := fillRow k.size (fun i => some (i * k.size, k.size)) (fun _ => rfl) cvs 0 ((Array.range (cvs.length * k.size)).map (fun x => zs[x % zs.size]!)) hcs (by simp)
  obtain ⟨K', q1, q2, q3, q4, q5⟩ := ownRow_yields hr ha hf c e cvs.length (by omega) (by rw [g2]; simp) (fun i hi j hj => by
    have h1 := (hv i hi).cells (hf _ (hmem i hi))
    have h2 := g4 i (by omega) j hj
    rw [Nat.zero_add] at h2
    rw [h2]
    exact h1.2.2.1 j hj)
  refine ⟨_, K', ?_, q2, q3, q4, q5⟩
  rw [q1]
  have hgt : ¬ (cvs.length * i.size > 2 ^ 24) := by rw [hsz]; omega
  rw [hl]
  simp only [hsz] at hgt
  have hsizeOf : (sizeOf e).run P K.w = .ok k.size K.w := by simp [sizeOf, typeInfo, hi, hsz]
  by_cases e0 : cvs.length * k.size = 0
  · rw [hzs0 e0] at g1
    simp only [Instr.buildSlice, Sem.run_bind, run_underlying ht, Result.andThen_ok, hsizeOf, if_neg hgt, Sem.run_pure, if_pos e0, g1]
    rfl
  · rw [hzs1 e0] at g1
    have hzv : (zeroValue e).run P K.w = .ok z K.w := by simp [zeroValue, typeInfo, hi, hz]
    simp only [Instr.buildSlice, Sem.run_bind, run_underlying ht, Result.andThen_ok, hsizeOf, if_neg hgt, Sem.run_pure, if_neg e0, hzv, g1]
    rfl

end Go.Proofs.Ythcedfamidlbdaa
