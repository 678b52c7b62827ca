/-
Slices in memory: a slice that reads as a list (Reads); append onto a slice that the call owns, of whatever slice. Conditions: bounds on lengths.
-/
import Derived.Test.YtlieklclckenoaaOnly
import Derived.Lib.Hide
import Derived.Maps.AppendAt
namespace Go.Proofs.Ytlieklclckenoaa
open Go.RowKit

/-- A slice that reads as these cells, n elements of 'size' cells each; e: its elements' type. -/
def Reads (w : World) (e : TypeId) (size : Nat) (v : Value) (n : Nat) (xs : List Value) : Prop :=
  xs.length = n * size ∧ (∀ u ∈ xs, u.oneCell' = true) ∧ ∃ a cp, v = .slice a n cp ∧ n ≤ cp ∧ cp ≤ maxLen ∧ (n = 0 ∨ ∃ g off cur fr, a = some ⟨g, off, none⟩ ∧ w.heap[g]? = some (.cells cur e fr) ∧ ∀ j u, xs[j]? = some u → cur[off + j]? = some u)

theorem Reads.only {w w' : World} {e : TypeId} {size : Nat} {v : Value} {n : Nat} {xs : List Value} {S : Nat → Prop} (h : Reads w e size v n xs) (k : Only S w w') (hS : ∀ g cur fr, S g → w.heap[g]? ≠ some (.cells cur e fr)) : Reads w' e size v n xs := by
  obtain ⟨hl, h1c, a, cp, hv, h1, h2, h3⟩ := h
  refine ⟨hl, h1c, a, cp, hv, h1, h2, ?_⟩
  rcases h3 with h3 | ⟨g, off, cur, fr, ha, hg, hc⟩
  · exact .inl h3
  · exact .inr ⟨g, off, cur, fr, ha, (k.block g (Array.getElem?_eq_some_iff.1 hg).1 (fun hs => hS g cur fr hs hg)).trans hg, hc⟩
theorem Reads.pure {w w' : World} {e : TypeId} {size : Nat} {v : Value} {n : Nat} {xs : List Value} (h : Reads w e size v n xs) (k : Only (fun _ => False) w w') : Reads w' e size v n xs := h.only k (fun _ _ _ hf => hf.elim)
theorem Reads.alloc {w : World} {e : TypeId} {size : Nat} {v : Value} {n : Nat} {xs : List Value} (h : Reads w e size v n xs) (o : Obj) : Reads (w.alloc o) e size v n xs := h.pure ((Only.refl _ w).alloc o)
theorem Reads.drew {w : World} {e : TypeId} {size : Nat} {v : Value} {n : Nat} {xs : List Value} (h : Reads w e size v n xs) : Reads w.drew e size v n xs := h.pure ((Only.refl _ w).drew)

theorem Reads.of_own {w : World} {base : Nat} {e : TypeId} {size : Nat} {v : Value} {n : Nat} {xs : List Value} (h : w.ownsRow base e size v n xs) (h1c : ∀ u ∈ xs, u.oneCell' = true) : Reads w e size v n xs := by
  refine ⟨h.1, h1c, ?_⟩
  rcases h.2 with ⟨rfl, rfl⟩ | ⟨g, cap, cur, rfl, hg, hh, hc1, hc2, hs, ht⟩
  · exact ⟨none, 0, rfl, Nat.le_refl _, by decide, .inl rfl⟩
  · refine ⟨_, cap, rfl, hc1, hc2, .inr ⟨g, 0, cur, (0, 0), rfl, hh, fun j u hu => ?_⟩⟩
    rw [← ht, List.getElem?_take] at hu
    split at hu
    · simpa using hu
    · cases hu

theorem Reads.shape {w : World} {e : TypeId} {size : Nat} {v : Value} {n : Nat} {xs : List Value} (h : Reads w e size v n xs) : ∃ a cp, v = .slice a n cp ∧ n ≤ cp ∧ cp ≤ maxLen := by
  obtain ⟨-, -, a, cp, hv, h1, h2, -⟩ := h; exact ⟨a, cp, hv, h1, h2⟩

theorem Reads.cells {w : World} {e : TypeId} {size n : Nat} {a : Option Addr} {cp : Nat} {xs : List Value} (h : Reads w e size (.slice a n cp) n xs) (hn : 0 < n) :
    ∃ g off, a = some ⟨g, off, none⟩ ∧ ∀ j u, xs[j]? = some u → w.cell? ⟨g, off + j, none⟩ = some u := by
  obtain ⟨hl, -, a', cp', hv, h1, h2, h3⟩ := h
  cases hv
  rcases h3 with h3 | ⟨g, off, cur, fr, ha, hg, hc⟩
  · omega
  · exact ⟨g, off, ha, fun j u hu => by simp only [World.cell?, hg]; simpa using hc j u hu⟩

theorem Reads.nil (w : World) (e : TypeId) (size : Nat) : Reads w e size (.slice none 0 0) 0 [] := ⟨by simp, by simp, none, 0, rfl, Nat.le_refl _, by decide, .inl rfl⟩

/-- A block that is new, whole. -/
theorem Reads.new (w : World) (e : TypeId) (size n : Nat) (cs : Array Value) (hs : cs.size = n * size) (h1 : ∀ u ∈ cs.toList, u.oneCell' = true) (hn : n ≤ maxLen) : Reads (w.alloc (.cells cs e)) e size (.slice (some ⟨w.heap.size, 0, none⟩) n n) n cs.toList :=
  ⟨by simpa using hs, h1, _, n, rfl, Nat.le_refl _, hn, .inr ⟨w.heap.size, 0, cs, (0, 0), rfl, World.alloc_heap_new w _, fun j u hu => by simpa using hu⟩⟩

theorem own_new (w : World) (base : Nat) (e : TypeId) (hb : base ≤ w.heap.size) (size : Nat) : (w.alloc (.cells #[] e)).ownsRow base e size (.slice (some ⟨w.heap.size, 0, none⟩) 0 0) 0 [] := World.ownsRow_made w #[] 0 hb (by decide) (by simp)

section
variable {P : Program} (w : World)
/-- append(v, y...): v owned, y a slice that reads as ys. -/
theorem run_append_reads (base : Nat) (t ty e : TypeId) (i : TypeInfo) (z : Value) (size bytes : Nat) (ht : P.underlying t = some (.slice e)) (hi : P.info? e = some i) (hz : i.zero = some z)
    (hsize : i.size = size) (hby : i.bytes = bytes) (hzs : z.cells.size = size) (hsz : 0 < size)
    (v : Value) (n : Nat) (xs : List Value) (hown : w.ownsRow base e size v n xs) (y : Value) (m : Nat) (ys : List Value) (hy : Reads w e size y m ys)
    (h63 : n + m ≤ maxLen) (hbytes : (n + m) * bytes ≤ 140737488355328) (hbase : base ≤ w.heap.size) :
    ∃ v' w', (Builtin.append_ #[t, t] ty #[v, y]).run P w = .ok v' w' ∧ w'.ownsRow base e size v' (n + m) (xs ++ ys) ∧ w.grownBy w' v.ownBlock ∧
      (v'.ownBlock = v.ownBlock ∨ v'.ownBlock = some w.heap.size) := by
  obtain ⟨hl, h1c, a, cp, rfl, h1, h2, h3⟩ := hy
  rcases h3 with h0 | ⟨g, off, cur, fr, rfl, hg, hc⟩
  · subst h0
    have hys : ys = [] := List.eq_nil_of_length_eq_zero (by simpa using hl)
    subst hys
    cases a with
    | some a =>
      obtain ⟨v', w', hr, h2, h3, -, h5⟩ := run_append_own_at (P := P) w base t ty e i z size bytes ht hi hz hsize hby hzs hsz v n xs hown a 0 cp [] (by simp) (by simp) (by simp) (by simpa using h63) (by simpa using hbytes) hbase
      exact ⟨v', w', hr, h2, h3, h5⟩
    | none =>
      refine ⟨v, w, ?_, by simpa using hown, ⟨rfl, rfl, rfl, Nat.le_refl _, fun _ _ _ => rfl⟩, .inl rfl⟩
      rcases hown.2 with ⟨rfl, rfl⟩ | ⟨g, cap, cur, rfl, hbg, hgg, hnc, hcm, hcs, htake⟩
      · simp [Builtin.append_, run_underlying ht, sizeOf, typeInfo, hi, Builtin.lenOf, Builtin.firstCells]
      · simp [Builtin.append_, run_underlying ht, sizeOf, typeInfo, hi, Builtin.lenOf, Builtin.firstCells, hnc, storeCells]
  · obtain ⟨v', w', hr, h2', h3', -, h5⟩ := run_append_own_at (P := P) w base t ty e i z size bytes ht hi hz hsize hby hzs hsz v n xs hown ⟨g, off, none⟩ m cp ys hl (fun j u hu => by
        have : (⟨g, off, none⟩ : Addr).add j = ⟨g, off + j, none⟩ := by unfold Addr.add; split <;> simp_all
        rw [this]; simp only [World.cell?, hg]; simpa using hc j u hu) h1c h63 hbytes hbase
    exact ⟨v', w', hr, h2', h3', h5⟩

/-- append onto a slice without room, which holds nothing: nothing that was there turns. -/
theorem run_append_pure (base : Nat) (t ty e : TypeId) (i : TypeInfo) (z : Value) (size bytes : Nat) (ht : P.underlying t = some (.slice e)) (hi : P.info? e = some i) (hz : i.zero = some z)
    (hsize : i.size = size) (hby : i.bytes = bytes) (hzs : z.cells.size = size) (hsz : 0 < size)
    (v : Value) (hv : ∃ g : Option Nat, v = .slice (g.map fun g => ⟨g, 0, none⟩) 0 0) (hown : w.ownsRow base e size v 0 []) (y : Value) (m : Nat) (ys : List Value) (hy : Reads w e size y m ys)
    (h63 : m ≤ maxLen) (hbytes : m * bytes ≤ 140737488355328) (hbase : base ≤ w.heap.size) :
    ∃ v' w', (Builtin.append_ #[t, t] ty #[v, y]).run P w = .ok v' w' ∧ w'.ownsRow base e size v' m ys ∧ Only (fun _ => False) w w' := by
  obtain ⟨v', w', hr, h2, h3, h4⟩ := run_append_reads (P := P) w base t ty e i z size bytes ht hi hz hsize hby hzs hsz v 0 [] hown y m ys hy (by simpa using h63) (by simpa using hbytes) hbase
  refine ⟨v', w', hr, by simpa using h2, ?_⟩
  obtain ⟨hl, h1c, a, cp, rfl, h1, h2', h3'⟩ := hy
  obtain ⟨g, rfl⟩ := hv
  subst hsize
  subst hby
  rcases h3' with h0 | ⟨gy, off, cur, fr, rfl, hg, hc⟩
  · subst h0
    have : w' = w := by
      have e0 : (Builtin.append_ #[t, t] ty #[.slice (g.map fun g => ⟨g, 0, none⟩) 0 0, .slice a 0 cp]).run P w = .ok (.slice (g.map fun g => ⟨g, 0, none⟩) 0 0) w := by
        cases a <;> cases g <;> simp [Builtin.append_, run_underlying ht, sizeOf, typeInfo, hi, Builtin.lenOf, Builtin.firstCells, storeCells, loadCells, loadCellsFrom]
      rw [e0] at hr
      cases hr; rfl
    rw [this]; exact Only.refl _ _
  · by_cases hm : m = 0
    · subst hm
      have : w' = w := by
        have e0 : (Builtin.append_ #[t, t] ty #[.slice (g.map fun g => ⟨g, 0, none⟩) 0 0, .slice (some ⟨gy, off, none⟩) 0 cp]).run P w = .ok (.slice (g.map fun g => ⟨g, 0, none⟩) 0 0) w := by
          cases g <;> simp [Builtin.append_, run_underlying ht, sizeOf, typeInfo, hi, Builtin.lenOf, Builtin.firstCells, storeCells, loadCells, loadCellsFrom]
        rw [e0] at hr
        cases hr; rfl
      rw [this]; exact Only.refl _ _
    · have hcells : ∀ j u, ys[j]? = some u → w.cell? ((⟨gy, off, none⟩ : Addr).add j) = some u := fun j u hu => by
        have : (⟨gy, off, none⟩ : Addr).add j = ⟨gy, off + j, none⟩ := by unfold Addr.add; split <;> simp_all
        rw [this]; simp only [World.cell?, hg]; simpa using hc j u hu
      have hmi : (m : Int) ≤ 9223372036854775807 := by simp only [maxLen] at h63; omega
      cases g with
      | none =>
        have e0 := run_append_nil (P := P) w t ty e i z ht hi hz ⟨gy, off, none⟩ m cp ys hl hcells (by omega) hmi (by omega)
        simp only [Option.map_none] at hr
        rw [e0] at hr
        cases hr
        exact ((Only.refl _ w).drew).alloc _
      | some g =>
        have e0 := run_append_grow (P := P) w t ty e i z ht hi hz ⟨g, 0, none⟩ 0 0 [] (by simp) (by simp) ⟨gy, off, none⟩ m cp ys hl hcells (by omega) (by omega) (growslice_fits (by omega) (by simpa using hbytes))
        simp only [Option.map_some] at hr
        rw [e0] at hr
        cases hr
        exact ((Only.refl _ w).drew).alloc _

theorem wp_append_reads {o : Oper} {a : Act} {K : Act → World → Prop} {Q : Exit → Act → World → Prop} (s x : Operand) (t : TypeId)
    (ho : o.op = .call { callee := .builtin .append, args := #[s, x], argTypes := #[t, t] })
    (base : Nat) (e : TypeId) (i : TypeInfo) (z : Value) (size bytes : Nat) (ht : P.underlying t = some (.slice e)) (hi : P.info? e = some i) (hz : i.zero = some z)
    (hsize : i.size = size) (hby : i.bytes = bytes) (hzs : z.cells.size = size) (hsz : 0 < size)
    (v : Value) (n : Nat) (xs : List Value) (hs : a.eval s = v) (hown : w.ownsRow base e size v n xs) (y : Value) (m : Nat) (ys : List Value) (hx : a.eval x = y) (hy : Reads w e size y m ys)
    (h63 : n + m ≤ maxLen) (hbytes : (n + m) * bytes ≤ 140737488355328) (hbase : base ≤ w.heap.size)
    (h : ∀ v' w', w'.ownsRow base e size v' (n + m) (xs ++ ys) → w.grownBy w' v.ownBlock → (v'.ownBlock = v.ownBlock ∨ v'.ownBlock = some w.heap.size) → K (a.put o.dst v') w') : o.wp P a w K Q := by
  obtain ⟨v', w', hr, h2, h3, h4⟩ := run_append_reads (P := P) w base t o.type e i z size bytes ht hi hz hsize hby hzs hsz v n xs hown y m ys hy h63 hbytes hbase
  unfold Oper.wp execOp
  simp only [ho, resolve, invoke, builtin, Sem.run_bind, Sem.run_pure, Result.andThen_ok, List.map_toArray, List.map_cons, List.map_nil, hs, hx, hr]
  exact h v' w' h2 h3 h4

theorem wpList_append_reads {ops : Array Oper} {rest : List Oper} {o : Oper} {a : Act} {Q : Exit → Act → World → Prop} (hgd : o.guard = none) (s x : Operand) (t : TypeId)
    (ho : o.op = .call { callee := .builtin .append, args := #[s, x], argTypes := #[t, t] })
    (base : Nat) (e : TypeId) (i : TypeInfo) (z : Value) (size bytes : Nat) (ht : P.underlying t = some (.slice e)) (hi : P.info? e = some i) (hz : i.zero = some z)
    (hsize : i.size = size) (hby : i.bytes = bytes) (hzs : z.cells.size = size) (hsz : 0 < size)
    (v : Value) (n : Nat) (xs : List Value) (hs : a.eval s = v) (hown : w.ownsRow base e size v n xs) (y : Value) (m : Nat) (ys : List Value) (hx : a.eval x = y) (hy : Reads w e size y m ys)
    (h63 : n + m ≤ maxLen) (hbytes : (n + m) * bytes ≤ 140737488355328) (hbase : base ≤ w.heap.size)
    (h : ∀ v' w', w'.ownsRow base e size v' (n + m) (xs ++ ys) → w.grownBy w' v.ownBlock → (v'.ownBlock = v.ownBlock ∨ v'.ownBlock = some w.heap.size) → wpList P ops Q rest (a.put o.dst v') w') : wpList P ops Q (o :: rest) a w :=
  wpList_plain hgd fun _ hK => wp_append_reads w s x t ho base e i z size bytes ht hi hz hsize hby hzs hsz v n xs hs hown y m ys hx hy h63 hbytes hbase fun v' w' h2 h3 h4 => hK _ _ (h v' w' h2 h3 h4)

theorem step_append_reads {ops : Array Oper} {o : Oper} {a : Act} {K : Act → World → Prop} {Q : Exit → Act → World → Prop} {E : Prop} (hgd : o.guard = none) (s x : Operand) (t : TypeId)
    (ho : o.op = .call { callee := .builtin .append, args := #[s, x], argTypes := #[t, t] })
    (base : Nat) (e : TypeId) (i : TypeInfo) (z : Value) (size bytes : Nat) (ht : P.underlying t = some (.slice e)) (hi : P.info? e = some i) (hz : i.zero = some z)
    (hsize : i.size = size) (hby : i.bytes = bytes) (hzs : z.cells.size = size) (hsz : 0 < size)
    (v : Value) (n : Nat) (xs : List Value) (hs : a.eval s = v) (hown : w.ownsRow base e size v n xs) (y : Value) (m : Nat) (ys : List Value) (hx : a.eval x = y) (hy : Reads w e size y m ys)
    (h63 : n + m ≤ maxLen) (hbytes : (n + m) * bytes ≤ 140737488355328) (hbase : base ≤ w.heap.size)
    (h : ∀ v' w', w'.ownsRow base e size v' (n + m) (xs ++ ys) → w.grownBy w' v.ownBlock → (v'.ownBlock = v.ownBlock ∨ v'.ownBlock = some w.heap.size) → K (a.put o.dst v') w') :
    if Region.wanted o (yielded ops a.tmps) = true then Oper.wp P o a w K Q else E := by
  have hw : Region.wanted o (yielded ops a.tmps) = true := by simp [Region.wanted, hgd]
  rw [if_pos hw]
  exact wp_append_reads w s x t ho base e i z size bytes ht hi hz hsize hby hzs hsz v n xs hs hown y m ys hx hy h63 hbytes hbase h
end
end Go.Proofs.Ytlieklclckenoaa
