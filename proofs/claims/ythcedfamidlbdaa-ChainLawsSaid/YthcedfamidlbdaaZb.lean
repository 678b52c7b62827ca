/-
The abstract layer, second part: what the machine's steps do to what is known: a new block, a draw, a row written. No program in sight. No conditions.
-/
import Derived.Test.YthcedfamidlbdaaZa
namespace Go.Proofs.Ythcedfamidlbdaa
set_option linter.unusedSimpArgs false
set_option linter.unusedVariables false
set_option linter.unusedSectionVars false
open Go.RowKit

def Ker.push (K : Ker) (a : Nat) (o : Obj) (m : Nat) : Ker :=
  { w := K.w.alloc o, mu := fun n => if n = a then K.w.heap.size else K.mu n, imm := fun b => if b = K.w.heap.size then m else K.imm b,
    tp := fun n => if n = a then m else K.tp n, live := fun n => n = a ∨ K.live n, fro := K.fro }

theorem alloc_heap_ne (w : World) (o : Obj) (b : Nat) (hb : b < w.heap.size) : (w.alloc o).heap[b]? = w.heap[b]? := Below.heap_alloc w o b hb
theorem alloc_heap_eq (w : World) (o : Obj) : (w.alloc o).heap[w.heap.size]? = some o := by
  show (w.heap.push o)[w.heap.size]? = some o
  simp
theorem alloc_size (w : World) (o : Obj) : (w.alloc o).heap.size = w.heap.size + 1 := by
  show (w.heap.push o).size = _
  simp
theorem cell_of_heap {w w' : World} {b o : Nat} (h : w'.heap[b]? = w.heap[b]?) : w'.cell? ⟨b, o, none⟩ = w.cell? ⟨b, o, none⟩ := by simp only [World.cell?, h]
theorem shape_of_heap {w w' : World} {b : Nat} (h : w'.heap[b]? = w.heap[b]?) : w'.shape? b = w.shape? b := by simp only [World.shape?, h]

theorem Ker.le_push (K : Ker) (a : Nat) (ha : ¬ K.live a) (o : Obj) (m : Nat) : K.le (K.push a o m) where
  live n hn := .inr hn
  mu n hn := by have : n ≠ a := fun e => ha (e ▸ hn); simp [Ker.push, this]
  tp n hn := by have : n ≠ a := fun e => ha (e ▸ hn); simp [Ker.push, this]
  fro := rfl
  imm b hlt := by simp [Ker.push, Nat.ne_of_lt hlt]
  cell b o' hlt _ := cell_of_heap (alloc_heap_ne _ _ _ hlt)
  shape b hlt := shape_of_heap (alloc_heap_ne _ _ _ hlt)
  below := Kept.alloc _ o

theorem Rel.push {K : Ker} {h : Hp} (r : Rel K h) {a : Nat} (ha : ¬ K.live a) (o : Obj) (m : Nat) : Rel (K.push a o m) h :=
  r.keep (K.le_push a ha o m) fun n b e => by
    have hlt := (r.blk n b e).lt_size
    exact ⟨alloc_heap_ne _ _ _ hlt, by simp [Ker.push, Nat.ne_of_lt hlt]⟩

/-- The new block gets its name. -/
theorem Rel.set_push {K : Ker} {h : Hp} (r : Rel K h) {a : Nat} (ha : ¬ K.live a) (o : Obj) (m : Nat) {b : Blk} (hb : BR (K.push a o m) a b) : Rel (K.push a o m) (h.set a b) := by
  have r' := r.push ha o m
  have hmu : (K.push a o m).mu a = K.w.heap.size := by simp [Ker.push]
  have hne : ∀ n b', h n = some b' → (K.push a o m).mu n < K.w.heap.size := fun n b' e => by
    have hlt := (r.blk n b' e).lt_size
    rw [(K.le_push a ha o m).mu n (r.lt n b' e)]
    exact hlt
  refine ⟨?_, ?_, ?_, ?_, r'.size⟩
  · intro n b' e
    unfold Hp.set at e
    split at e
    · rename_i hn; exact .inl hn
    · exact r'.lt n b' e
  · intro n b' e
    unfold Hp.set at e
    split at e
    · rename_i hn; rw [hn, hmu]; exact fun h => Nat.lt_irrefl _ (r.size _ h)
    · exact r'.base n b' e
  · intro n b' e
    unfold Hp.set at e
    split at e
    · rename_i hn; injection e with e; rw [hn, ← e]; exact hb
    · exact r'.blk n b' e
  · intro n n' b1 b2 e1 e2 em
    unfold Hp.set at e1 e2
    split at e1 <;> split at e2
    · omega
    · rename_i hn hn'; rw [hn, hmu] at em; have := hne n' b2 e2; omega
    · rename_i hn hn'; rw [hn', hmu] at em; have := hne n b1 e1; omega
    · exact r'.inj n n' b1 b2 e1 e2 em

/-- A draw. -/
def Ker.drew (K : Ker) : Ker := { K with w := K.w.drew }
theorem Ker.le_drew (K : Ker) : K.le K.drew := ⟨fun _ h => h, fun _ _ => rfl, fun _ _ => rfl, rfl, fun _ _ => Nat.le_refl _, fun _ _ _ _ => rfl, fun _ _ => rfl, Kept.drew _⟩
theorem Rel.drew {K : Ker} {h : Hp} (r : Rel K h) : Rel K.drew h := r.keep K.le_drew fun _ _ _ => ⟨rfl, rfl⟩

/-- The row of a named block written anew: the blocks of other names go on. -/
def Ker.row (K : Ker) (b : Nat) (c : Array Value) : Ker := { K with w := K.w.setRow b c }

theorem setRow_shape (w : World) (b : Nat) (c cur : Array Value) (T : TypeId) (fr : Nat × Nat) (hg : w.heap[b]? = some (.cells cur T fr)) (hs : c.size = cur.size) (b' : Nat) : (w.setRow b c).shape? b' = w.shape? b' := by
  by_cases e : b' = b
  · subst e
    simp only [World.shape?, setRow_heap w b' cur c T fr hg, hg, hs]
  · simp only [World.shape?, setRow_other w b b' c e]
theorem setRow_size (w : World) (b : Nat) (c : Array Value) : (w.setRow b c).heap.size = w.heap.size := by simp [World.setRow]
theorem below_setRow' {F : Nat → Prop} (w : World) (b : Nat) (c : Array Value) (hb : ¬ F b) {cur : Array Value} {T : TypeId} {fr : Nat × Nat} (hg : w.heap[b]? = some (.cells cur T fr)) : Kept F w (w.setRow b c) :=
  ⟨rfl, rfl, rfl, Nat.le_refl _, by rw [setRow_size]; exact Nat.le_refl _, fun k _ hk => setRow_other w b k c (fun e => hk.elim (fun hk => hb (e ▸ hk)) fun hk => by subst e; unfold markAt at hk; rw [hg] at hk; cases hk)⟩

theorem Ker.le_row (K : Ker) (b : Nat) (c cur : Array Value) (T : TypeId) (hg : K.w.heap[b]? = some (.cells cur T (0, 0))) (hs : c.size = cur.size) (hb : ¬ K.fro b)
    (hsame : ∀ o, o < K.imm b → c[o]? = cur[o]?) : K.le (K.row b c) where
  live _ hn := hn
  mu _ _ := rfl
  tp _ _ := rfl
  fro := rfl
  imm _ _ := Nat.le_refl _
  cell b' o hlt hst := by
    by_cases e : b' = b
    · subst e
      rcases hst with h | h
      · exact absurd h hb
      · show ((K.w.setRow b' c).cell? ⟨b', o, none⟩) = _
        simp only [World.cell?, setRow_heap K.w b' cur c T (0, 0) hg, hg, hsame o h]
    · exact cell_of_heap (setRow_other K.w b b' c e)
  shape b' _ := setRow_shape K.w b c cur T (0, 0) hg hs b'
  below := below_setRow' K.w b c hb hg

/-- A block's row written anew, in the block of the name n. -/
theorem Rel.row {K : Ker} {h : Hp} (r : Rel K h) {n : Nat} {b0 b1 : Blk} (hn : h n = some b0) (c cur : Array Value) (T : TypeId) (hg : K.w.heap[K.mu n]? = some (.cells cur T (0, 0))) (hs : c.size = cur.size)
    (hsame : ∀ o, o < K.imm (K.mu n) → c[o]? = cur[o]?) (hb : BR (K.row (K.mu n) c) n b1) : Rel (K.row (K.mu n) c) (h.set n b1) := by
  have hle := K.le_row (K.mu n) c cur T hg hs (r.base n b0 hn) hsame
  refine ⟨?_, ?_, ?_, ?_, fun b hb => by show b < _; rw [Ker.row, setRow_size]; exact r.size b hb⟩
  · intro m b' e
    unfold Hp.set at e
    split at e
    · rename_i hm; subst hm; exact r.lt m b0 hn
    · exact r.lt m b' e
  · intro m b' e
    unfold Hp.set at e
    split at e
    · rename_i hm; subst hm; exact r.base m b0 hn
    · exact r.base m b' e
  · intro m b' e
    unfold Hp.set at e
    split at e
    · rename_i hm; subst hm; injection e with e; subst e; exact hb
    · rename_i hm
      refine (r.blk m b' e).mono hle (r.lt m b' e) ?_ rfl
      exact setRow_other K.w (K.mu n) (K.mu m) c (fun em => hm (r.inj m n b' b0 e hn em))
  · intro m m' b1' b2' e1 e2 em
    unfold Hp.set at e1 e2
    have g : ∀ x bb, (if x = n then some b1 else h x) = some bb → ∃ b', h x = some b' := fun x bb hx => by
      split at hx
      · rename_i hm; subst hm; exact ⟨b0, hn⟩
      · exact ⟨bb, hx⟩
    obtain ⟨c1, d1⟩ := g m b1' e1
    obtain ⟨c2, d2⟩ := g m' b2' e2
    exact r.inj m m' c1 c2 d1 d2 em

/-- The cells of elements laid in a row. -/
def flat (k : Nat) (g : Nat → Nat → Value) (n : Nat) : List Value := (List.range (n * k)).map fun j => g (j / k) (j % k)

theorem idx_split {k i j n : Nat} (hj : j < k) (hi : i < n) : i * k + j < n * k := by
  have : (i + 1) * k ≤ n * k := Nat.mul_le_mul_right _ hi
  rw [Nat.add_mul, Nat.one_mul] at this
  omega

theorem div_split {k j n : Nat} (h : j < n * k) : j / k < n ∧ j % k < k ∧ j / k * k + j % k = j := by
  have hk : 0 < k := by
    rcases Nat.eq_zero_or_pos k with e | e
    · subst e; simp at h
    · exact e
  exact ⟨Nat.div_lt_of_lt_mul (by rwa [Nat.mul_comm] at h), Nat.mod_lt _ hk, Nat.div_add_mod' j k⟩

/-! ### Names -/
mutual
/-- The names in a value are of these. -/
def V.names (L : Nat → Prop) : V → Prop
  | .ptr n _ _ _ => L n
  | .rs n _ _ _ => L n
  | .map n => L n
  | .chan n => L n
  | .yld n => L n
  | .ept _ es _ _ => namesL L es
  | .sl _ own es => (∀ n, own = .tok n → L n) ∧ namesL L es
  | .fn _ a b => namesL L a ∧ namesL L b
  | .iface _ v => v.names L
  | .agg cs => namesL L cs
  | .tup vs => namesL L vs
  | _ => True
def namesL (L : Nat → Prop) : List V → Prop
  | [] => True
  | v :: vs => v.names L ∧ namesL L vs
end

theorem namesL_iff {L : Nat → Prop} : ∀ {vs : List V}, namesL L vs ↔ ∀ v ∈ vs, v.names L
  | [] => by simp [namesL]
  | v :: vs => by simp [namesL, namesL_iff (vs := vs)]
theorem namesL_get {L : Nat → Prop} {vs : List V} (h : namesL L vs) (i : Nat) : (vs.getD i V.undef).names L := by
  by_cases hi : i < vs.length
  · rw [List.getD_eq_getElem?_getD, List.getElem?_eq_getElem hi]
    exact namesL_iff.1 h _ (List.getElem_mem _)
  · rw [List.getD_eq_getElem?_getD, List.getElem?_eq_none (by omega)]
    simp [V.undef, V.names, namesL]
theorem namesL_of_get {L : Nat → Prop} {vs : List V} (h : ∀ i, i < vs.length → (vs.getD i V.undef).names L) : namesL L vs := by
  refine namesL_iff.2 fun v hv => ?_
  obtain ⟨i, hi, rfl⟩ := List.getElem_of_mem hv
  have := h i hi
  rw [List.getD_eq_getElem?_getD, List.getElem?_eq_getElem hi] at this
  exact this
theorem names_cell {L : Nat → Prop} {v : V} (h : v.names L) (j : Nat) : (v.cell j).names L := by
  have one : ∀ w : V, w.names L → ((([w] : List V)).getD j V.undef).names L := fun w hw => namesL_get (by simp [namesL, hw]) j
  cases v <;> first | exact one _ h | skip
  case agg cs => exact namesL_get (vs := cs) (by simpa [V.names] using h) j
theorem names_of_cells {L : Nat → Prop} {k : Sh} {v : V} (hf : v.fits k = true) (h : ∀ j, j < k.size → (v.cell j).names L) : v.names L := by
  cases k with
  | leaf =>
    simp only [V.fits] at hf
    have e1 : v.cells = [v] := by cases v <;> first | rfl | (simp [V.leafy] at hf)
    have := h 0 (by simp [Sh.size])
    simpa [V.cell, e1] using this
  | agg n =>
    cases v with
    | agg cs =>
      simp only [V.fits, Bool.and_eq_true, decide_eq_true_eq] at hf
      show namesL L cs
      exact namesL_of_get fun i hi => h i (by show i < n; omega)
    | _ => simp [V.fits] at hf
theorem namesL_append {L : Nat → Prop} {a b : List V} : namesL L (a ++ b) ↔ namesL L a ∧ namesL L b := by
  simp only [namesL_iff, List.mem_append]
  exact ⟨fun h => ⟨fun v hv => h v (.inl hv), fun v hv => h v (.inr hv)⟩, fun h v hv => hv.elim (h.1 v) (h.2 v)⟩
theorem namesL_map {α : Type} {L : Nat → Prop} {f : α → V} (h : ∀ x, (f x).names L) (l : List α) : namesL L (l.map f) := by
  refine namesL_iff.2 fun v hv => ?_
  obtain ⟨x, _, rfl⟩ := List.mem_map.1 hv
  exact h x

theorem VR.free {K : Ker} {k : Sh} {own : Own} {es : List V} {cv : Value} (r : VR K (.sl k own es) cv) (h : own ≠ .nil) : VR K (.sl k .free es) cv := by
  cases r with
  | slnil => exact absurd rfl h
  | slz => exact .slz _ _
  | sl _ _ _ b off cap f hb hfit hcell hst hv hcap hnil hfull htok => exact .sl k .free es b off cap f hb hfit hcell hst hv hcap (by simp) (by simp) (fun n e => by cases e)

/-- Only some names stay in use. -/
def Ker.only (K : Ker) (L : Nat → Prop) : Ker := { K with live := L }
theorem VR.only {K : Ker} {v : V} {cv : Value} (r : VR K v cv) (L : Nat → Prop) (hn : v.names L) : VR (K.only L) v cv := by
  induction r with
  | bool b => exact .bool b
  | int k n => exact .int k n
  | str s => exact .str s
  | nilPtr => exact .nilPtr
  | ptr n k i o h => exact .ptr n k i o hn
  | ept k es i o b off f hb hfit hcell hst hv ih => exact .ept k es i o b off f hb hfit hcell hst fun i hi j hj => ih i hi j hj (names_cell (namesL_get hn i) j)
  | slnil k => exact .slnil k
  | slz k a => exact .slz k a
  | sl k own es b off cap f hb hfit hcell hst hv hcap hnil hfull htok ih =>
    exact .sl k own es b off cap f hb hfit hcell hst (fun i hi j hj => ih i hi j hj (names_cell (namesL_get hn.2 i) j)) hcap hnil hfull fun n e => ⟨hn.1 n e, (htok n e).2⟩
  | rs n k off len cap h hcap hm => exact .rs n k off len cap hn hcap hm
  | nilMap => exact .nilMap
  | map n h => exact .map n hn
  | nilChan => exact .nilChan
  | chan n h => exact .chan n hn
  | fn f first cap cfirst ccap h1 h2 _ _ v1 v2 => exact .fn f first cap cfirst ccap h1 h2 (fun i hi => v1 i hi (namesL_get hn.1 i)) (fun i hi => v2 i hi (namesL_get hn.2 i))
  | nilFn => exact .nilFn
  | yld n h => exact .yld n hn
  | iface t v cv _ ih => exact .iface t v cv (ih hn)
  | nilIface => exact .nilIface
  | agg cs ccs hl _ ih => exact .agg cs ccs hl fun i hi => ih i hi (namesL_get (vs := cs) hn i)
  | tup cs ccs hl _ ih => exact .tup cs ccs hl fun i hi => ih i hi (namesL_get (vs := cs) hn i)
  | top cv => exact .top cv

theorem VR.names {K : Ker} {v : V} {cv : Value} (r : VR K v cv) : v.names K.live := by
  have row : ∀ (k : Sh) (es : List V), (∀ e ∈ es, e.fits k = true) → (∀ i, i < es.length → ∀ j, j < k.size → ((es.getD i V.undef).cell j).names K.live) → namesL K.live es := by
    intro k es hfit h
    refine namesL_of_get fun i hi => names_of_cells (k := k) ?_ (h i hi)
    rw [List.getD_eq_getElem?_getD, List.getElem?_eq_getElem hi]
    exact hfit _ (List.getElem_mem _)
  induction r with
  | ptr n k i o h => exact h
  | ept k es i o b off f hb hfit hcell hst hv ih => exact row k es hfit ih
  | sl k own es b off cap f hb hfit hcell hst hv hcap hnil hfull htok ih => exact ⟨fun n e => (htok n e).1, row k es hfit ih⟩
  | slnil k => exact ⟨(fun n e => by cases e), trivial⟩
  | slz k a => exact ⟨(fun n e => by cases e), trivial⟩
  | rs n k off len cap h hcap hm => exact h
  | map n h => exact h
  | chan n h => exact h
  | yld n h => exact h
  | fn f first cap cfirst ccap h1 h2 _ _ v1 v2 => exact ⟨namesL_of_get v1, namesL_of_get v2⟩
  | iface t v cv _ ih => exact ih
  | agg cs ccs hl _ ih => exact namesL_of_get (vs := cs) ih
  | tup cs ccs hl _ ih => exact namesL_of_get (vs := cs) ih
  | _ => trivial

mutual
theorem names_mono {L L' : Nat → Prop} (h : ∀ n, L n → L' n) : ∀ {v : V}, v.names L → v.names L'
  | .ptr n _ _ _, q => h n q
  | .rs n _ _ _, q => h n q
  | .map n, q => h n q
  | .chan n, q => h n q
  | .yld n, q => h n q
  | .ept _ es _ _, q => namesL_mono h (vs := es) q
  | .sl _ own es, q => ⟨fun n e => h n (q.1 n e), namesL_mono h (vs := es) q.2⟩
  | .fn _ a b, q => ⟨namesL_mono h (vs := a) q.1, namesL_mono h (vs := b) q.2⟩
  | .iface _ v, q => names_mono h (v := v) q
  | .agg cs, q => namesL_mono h (vs := cs) q
  | .tup vs, q => namesL_mono h (vs := vs) q
  | .bool _, _ => trivial
  | .int _ _, _ => trivial
  | .str _, _ => trivial
  | .nilPtr, _ => trivial
  | .nilMap, _ => trivial
  | .nilChan, _ => trivial
  | .nilFn, _ => trivial
  | .nilIface, _ => trivial
  | .top, _ => trivial
theorem namesL_mono {L L' : Nat → Prop} (h : ∀ n, L n → L' n) : ∀ {vs : List V}, namesL L vs → namesL L' vs
  | [], _ => trivial
  | v :: vs, q => ⟨names_mono h (v := v) q.1, namesL_mono h (vs := vs) q.2⟩
end

/-- Behind a call that left the abstract memory as it was: the names of its own are forgotten. -/
theorem Rel.back {K K' : Ker} {h : Hp} (r : Rel K h) (r' : Rel K' h) {L : Nat → Prop} (hle : K.leV (K'.only L)) (hL : ∀ n, K.live n → L n) : Rel (K'.only L) h := by
  refine ⟨fun n b e => hL n (r.lt n b e), r'.base, fun n b e => ?_, r'.inj, r'.size⟩
  have hb := r.blk n b e
  have hb' := r'.blk n b e
  cases hb' with
  | arr k es c T hh hsz hi hfit hvs =>
    refine .arr k es c T hh hsz hi hfit fun i hi j hj => (hvs i hi j hj).only L ?_
    cases hb with
    | arr _ _ c0 T0 hh0 hsz0 hi0 hfit0 hvs0 =>
      have := (hvs0 i hi j hj).names
      generalize (es.getD i V.undef).cell j = x at this
      exact names_mono hL this
  | tip c T hh hi ht => exact .tip c T hh hi ht
  | obj o U hh ho _ hU => cases hb with
    | obj _ _ _ _ hu _ => exact .obj o U hh ho (hU _ _ hle hu) hU

end Go.Proofs.Ythcedfamidlbdaa
