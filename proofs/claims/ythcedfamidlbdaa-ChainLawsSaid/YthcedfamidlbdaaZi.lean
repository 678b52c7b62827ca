/-
The abstract layer, ninth part: operations that make or write memory: a new variable, a literal slice, append, a store. No program in sight. No conditions.
-/
import Derived.Test.YthcedfamidlbdaaZh
namespace Go.Proofs.Ythcedfamidlbdaa
set_option linter.unusedSimpArgs false
set_option linter.unusedVariables false
set_option linter.unusedSectionVars false
open Go.RowKit

/-- A block goes over to a new name, and more of it never turns again. -/
def Ker.claim (K : Ker) (a b m : Nat) : Ker :=
  { K with mu := fun n => if n = a then b else K.mu n, imm := fun c => if c = b then m else K.imm c, tp := fun n => if n = a then m else K.tp n, live := fun n => n = a ∨ K.live n }
theorem Ker.le_claim (K : Ker) {a b m : Nat} (ha : ¬ K.live a) (hm : K.imm b ≤ m) : K.le (K.claim a b m) where
  live n hn := .inr hn
  mu n hn := by have : n ≠ a := fun e => ha (e ▸ hn); simp [Ker.claim, this]
  tp n hn := by have : n ≠ a := fun e => ha (e ▸ hn); simp [Ker.claim, this]
  fro := rfl
  imm c _ := by
    show _ ≤ (if c = b then m else K.imm c)
    split
    · rename_i e; subst e; exact hm
    · exact Nat.le_refl _
  cell _ _ _ _ := rfl
  shape _ _ := rfl
  below := Kept.refl _ _

theorem Hp.del_le (h : Hp) (n : Nat) : (h.del n).le h := fun m b e => by
  unfold Hp.del at e
  split at e
  · simp at e
  · exact e

theorem Rel.claim {K : Ker} {h : Hp} (r : Rel K h) {n : Nat} {b0 : Blk} (hn : h n = some b0) {a m : Nat} (ha : ¬ K.live a) (hm : K.imm (K.mu n) ≤ m) {b1 : Blk} (hb : BR (K.claim a (K.mu n) m) a b1) : Rel (K.claim a (K.mu n) m) ((h.del n).set a b1) := by
  have hle := K.le_claim (b := K.mu n) ha hm
  have hd : ∀ x bb, (h.del n) x = some bb → x ≠ n ∧ h x = some bb := fun x bb e => by
    unfold Hp.del at e
    split at e
    · simp at e
    · rename_i hx; exact ⟨hx, e⟩
  have hother : ∀ x bb, (h.del n) x = some bb → K.mu x ≠ K.mu n := fun x bb e em => (hd x bb e).1 (r.inj x n bb b0 (hd x bb e).2 hn em)
  have hmua : (K.claim a (K.mu n) m).mu a = K.mu n := by simp [Ker.claim]
  refine ⟨?_, ?_, ?_, ?_, r.size⟩
  · intro x bb e
    unfold Hp.set at e
    split at e
    · rename_i hx; exact .inl hx
    · exact .inr (r.lt x bb (hd x bb e).2)
  · intro x bb e
    unfold Hp.set at e
    split at e
    · rename_i hx; rw [hx, hmua]; exact r.base n b0 hn
    · rw [hle.mu x (r.lt x bb (hd x bb e).2)]; exact r.base x bb (hd x bb e).2
  · intro x bb e
    unfold Hp.set at e
    split at e
    · rename_i hx; injection e with e; rw [hx, ← e]; exact hb
    · refine (r.blk x bb (hd x bb e).2).mono hle (r.lt x bb (hd x bb e).2) rfl ?_
      show (if K.mu x = K.mu n then m else K.imm (K.mu x)) = _
      rw [if_neg (hother x bb e)]
  · intro x y b1' b2' e1 e2 em
    unfold Hp.set at e1 e2
    split at e1 <;> split at e2
    · omega
    · rename_i h1 h2
      rw [h1, hmua, hle.mu y (r.lt y b2' (hd y b2' e2).2)] at em
      exact absurd em.symm (hother y b2' e2)
    · rename_i h1 h2
      rw [h2, hmua, hle.mu x (r.lt x b1' (hd x b1' e1).2)] at em
      exact absurd em (hother x b1' e1)
    · rw [hle.mu x (r.lt x b1' (hd x b1' e1).2), hle.mu y (r.lt y b2' (hd y b2' e2).2)] at em
      exact r.inj x y b1' b2' (hd x b1' e1).2 (hd y b2' e2).2 em

def YieldsM (P : Program) (o : Oper) (act : Act) (K : Ker) (a : Nat) (R : V → Hp → Prop) : Prop :=
  ∃ nx cv K' v h', (execOp act.eval o).run P K.w = .ok nx K'.w ∧ (nx = .value cv ∨ nx = .skip ∧ cv = Go.undef) ∧ K.le K' ∧ (∀ n, K'.live n → K.live n ∨ n = a) ∧ VR K' v cv ∧ Rel K' h' ∧ R v h'

theorem YieldsV.toM {P : Program} {o : Oper} {act : Act} {K : Ker} {a : Nat} {h : Hp} {R : V → Hp → Prop} (hr : Rel K h) (y : YieldsV P o act K fun v => R v h) : YieldsM P o act K a R := by
  obtain ⟨cv, v, h1, h2, h3⟩ := y
  exact ⟨_, cv, K, v, h, h1, .inl rfl, .refl K, fun n hn => .inl hn, h2, hr, h3⟩

/-- A new variable that holds a known value. -/
theorem newVar_yields {P : Program} {K : Ker} {h : Hp} (hr : Rel K h) {a : Nat} (ha : ¬ K.live a) {k : Sh} {v : V} {cv : Value} (hv : VR K v cv) (hf : v.fits k = true) (e : TypeId) :
    ∃ K', (newVar e cv).run P K.w = .ok ⟨K.w.heap.size, 0, none⟩ K'.w ∧ K.le K' ∧ (∀ n, K'.live n → K.live n ∨ n = a) ∧ VR K' (.ptr a k 0 0) (.pointer (some ⟨K.w.heap.size, 0, none⟩)) ∧ Rel K' (h.set a (.arr k [v])) := by
  obtain ⟨c1, c2, c3, c4⟩ := hv.cells hf
  have hle := K.le_push a ha (.cells cv.cells e) 0
  have hmu : (K.push a (.cells cv.cells e) 0).mu a = K.w.heap.size := by simp [Ker.push]
  refine ⟨K.push a (.cells cv.cells e) 0, rfl, hle, fun n hn => hn.symm, ?_, ?_⟩
  · have := VR.ptr (K := K.push a (.cells cv.cells e) 0) a k 0 0 (.inl rfl)
    rw [hmu] at this
    simpa using this
  · refine hr.set_push ha _ _ (.arr k [v] cv.cells e ?_ ?_ ?_ ?_ ?_)
    · rw [hmu]; exact alloc_heap_eq _ _
    · simp [c2]
    · rw [hmu]; simp [Ker.push]
    · simpa using hf
    · intro i hi j hj
      have : i = 0 := by simpa using hi
      subst this
      simpa using (c3 j hj).mono hle

/-- A fresh row that nobody writes again, but at its end. -/
theorem newRow_yields {K : Ker} {h : Hp} (hr : Rel K h) {a : Nat} (ha : ¬ K.live a) {k : Sh} {es : List V} (hf : ∀ e ∈ es, e.fits k = true) (c : Array Value) (e : TypeId) (cap : Nat) (hcap : es.length ≤ cap) (hsz : cap * k.size ≤ c.size)
    (hv : ∀ i, i < es.length → ∀ j, j < k.size → VR K ((es.getD i V.undef).cell j) (c.getD (i * k.size + j) Go.undef)) :
    ∃ K', K'.w = K.w.alloc (.cells c e) ∧ K.le K' ∧ (∀ n, K'.live n → K.live n ∨ n = a) ∧ VR K' (.sl k (.tok a) es) (.slice (some ⟨K.w.heap.size, 0, none⟩) es.length cap) ∧ Rel K' (h.set a .tip) := by
  have hle := K.le_push a ha (.cells c e) (es.length * k.size)
  have hmu : (K.push a (.cells c e) (es.length * k.size)).mu a = K.w.heap.size := by simp [Ker.push]
  have hlen : es.length * k.size ≤ cap * k.size := Nat.mul_le_mul_right _ hcap
  refine ⟨K.push a (.cells c e) (es.length * k.size), rfl, hle, fun n hn => hn.symm, ?_, ?_⟩
  · refine .sl k (.tok a) es K.w.heap.size 0 cap (fun j => c.getD j Go.undef) ?_ hf ?_ ?_ (fun i hi j hj => (hv i hi j hj).mono hle) hcap (by simp) (by simp) ?_
    · show _ < (K.w.alloc _).heap.size; rw [alloc_size]; omega
    · intro j hj
      show (K.w.alloc _).cell? _ = _
      simp only [World.cell?, alloc_heap_eq, Nat.zero_add]
      rw [Array.getD_eq_getD_getElem?, Array.getElem?_eq_getElem (by omega)]
      rfl
    · intro j hj
      refine .inr ?_
      show 0 + j < (if K.w.heap.size = K.w.heap.size then es.length * k.size else _)
      rw [if_pos rfl]; omega
    · intro n hn
      injection hn with hn
      subst hn
      refine ⟨.inl rfl, .inr ⟨hmu, ?_, e, c.size, ?_, by simpa using hsz⟩⟩
      · simp [Ker.push]
      · show (K.w.alloc _).shape? _ = _
        simp only [World.shape?, alloc_heap_eq]
  · refine hr.set_push ha _ _ (.tip c e ?_ ?_ ?_)
    · rw [hmu]; exact alloc_heap_eq _ _
    · rw [hmu]; simp [Ker.push]
    · have : (K.push a (.cells c e) (es.length * k.size)).tp a = es.length * k.size := by simp [Ker.push]
      omega

end Go.Proofs.Ythcedfamidlbdaa
