/-
The abstract layer, fourth part: the machine's operations that only yield a value yield what the abstract ones say. No program in sight. No conditions.
-/
import Derived.Test.YthcedfamidlbdaaZc
namespace Go.Proofs.Ythcedfamidlbdaa
set_option linter.unusedSimpArgs false
set_option linter.unusedVariables false
set_option linter.unusedSectionVars false
open Go.RowKit

theorem shOf_some {P : Program} {t : TypeId} {k : Sh} (h : shOf P t = some k) : ∃ i d, P.info? t = some i ∧ P.underlying t = some d ∧ i.size = k.size ∧ ((k = .leaf ∧ (∀ fs, d ≠ .struct fs) ∧ (∀ n e, d ≠ .array n e)) ∨ (k = .agg i.size ∧ ((∃ fs, d = .struct fs) ∨ ∃ n e, d = .array n e))) := by
  unfold shOf at h
  split at h
  · simp at h
  · rename_i i hi
    split at h
    · rename_i fs hu
      injection h with h; subst h
      exact ⟨i, _, hi, hu, rfl, .inr ⟨rfl, .inl ⟨fs, rfl⟩⟩⟩
    · rename_i n e hu
      injection h with h; subst h
      exact ⟨i, _, hi, hu, rfl, .inr ⟨rfl, .inr ⟨n, e, rfl⟩⟩⟩
    · rename_i d h1 h2 hu
      split at h
      · rename_i hs
        injection h with h; subst h
        exact ⟨i, d, hi, hu, hs, .inl ⟨rfl, h1, h2⟩⟩
      · simp at h
    · simp at h

theorem run_isAgg {P : Program} {t : TypeId} {k : Sh} (h : shOf P t = some k) (w : World) : (isAgg t).run P w = .ok (match k with | .leaf => false | .agg _ => true) w := by
  obtain ⟨i, d, hi, hd, hs, hk⟩ := shOf_some h
  simp only [isAgg, Sem.run_bind, run_underlying hd, Result.andThen_ok]
  rcases hk with ⟨rfl, h1, h2⟩ | ⟨rfl, ⟨fs, rfl⟩ | ⟨n, e, rfl⟩⟩
  · cases d <;> first | rfl | exact absurd rfl (h1 _) | exact absurd rfl (h2 _ _)
  · rfl
  · rfl
theorem run_sizeOf {P : Program} {t : TypeId} {k : Sh} (h : shOf P t = some k) (w : World) : (sizeOf t).run P w = .ok k.size w := by
  obtain ⟨i, d, hi, hd, hs, hk⟩ := shOf_some h
  simp [sizeOf, typeInfo, hi, hs]

/-- The value of such a shape whose cells are these. -/
def aggOf (k : Sh) (f : Nat → Value) : Value :=
  match k with
  | .leaf => f 0
  | .agg n => .agg ((List.range n).map f).toArray

theorem add_plain (b o n : Nat) : (⟨b, o, none⟩ : Addr).add n = ⟨b, o + n, none⟩ := by
  unfold Addr.add
  split
  · subst_vars; rfl
  · rfl

theorem run_loadVar_sh {P : Program} {t : TypeId} {k : Sh} (h : shOf P t = some k) (w : World) (b o : Nat) (f : Nat → Value) (hc : ∀ j, j < k.size → w.cell? ⟨b, o + j, none⟩ = some (f j)) :
    (loadVar t ⟨b, o, none⟩).run P w = .ok (aggOf k f) w := by
  simp only [loadVar, Sem.run_bind, run_isAgg h, Result.andThen_ok]
  cases k with
  | leaf =>
    have := hc 0 (by simp [Sh.size])
    simp only [Nat.add_zero] at this
    simp [this, aggOf]
  | agg n =>
    have hl := run_loadCells (P := P) w ⟨b, o, none⟩ n f (fun j hj => by rw [add_plain]; exact hc j hj)
    simp only [Sem.run_bind, run_sizeOf h, Result.andThen_ok, if_true, Sh.size, hl, Sem.run_pure, aggOf]

/-- What has these cells, by its shape. -/
theorem VR.aggOf {K : Ker} {k : Sh} {v : V} {f : Nat → Value} (hf : v.fits k = true) (hv : ∀ j, j < k.size → VR K (v.cell j) (f j)) : VR K v (aggOf k f) := by
  cases k with
  | leaf =>
    have h0 := hv 0 (by simp [Sh.size])
    simp only [V.fits] at hf
    have e1 : v.cells = [v] := by cases v <;> first | rfl | (simp [V.leafy] at hf)
    have e2 : v.cell 0 = v := by simp [V.cell, e1]
    rw [e2] at h0
    exact h0
  | agg n =>
    refine VR.of_cells hf (by simp) fun j hj => ?_
    have := hv j hj
    simpa [List.getD_eq_getElem?_getD, hj] using this

def YieldsV (P : Program) (o : Oper) (act : Act) (K : Ker) (R : V → Prop) : Prop := ∃ cv v, (execOp act.eval o).run P K.w = .ok (.value cv) K.w ∧ VR K v cv ∧ R v

section
variable {P : Program} {o : Oper} {act : Act} {K : Ker} {sl : List V} {h : Hp} {R : V → Prop}

/-- A load through a known pointer. -/
theorem loads {t : TypeId} {k : Sh} (hk : shOf P t = some k) {a : Value} (hr : Rel K h) {x : V} (hx : VR K x a) (l : LArg) (hl : l.ev sl = x) (hsem : (LVal.load k l).sem sl h R) :
    ∃ cv v, (Instr.loadAt t a).run P K.w = .ok cv K.w ∧ VR K v cv ∧ R v := by
  simp only [LVal.sem, hl] at hsem
  cases hx with
  | ptr n kk i oo hn =>
    simp only at hsem
    split at hsem
    · rename_i k' es he
      obtain ⟨rfl, hi, hp, hR⟩ := hsem
      have hb := hr.blk n _ he
      cases hb with
      | arr _ _ c T hh hsz himm hfit hv =>
        have hmem : es.getD i V.undef ∈ es := by
          rw [List.getD_eq_getElem?_getD, List.getElem?_eq_getElem hi]; exact List.getElem_mem _
        obtain ⟨f1, f2, f3⟩ := loadPart_cells hp (hfit _ hmem)
        have hidx : ∀ j, j < k.size → i * k'.size + oo + j < c.size := fun j hj => by
          have := idx_split (k := k'.size) (i := i) (j := oo + j) (n := es.length) (by omega) hi
          omega
        have hrun := run_loadVar_sh hk K.w (K.mu n) (i * k'.size + oo) (fun j => c.getD (i * k'.size + (oo + j)) Go.undef) (fun j hj => by
          have := hidx j hj
          simp [World.cell?, hh, Array.getD, Nat.add_assoc, show i * k'.size + (oo + j) < c.size by omega])
        refine ⟨_, _, by simp only [Instr.loadAt, Instr.sureAddr, Sem.run_bind, Sem.run_pure, Result.andThen_ok]; exact hrun, VR.aggOf f1 (fun j hj => ?_), hR⟩
        rw [f3 j hj]
        exact hv i hi (oo + j) (by omega)
    · exact hsem.elim
  | ept kk es i oo b off f hb hfit hcell hst hv =>
    obtain ⟨hi, hp, hR⟩ := hsem
    have hmem : es.getD i V.undef ∈ es := by
      rw [List.getD_eq_getElem?_getD, List.getElem?_eq_getElem hi]; exact List.getElem_mem _
    obtain ⟨f1, f2, f3⟩ := loadPart_cells hp (hfit _ hmem)
    have hrun := run_loadVar_sh hk K.w b (off + (i * kk.size + oo)) (fun j => f (i * kk.size + (oo + j))) (fun j hj => by
      have := idx_split (k := kk.size) (i := i) (j := oo + j) (n := es.length) (by omega) hi
      have := hcell (i * kk.size + (oo + j)) this
      simpa [Nat.add_assoc] using this)
    refine ⟨_, _, by simp only [Instr.loadAt, Instr.sureAddr, Sem.run_bind, Sem.run_pure, Result.andThen_ok]; exact hrun, VR.aggOf f1 (fun j hj => ?_), hR⟩
    rw [f3 j hj]
    exact hv i hi (oo + j) (by omega)
  | _ => exact hsem.elim

/-- Arithmetic and comparison. -/
theorem ibins {op : BinOp} {k : IntKind} {a b : Int} {t : TypeId} (hop : op ≠ .shl ∧ op ≠ .shr) (hR : ibin op k a b R) : ∃ cv v, (binOp op t (.int k a) (.int k b)).run P K.w = .ok cv K.w ∧ VR K v cv ∧ R v := by
  cases op <;> simp only [ibin] at hR <;> first
    | exact hR.elim
    | exact ⟨_, _, by simp [binOp, Op.intArith, Op.intCmp], .int _ _, hR⟩
    | exact ⟨_, _, by simp [binOp, Op.intArith, Op.intCmp], .bool _, hR⟩
    | exact ⟨_, _, by simp [binOp, Op.intDiv, hR.1], .int _ _, hR.2⟩

theorem sbins {op : BinOp} {s t : ByteArray} {ty : TypeId} (hR : sbin op s t R) : ∃ cv v, (binOp op ty (.string s) (.string t)).run P K.w = .ok cv K.w ∧ VR K v cv ∧ R v := by
  have hm : IntKind.i64.max = 9223372036854775807 := rfl
  cases op <;> simp only [sbin] at hR <;> first
    | exact hR.elim
    | exact ⟨_, _, by simp [binOp, Op.stringOp], .bool _, hR⟩
    | (refine ⟨_, _, ?_, .str _, hR.2⟩
       have := hR.1
       simp only [binOp, Op.stringOp, hm]
       rw [if_neg (by omega)]
       rfl)

end
end Go.Proofs.Ythcedfamidlbdaa
