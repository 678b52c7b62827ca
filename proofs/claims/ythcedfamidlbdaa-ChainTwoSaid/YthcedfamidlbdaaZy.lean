/-
The abstract layer, twenty-fifth part: iterators and ranges over them; guarded runs of operations; closures over boxes that nobody writes; looser arguments. No program in sight. No conditions.
-/
import Derived.Test.YthcedfamidlbdaaZx
namespace Go.Proofs.Ythcedfamidlbdaa
set_option linter.unusedSimpArgs false
set_option linter.unusedVariables false
set_option linter.unusedSectionVars false
open Go.RowKit

/-! ### Memory, applied -/
theorem Hp.set_app (h : Hp) (n : Nat) (b : Blk) (m : Nat) : (h.set n b) m = if m = n then some b else h m := rfl
theorem Hp.del_app (h : Hp) (n m : Nat) : (h.del n) m = if m = n then Option.none else h m := rfl

/-- The names in memory lie below the next one. -/
def DomB (h : Hp) (nx : Nat) : Prop := ∀ m b, h m = some b → m < nx
theorem ACalls.dom {P : Program} {f : FuncId} {args : List V} {h : Hp} {nx : Nat} {R : V → Hp → Nat → Prop} (c : ACalls P f args h nx R) : ACalls P f args h nx fun v h' nx' => R v h' nx' ∧ DomB h' nx' ∧ nx ≤ nx' :=
  ⟨c.1, fun K cargs hl hrel hv => (c.2 K cargs hl hrel hv).mono fun _ _ ⟨K', v, cv, h', nx', a, b, c, d, e, g, i, j⟩ => ⟨K', v, cv, h', nx', a, b, c, d, e, g, i, j, fun m b hm => (g m (e.lt m b hm)).1, i⟩⟩
theorem AYields.dom {P : Program} {n : Nat} {args : List V} {h : Hp} {nx : Nat} {R : V → Hp → Nat → Prop} (c : AYields P n args h nx R) : AYields P n args h nx fun v h' nx' => R v h' nx' ∧ DomB h' nx' ∧ nx ≤ nx' :=
  fun m K cargs hl hn hrel hv => (c m K cargs hl hn hrel hv).mono fun _ _ ⟨K', v, cv, h', nx', a, b, c, d, e, g, i, j⟩ => ⟨K', v, cv, h', nx', a, b, c, d, e, g, i, j, fun m b hm => (g m (e.lt m b hm)).1, i⟩

theorem DomB.set {h : Hp} {nx nx' n : Nat} (hd : DomB h nx) (hn : n < nx') (hle : nx ≤ nx') (b : Blk) : DomB (h.set n b) nx' := fun m c e => by
  unfold Hp.set at e
  split at e
  · omega
  · have := hd m c e; omega
theorem DomB.del {h : Hp} {nx n : Nat} (hd : DomB h nx) : DomB (h.del n) nx := fun m c e => by
  unfold Hp.del at e
  split at e
  · cases e
  · exact hd m c e
theorem DomB.up {h : Hp} {nx nx' : Nat} (hd : DomB h nx) (hle : nx ≤ nx') : DomB h nx' := fun m c e => by have := hd m c e; omega
theorem DomB.le {h h' : Hp} {nx : Nat} (hd : DomB h' nx) (hle : h.le h') : DomB h nx := fun m c e => hd m c (hle m c e)
theorem set_le_of {h h' : Hp} {n : Nat} {b : Blk} (hle : h.le h') (hn : h' n = some b) : (h.set n b).le h' := fun m c e => by
  unfold Hp.set at e
  split at e
  · rename_i em; subst em; injection e with e; subst e; exact hn
  · exact hle m c e
theorem le_set {h h' : Hp} {n : Nat} (hle : h.le h') (hn : h n = none) (b : Blk) : h.le (h'.set n b) := fun m c e => by
  unfold Hp.set
  split
  · rename_i em; subst em; rw [hn] at e; cases e
  · exact hle m c e
theorem le_del {h h' : Hp} {n : Nat} (hle : h.le h') (hn : h n = none) : h.le (h'.del n) := fun m c e => by
  unfold Hp.del
  split
  · rename_i em; subst em; rw [hn] at e; cases e
  · exact hle m c e
theorem DomB.none {h : Hp} {nx n : Nat} (hd : DomB h nx) (hn : nx ≤ n) : h n = .none := by
  cases e : h n with
  | none => rfl
  | some b => exact absurd (hd n b e) (by omega)
theorem le_has {h h' : Hp} (hle : h.le h') : Hp.has h h' := fun n k es e => hle n _ e
theorem Hp.le_trans {a b c : Hp} (h : a.le b) (h' : b.le c) : a.le c := fun n x e => h' n x (h n x e)

/-! ### Iterators -/
/-- An iterator: hands these argument lists to yield, one behind the other, as long as yield says so; hb: what it wants of memory. -/
def Iter (P : Program) (gf : Nat) (caps : List V) (hb : Hp) (xs : List (List V)) : Prop :=
  ∀ (yn : Nat) (J : Nat → Hp → Nat → Prop) (D : Hp → Nat → Prop),
    (∀ i h nx, J i h nx → hb.has h) → (∀ i h nx nx', J i h nx → nx ≤ nx' → J i h nx') → (∀ h nx nx', D h nx → nx ≤ nx' → D h nx') →
    (∀ i (hi : i < xs.length) h nx, J i h nx → DomB h nx → AYields P yn xs[i] h nx fun v h' nx' => (v = .bool true ∧ J (i + 1) h' nx') ∨ (v = .bool false ∧ D h' nx')) →
    ∀ h nx, J 0 h nx → DomB h nx → ACalls P gf (.yld yn :: caps) h nx fun _ h' nx' => J xs.length h' nx' ∨ D h' nx'

def asgR (r : Nat) (X : Blk) (J : St → Prop) : LExit → St → Prop
  | .normal, s => s.h r = some X ∧ J s
  | _, _ => False
def rangeR (r : Nat) (X : Blk) (I : Hp → Nat → Prop) (E : LExit → Hp → Nat → Prop) : LExit → St → Prop
  | .normal, s => s.h r = some X ∧ I s.h s.nx
  | e, s => s.h r = some X ∧ E e s.h s.nx
theorem asgR_normal {r : Nat} {X : Blk} {J : St → Prop} {s : St} (h : s.h r = some X) (hj : J s) : asgR r X J .normal s := ⟨h, hj⟩
theorem rangeR_normal {r : Nat} {X : Blk} {I : Hp → Nat → Prop} {E : LExit → Hp → Nat → Prop} {s : St} (h : s.h r = some X) (hi : I s.h s.nx) : rangeR r X I E .normal s := ⟨h, hi⟩
theorem rangeR_exit {r : Nat} {X : Blk} {I : Hp → Nat → Prop} {E : LExit → Hp → Nat → Prop} {s : St} {id : Nat} (h : s.h r = some X) (hi : E (.exit id) s.h s.nx) : rangeR r X I E (.exit id) s := ⟨h, hi⟩
theorem rangeR_ret {r : Nat} {X : Blk} {I : Hp → Nat → Prop} {E : LExit → Hp → Nat → Prop} {s : St} (h : s.h r = some X) (hi : E .ret s.h s.nx) : rangeR r X I E .ret s := ⟨h, hi⟩

/-- A range over an iterator: I: what holds of memory where so many rounds are behind; E: where a round has left the loop. -/
theorem lwp_range_iter {P : Program} {g : LArg} {ps : List Nat} {as b : LCode} {Q : LExit → St → Prop} {s : St} {gf : Nat} {caps : List V} {hb : Hp} {xs : List (List V)} (hit : Iter P gf caps hb xs) (hg : g.ev s.sl = .fn (.func gf) [] caps)
    (hlen : ∀ x ∈ xs, x.length = ps.length) (hd : DomB s.h s.nx) (I : Nat → Hp → Nat → Prop) (E : LExit → Hp → Nat → Prop)
    (hbI : ∀ i h nx, I i h nx → hb.has h) (hnI : ∀ i h nx nx', I i h nx → nx ≤ nx' → I i h nx') (hsI : ∀ i h nx b, I i h nx → I i (h.set s.nx b) nx)
    (hnE : ∀ e h nx nx', E e h nx → nx ≤ nx' → E e h nx') (hsE : ∀ e h nx b, E e h nx → E e (h.set s.nx b) nx)
    (h0 : I 0 s.h (s.nx + 1))
    (hround : ∀ i (hi : i < xs.length) h nx X, I i h nx → s.nx < nx → h s.nx = some X → DomB h nx →
      lwp P as (asgR s.nx X fun s1 => ∀ X', lwp P b (rangeR s.nx X' (I (i + 1)) E) ⟨s1.sl, s1.h.set s.nx X', s1.nx⟩) ⟨putAll s.sl ps xs[i], h, nx⟩)
    (hend : ∀ h nx, I xs.length h nx → s.nx < nx → DomB h nx → Q .normal ⟨s.sl, h.del s.nx, nx⟩)
    (hex : ∀ e h nx, E e h nx → s.nx < nx → DomB h nx → (e = .ret ∨ ∃ id, e = .exit id) → Q e ⟨s.sl, h.del s.nx, nx⟩) : lwp P (.range g ps as b) Q s := by
  simp only [lwp, hg]
  intro rcd U hpl hY
  have hset : ∀ (h : Hp) (b : Blk), (h.set s.nx b) s.nx = some b := fun h b => by simp [Hp.set]
  refine ((hit s.nx (fun i h nx => I i h nx ∧ h s.nx = some (.obj (rcd .ready none) U))
    (fun h nx => (h s.nx = some (.obj (rcd .done (some .ret)) U) ∧ E .ret h nx) ∨ ∃ id, h s.nx = some (.obj (rcd .done (some (.exit id))) U) ∧ E (.exit id) h nx)
    (fun i h nx hj => hbI i h nx hj.1) (fun i h nx nx' hj hle => ⟨hnI i h nx nx' hj.1 hle, hj.2⟩)
    (fun h nx nx' hD hle => hD.imp (fun hD => ⟨hD.1, hnE _ _ _ _ hD.2 hle⟩) (fun ⟨id, hD⟩ => ⟨id, hD.1, hnE _ _ _ _ hD.2 hle⟩)) ?_ _ (s.nx + 1) ⟨hsI _ _ _ _ h0, hset _ _⟩ ?_).dom).mono ?_
  · rintro i hi h nx ⟨hI, hr⟩ hdom
    refine hY xs[i] h nx _ (hlen _ (List.getElem_mem _)) hr ?_
    refine lwp_mono ?_ (hround i hi h nx _ hI (hdom _ _ hr) hr hdom)
    intro e s1 hq
    cases e with
    | exit id => exact hq.elim
    | ret => exact hq.elim
    | normal =>
      refine ⟨hq.1, lwp_mono ?_ (hq.2 (.obj (rcd .busy none) U))⟩
      intro e s2 hq2
      cases e with
      | normal => exact ⟨hq2.1, .inl ⟨rfl, hsI _ _ _ _ hq2.2, hset _ _⟩⟩
      | ret => exact ⟨hq2.1, .inr ⟨rfl, .inl ⟨hset _ _, hsE _ _ _ _ hq2.2⟩⟩⟩
      | exit id => exact ⟨hq2.1, .inr ⟨rfl, .inr ⟨id, hset _ _, hsE _ _ _ _ hq2.2⟩⟩⟩
  · intro m b hm
    unfold Hp.set at hm
    split at hm
    · omega
    · have := hd m b hm; omega
  · rintro v h' nx' _ ⟨(⟨hI, hr⟩ | (⟨hr, hE⟩ | ⟨id, hr, hE⟩)), hdom, hle⟩
    · exact .inl ⟨hr, hend _ _ hI (by omega) hdom⟩
    · exact .inr (.inl ⟨hr, hex _ _ _ hE (by omega) hdom (.inl rfl)⟩)
    · exact .inr (.inr ⟨id, hr, hex _ _ _ hE (by omega) hdom (.inr ⟨id, rfl⟩)⟩)

/-! ### Loops, whatever their memory -/
def roundM {ι : Type} (sl : ι → List V) (C : ι → Hp → Nat → Prop) (m : ι → Nat) (n : Nat) (Q : LExit → St → Prop) : LExit → St → Prop
  | .normal, s => ∃ i, m i < n ∧ WkL s.sl (sl i) ∧ C i s.h s.nx
  | e, s => Q e s
section
variable {P : Program} {Q : LExit → St → Prop} {s : St} {ι : Type} {sl : ι → List V} {C : ι → Hp → Nat → Prop} {m : ι → Nat} {n : Nat}
theorem roundM_normal {sl0 : List V} {h : Hp} {nx : Nat} (i : ι) (hm : m i < n) (hC : C i h nx) (hw : WkL sl0 (sl i)) : roundM sl C m n Q .normal ⟨sl0, h, nx⟩ := ⟨i, hm, hw, hC⟩
theorem roundM_exit {id : Nat} (h : Q (.exit id) s) : roundM sl C m n Q (.exit id) s := h
theorem roundM_ret (h : Q .ret s) : roundM sl C m n Q .ret s := h
theorem lwp_loopM {c : LCode} (sl : ι → List V) (C : ι → Hp → Nat → Prop) (m : ι → Nat) (i0 : ι) (h0 : C i0 s.h s.nx) (hw : WkL s.sl (sl i0)) (hr : ∀ i h nx, C i h nx → lwp P c (roundM sl C m (m i) Q) ⟨sl i, h, nx⟩) : lwp P (.loop c) Q s := by
  refine lwp_loop (fun p : ι × Hp × Nat => C p.1 p.2.1 p.2.2) (fun p => ⟨sl p.1, p.2.1, p.2.2⟩) (fun p => m p.1) (i0, s.h, s.nx) h0 ⟨hw, Hp.le_refl _, Nat.le_refl _⟩ ?_
  rintro ⟨i, h, nx⟩ hC
  refine lwp_mono ?_ (hr i h nx hC)
  intro e s' hq
  cases e with
  | normal =>
    obtain ⟨j, h1, h2, h3⟩ := hq
    exact ⟨(j, s'.h, s'.nx), h3, h1, h2, Hp.le_refl _, Nat.le_refl _⟩
  | exit id => exact hq
  | ret => exact hq
end
theorem DomB.set2 {h : Hp} {nx n : Nat} (hd : DomB h nx) (hn : n < nx) (b : Blk) : DomB (h.set n b) nx := hd.set hn (Nat.le_refl _) b

/-! ### Operations up to the next call or guard -/
def LOper.plain (o : LOper) : Bool := match o.g with
  | none => !o.op.isCall
  | some _ => false
def goOps : List LOper → List LOper
  | [] => []
  | o :: r => match o.plain with
    | true => o :: goOps r
    | false => []
def goRest : List LOper → List LOper
  | [] => []
  | o :: r => match o.plain with
    | true => goRest r
    | false => o :: r
theorem lops_go {P : Program} {Q : St → Prop} : ∀ (l : List LOper) (s : St), okAll (goOps l) s → lops P (goRest l) Q (nextAll (goOps l) s) → lops P l Q s
  | [], s, _, h => h
  | o :: r, s, ho, h => by
    cases hc : o.plain with
    | false => simp only [goOps, goRest, hc] at ho h; exact h
    | true =>
      simp only [goOps, goRest, hc] at ho h
      have hcall : o.op.isCall = false := by
        unfold LOper.plain at hc
        split at hc
        · simpa using hc
        · cases hc
      exact lops_next hcall ho.1 (lops_go r _ ho.2 h)
theorem lops_nil {P : Program} {Q : St → Prop} {s : St} : lops P [] Q s = Q s := rfl

theorem lops_done {P : Program} {Q : St → Prop} {s : St} (h : Q s) : lops P [] Q s := h
/-- The same, where the first one is no call and has no guard. -/
theorem lops_go1 {P : Program} {Q : St → Prop} {o : LOper} {r : List LOper} {s : St} (_ : o.plain = true) (ho : okAll (goOps (o :: r)) s) (h : lops P (goRest (o :: r)) Q (nextAll (goOps (o :: r)) s)) : lops P (o :: r) Q s := lops_go _ s ho h
/-- Appending to nothing: a new array, owned. -/
theorem lops_append_nil {P : Program} {Q : St → Prop} {s : St} {dst : Option Nat} {k : Sh} {bs : Nat} {x y : LArg} {r : List LOper} {ys : List V} (hx : x.ev s.sl = .sl k .nil []) (hy : selems s.h (y.ev s.sl) = some (k, ys)) (hne : ys ≠ []) (hb : ys.length * bs ≤ 140737488355328)
    (h : lops P r Q ⟨putV s.sl dst (.rs s.nx k 0 ys.length), s.h.set s.nx (.arr k ys), s.nx + 1⟩) : lops P (⟨dst, none, .append k bs x y⟩ :: r) Q s := by
  unfold lops
  simp only [LOp.run, LOp.sem, hy, hx]
  exact ⟨trivial, trivial, by simpa using hb, .inr ⟨trivial, trivial, hne, h⟩⟩
/-- append to the head of an owned array. -/
theorem lops_append_cut {P : Program} {Q : St → Prop} {s : St} {dst : Option Nat} {k : Sh} {bs n len : Nat} {x y : LArg} {r : List LOper} {es ys : List V} (hx : x.ev s.sl = .rs n k 0 len) (hn : s.h n = some (.arr k es)) (hl : len ≤ es.length) (hy : selems s.h (y.ev s.sl) = some (k, ys)) (hne : ys ≠ []) (hb : (len + ys.length) * bs ≤ 140737488355328)
    (h : lops P r Q ⟨putV s.sl dst (.rs s.nx k 0 (len + ys.length)), (s.h.del n).set s.nx (.arr k (es.take len ++ ys)), s.nx + 1⟩) : lops P (⟨dst, none, .append k bs x y⟩ :: r) Q s := by
  unfold lops
  simp only [LOp.run, LOp.sem, hy, hx, hn]
  exact ⟨trivial, trivial, .inr ⟨trivial, trivial, hl, hne, hb, h⟩⟩
theorem lops_append_nothing {P : Program} {Q : St → Prop} {s : St} {dst : Option Nat} {k kb : Sh} {bs n off len : Nat} {x y : LArg} {r : List LOper} {es : List V} (hx : x.ev s.sl = .rs n k off len) (hn : s.h n = some (.arr kb es)) (hy : selems s.h (y.ev s.sl) = some (k, []))
    (h : lops P r Q ⟨putV s.sl dst (.rs n k off len), s.h, s.nx + 1⟩) : lops P (⟨dst, none, .append k bs x y⟩ :: r) Q s := by
  unfold lops
  simp only [LOp.run, LOp.sem, hy, hx, hn]
  exact ⟨trivial, trivial, .inl ⟨trivial, h⟩⟩
theorem lops_bslice_own {P : Program} {Q : St → Prop} {s : St} {dst : Option Nat} {k : Sh} {xs : List LArg} {r : List LOper} (hf : ∀ e ∈ xs, (e.ev s.sl).fits k = true)
    (h : lops P r Q ⟨putV s.sl dst (.rs s.nx k 0 xs.length), s.h.set s.nx (.arr k (xs.map (LArg.ev s.sl))), s.nx + 1⟩) : lops P (⟨dst, none, .bslice k xs⟩ :: r) Q s := by
  unfold lops
  exact ⟨hf, .inr h⟩
theorem bound_mul {a b : Nat} (h : a ≤ 1000000000) (h' : b ≤ 140737) : a * b ≤ 140737488355328 := Nat.le_trans (Nat.mul_le_mul h h') (by decide)
/-- Where a walk through a region that draws its order stops: calls and stores. -/
def LOp.isStop : LOp → Bool
  | .call _ _ => true
  | .callv _ _ => true
  | .callw _ _ _ => true
  | .store _ _ _ => true
  | _ => false
def LOper.dplain (o : LOper) : Bool := match o.g with
  | none => !o.op.isStop
  | some _ => false
def dgoOps : List (LOper × List Nat) → List (LOper × List Nat)
  | [] => []
  | o :: r => match o.1.dplain with
    | true => o :: dgoOps r
    | false => []
def dgoRest : List (LOper × List Nat) → List (LOper × List Nat)
  | [] => []
  | o :: r => match o.1.dplain with
    | true => dgoRest r
    | false => o :: r
/-- Up to the next call, guards and all. -/
def dgoC : List (LOper × List Nat) → List (LOper × List Nat)
  | [] => []
  | o :: r => match o.1.op.isStop with
    | true => []
    | false => o :: dgoC r
def dgoCRest : List (LOper × List Nat) → List (LOper × List Nat)
  | [] => []
  | o :: r => match o.1.op.isStop with
    | true => o :: r
    | false => dgoCRest r
theorem dgoC_append : ∀ l : List (LOper × List Nat), dgoC l ++ dgoCRest l = l
  | [] => rfl
  | o :: r => by
    unfold dgoC dgoCRest
    split
    · rfl
    · rw [List.cons_append, dgoC_append r]
theorem dops_goC {P : Program} {h0 : Hp} {nx0 : Nat} {Q : List V → List (Option Blk) → List (Option Con) → Prop} {l : List (LOper × List Nat)} {sl : List V} {adds : List (Option Blk)} {cons : List (Option Con)} (ho : dokAll h0 nx0 (dgoC l) ⟨sl, adds, cons⟩)
    (h : dops P h0 nx0 (dgoCRest l) (dnextAll h0 nx0 (dgoC l) ⟨sl, adds, cons⟩).sl (dnextAll h0 nx0 (dgoC l) ⟨sl, adds, cons⟩).adds (dnextAll h0 nx0 (dgoC l) ⟨sl, adds, cons⟩).cons Q) : dops P h0 nx0 l sl adds cons Q := by
  have := dops_all (P := P) (Q := Q) (r := dgoCRest l) (dgoC l) ⟨sl, adds, cons⟩ ho h
  rwa [dgoC_append] at this
theorem dgo_append : ∀ l : List (LOper × List Nat), dgoOps l ++ dgoRest l = l
  | [] => rfl
  | o :: r => by
    unfold dgoOps dgoRest
    split
    · rw [List.cons_append, dgo_append r]
    · rfl
theorem dops_go1 {P : Program} {h0 : Hp} {nx0 : Nat} {Q : List V → List (Option Blk) → List (Option Con) → Prop} {o : LOper × List Nat} {r : List (LOper × List Nat)} {sl : List V} {adds : List (Option Blk)} {cons : List (Option Con)} (_ : o.1.dplain = true) (ho : dokAll h0 nx0 (dgoOps (o :: r)) ⟨sl, adds, cons⟩)
    (h : dops P h0 nx0 (dgoRest (o :: r)) (dnextAll h0 nx0 (dgoOps (o :: r)) ⟨sl, adds, cons⟩).sl (dnextAll h0 nx0 (dgoOps (o :: r)) ⟨sl, adds, cons⟩).adds (dnextAll h0 nx0 (dgoOps (o :: r)) ⟨sl, adds, cons⟩).cons Q) : dops P h0 nx0 (o :: r) sl adds cons Q := by
  have := dops_all (P := P) (Q := Q) (r := dgoRest (o :: r)) (dgoOps (o :: r)) ⟨sl, adds, cons⟩ ho h
  rwa [dgo_append] at this
theorem partOK_self (k : Sh) : partOK k k 0 := by cases k <;> simp [partOK]
theorem loadPart_self {k : Sh} {v : V} (h : v.fits k = true) : loadPart k 0 v = v := by
  cases k with
  | leaf => cases v <;> first | rfl | (simp [V.fits, V.leafy] at h)
  | agg m =>
    cases v with
    | agg cs =>
      simp only [V.fits, Bool.and_eq_true, decide_eq_true_eq] at h
      simp [loadPart, V.cells, h.1]
    | _ => simp [V.fits] at h
theorem partOK_ll (o : Nat) : partOK .leaf .leaf o = (o = 0) := rfl
theorem partOK_al (n o : Nat) : partOK (.agg n) .leaf o = (o < n) := rfl
theorem partOK_aa (n m o : Nat) : partOK (.agg n) (.agg m) o = (o + m ≤ n) := rfl
theorem loadPart_l (o : Nat) (v : V) : loadPart .leaf o v = v.cell o := rfl
theorem loadPart_a (m o : Nat) (cs : List V) : loadPart (.agg m) o (.agg cs) = if o = 0 ∧ cs.length = m then .agg cs else .agg ((cs.drop o).take m) := rfl
theorem storePart_la (o : Nat) (cs : List V) (v : V) : storePart .leaf o (.agg cs) v = .agg (cs.set o v) := rfl
theorem storePart_aa (m o : Nat) (cs : List V) (v : V) : storePart (.agg m) o (.agg cs) v = if o = 0 ∧ cs.length = m then v else .agg (cs.take o ++ v.cells ++ cs.drop (o + m)) := rfl
theorem veq_aa (n : Nat) (ks : List LK) (xs ys : List V) : veq (.plain (.agg n) ks) (.agg xs) (.agg ys) = if ((V.agg xs).fits (.agg n) && (V.agg ys).fits (.agg n)) = true then veqL ks xs ys else none := rfl
theorem veq_li (ks : List LK) (k k' : IntKind) (a b : Int) : veq (.plain .leaf ks) (.int k a) (.int k' b) = veqL ks [.int k a] [.int k' b] := rfl
theorem veq_lb (ks : List LK) (a b : Bool) : veq (.plain .leaf ks) (.bool a) (.bool b) = veqL ks [.bool a] [.bool b] := rfl
theorem veq_ls (ks : List LK) (a b : ByteArray) : veq (.plain .leaf ks) (.str a) (.str b) = veqL ks [.str a] [.str b] := rfl
theorem cells_agg (cs : List V) : (V.agg cs).cells = cs := rfl
theorem cells_leaf {v : V} (h : v.leafy = true) : v.cells = [v] := by cases v <;> first | rfl | (simp [V.leafy] at h)
theorem cell_agg (cs : List V) (j : Nat) : (V.agg cs).cell j = cs.getD j V.undef := rfl
theorem cell_leaf {v : V} (h : v.leafy = true) : v.cell 0 = v := by cases v <;> first | rfl | (simp [V.leafy] at h)
theorem veq_ptr1 : veq .ptr .nilPtr .nilPtr = some true := rfl
theorem veq_ptr2 (n : Nat) (k : Sh) (i o : Nat) : veq .ptr .nilPtr (.ptr n k i o) = some false := rfl
theorem veq_ptr3 (n : Nat) (k : Sh) (i o : Nat) : veq .ptr (.ptr n k i o) .nilPtr = some false := rfl
theorem veq_ptr4 (k : Sh) (es : List V) (i o : Nat) : veq .ptr .nilPtr (.ept k es i o) = some false := rfl
theorem veq_ptr5 (k : Sh) (es : List V) (i o : Nat) : veq .ptr (.ept k es i o) .nilPtr = some false := rfl
theorem veq_slice1 (k k' : Sh) (o : Own) (es es' : List V) : veq .slice (.sl k o es) (.sl k' .nil es') = some (o == .nil) := rfl
theorem veq_slice2 (n : Nat) (k k' : Sh) (o l : Nat) (es' : List V) : veq .slice (.rs n k o l) (.sl k' .nil es') = some false := rfl
theorem veq_func1 : veq .func .nilFn .nilFn = some true := rfl
theorem veq_func2 (f : Fn) (a b : List V) : veq .func .nilFn (.fn f a b) = some false := rfl
theorem veq_func3 (f : Fn) (a b : List V) : veq .func (.fn f a b) .nilFn = some false := rfl
theorem veq_iface1 : veq (.iface true) .nilIface .nilIface = some true := rfl
theorem veq_iface2 (c : Bool) (t : Nat) (v : V) : veq (.iface c) .nilIface (.iface t v) = some false := by cases c <;> rfl
theorem veq_iface3 (c : Bool) (t : Nat) (v : V) : veq (.iface c) (.iface t v) .nilIface = some false := by cases c <;> rfl
theorem veq_map1 : veq .map .nilMap .nilMap = some true := rfl
theorem veq_map2 (n : Nat) : veq .map .nilMap (.map n) = some false := rfl
theorem veq_map3 (n : Nat) : veq .map (.map n) .nilMap = some false := rfl
theorem veq_chan1 : veq .chan .nilChan .nilChan = some true := rfl
theorem veq_chan2 (n : Nat) : veq .chan .nilChan (.chan n) = some false := rfl
theorem veq_chan3 (n : Nat) : veq .chan (.chan n) .nilChan = some false := rfl
theorem fits_agg (n : Nat) (cs : List V) : V.fits (.agg n) (.agg cs) = (decide (cs.length = n) && cs.all V.leafy) := by simp only [V.fits]
theorem leafy_bool (b : Bool) : V.leafy (.bool b) = true := by simp only [V.leafy]
theorem leafy_int (k : IntKind) (n : Int) : V.leafy (.int k n) = true := by simp only [V.leafy]
theorem leafy_str (s : ByteArray) : V.leafy (.str s) = true := by simp only [V.leafy]
theorem leafy_nilPtr  : V.leafy (.nilPtr ) = true := by simp only [V.leafy]
theorem leafy_ptr (n : Nat) (k : Sh) (i o : Nat) : V.leafy (.ptr n k i o) = true := by simp only [V.leafy]
theorem leafy_ept (k : Sh) (es : List V) (i o : Nat) : V.leafy (.ept k es i o) = true := by simp only [V.leafy]
theorem leafy_sl (k : Sh) (own : Own) (es : List V) : V.leafy (.sl k own es) = true := by simp only [V.leafy]
theorem leafy_rs (n : Nat) (k : Sh) (off len : Nat) : V.leafy (.rs n k off len) = true := by simp only [V.leafy]
theorem leafy_nilMap  : V.leafy (.nilMap ) = true := by simp only [V.leafy]
theorem leafy_map (n : Nat) : V.leafy (.map n) = true := by simp only [V.leafy]
theorem leafy_nilChan  : V.leafy (.nilChan ) = true := by simp only [V.leafy]
theorem leafy_chan (n : Nat) : V.leafy (.chan n) = true := by simp only [V.leafy]
theorem leafy_fn (f : Fn) (a b : List V) : V.leafy (.fn f a b) = true := by simp only [V.leafy]
theorem leafy_nilFn  : V.leafy (.nilFn ) = true := by simp only [V.leafy]
theorem leafy_yld (n : Nat) : V.leafy (.yld n) = true := by simp only [V.leafy]
theorem leafy_iface (t : Nat) (v : V) : V.leafy (.iface t v) = true := by simp only [V.leafy]
theorem leafy_nilIface  : V.leafy (.nilIface ) = true := by simp only [V.leafy]
theorem fits_leaf (v : V) : v.fits .leaf = v.leafy := by cases v <;> rfl
theorem storePart_self {k : Sh} {e v : V} (he : e.fits k = true) (hv : v.fits k = true) : storePart k 0 e v = v := by
  cases k with
  | leaf => cases e <;> first | rfl | (simp [V.fits, V.leafy] at he)
  | agg m =>
    cases e with
    | agg cs =>
      simp only [V.fits, Bool.and_eq_true, decide_eq_true_eq] at he
      simp [storePart, he.1]
    | _ => simp [V.fits] at he

/-- A value that is there if c. -/
def V.gd (c : Bool) (v : V) : V := if c = true then v else V.undef
theorem V.gd_true (v : V) : V.gd true v = v := rfl
theorem V.gd_false (v : V) : V.gd false v = V.undef := rfl
theorem pick_gd (c : Bool) (x y : V) : V.pick c (V.gd c x) y = V.pick c x y := by cases c <;> simp [V.gd, pick_true, pick_false]
theorem pick_gdn (c : Bool) (x y : V) : V.pick c x (V.gd (!c) y) = V.pick c x y := by cases c <;> simp [V.gd, pick_true, pick_false]
theorem pick_and (t x : Bool) : V.pick t (.bool x) (.bool false) = .bool (t && x) := by cases t <;> rfl
theorem pick_or (t y : Bool) : V.pick t (.bool true) (.bool y) = .bool (t || y) := by cases t <;> rfl

/-- The run of operations with the first one's guard. -/
def gRun (g : Option (Nat × Bool)) : List LOper → List LOper
  | [] => []
  | o :: r => if o.g = g then o :: gRun g r else []
def gRest (g : Option (Nat × Bool)) : List LOper → List LOper
  | [] => []
  | o :: r => if o.g = g then gRest g r else o :: r
def bare (l : List LOper) : List LOper := l.map fun o => ⟨o.dst, none, o.op⟩
/-- What the run leaves: each of its slots as under the guard, if the guard holds. -/
def gMerge (c : Bool) (sl' : List V) : List LOper → List V → List V
  | [], sl => sl
  | o :: r, sl => gMerge c sl' r (match o.dst with | some d => sl.set d (V.gd c (sl'.getD d V.undef)) | none => sl)

/-- Two frames that differ at these slots alone. -/
def Beside (ds : List Nat) (a b : List V) : Prop := a.length = b.length ∧ ∀ t, t ∉ ds → a.getD t V.undef = b.getD t V.undef
theorem lops_beside {P : Program} {Q : St → Prop} : ∀ (l : List LOper) (s : St), lops P l Q s → lops P l (fun s' => Q s' ∧ Beside (l.filterMap (·.dst)) s.sl s'.sl) s := by
  have key : ∀ (l : List LOper) (s0 s : St) (ds : List Nat), Beside ds s0.sl s.sl → lops P l Q s → lops P l (fun s' => Q s' ∧ Beside (ds ++ l.filterMap (·.dst)) s0.sl s'.sl) s := by
    intro l
    induction l with
    | nil => intro s0 s ds hb h; exact ⟨h, by simpa using hb⟩
    | cons o r ih =>
      intro s0 s ds hb h
      have step : ∀ (v : V) (h' : Hp) (nx' : Nat), lops P r Q ⟨putV s.sl o.dst v, h', nx'⟩ → lops P r (fun s' => Q s' ∧ Beside (ds ++ (o :: r).filterMap (·.dst)) s0.sl s'.sl) ⟨putV s.sl o.dst v, h', nx'⟩ := by
        intro v h' nx' hq
        have hb' : Beside (ds ++ [o].filterMap (·.dst)) s0.sl (putV s.sl o.dst v) := by
          obtain ⟨h1, h2⟩ := hb
          cases hd : o.dst with
          | none => simp only [putV, List.filterMap_cons, hd, List.filterMap_nil, List.append_nil]; exact ⟨h1, h2⟩
          | some d =>
            refine ⟨by simp [putV, h1], fun t ht => ?_⟩
            simp [hd] at ht
            rw [h2 t ht.1]
            simp only [putV, List.getD_eq_getElem?_getD]
            rw [List.getElem?_set_ne (fun e => ht.2 e.symm)]
        have := ih s0 ⟨putV s.sl o.dst v, h', nx'⟩ _ hb' hq
        have e : (ds ++ [o].filterMap (·.dst)) ++ r.filterMap (·.dst) = ds ++ (o :: r).filterMap (·.dst) := by
          cases hd : o.dst <;> simp [hd]
        rw [e] at this
        exact this
      have one := lops_mono (P := P) (Q := fun s' => lops P r Q s') (Q' := fun s' => lops P r Q s') (fun _ x => x) [o] s
      revert h
      unfold lops
      split
      · rename_i hg
        intro h
        have := lops_mono (P := P) (Q := fun s' => lops P r Q s' ∧ ∃ v h' nx', s' = ⟨putV s.sl o.dst v, h', nx'⟩) (Q' := fun s' => lops P r (fun s' => Q s' ∧ Beside (ds ++ (o :: r).filterMap (·.dst)) s0.sl s'.sl) s') (by rintro s' ⟨hq, v, h', nx', rfl⟩; exact step v h' nx' hq) [o] s (by
          unfold lops
          rw [hg]
          show o.op.run P s.sl s.h s.nx fun v h' nx' => lops P r Q ⟨putV s.sl o.dst v, h', nx'⟩ ∧ _
          exact LOp.run_mono (fun v h' nx' hq => ⟨hq, v, h', nx', rfl⟩) h)
        unfold lops at this
        rw [hg] at this
        exact this
      · rename_i t want hg
        split
        · split
          · intro h
            exact LOp.run_mono (fun v h' nx' hq => step v h' nx' hq) h
          · exact step _ _ _
        · exact step _ _ _
        · exact id
  intro l s h
  have := key l s s [] ⟨rfl, fun _ _ => rfl⟩ h
  simpa using this

theorem gMerge_true {sl' : List V} : ∀ (l : List LOper) (sl : List V), sl.length = sl'.length → (∀ t, t ∉ l.filterMap (·.dst) → sl.getD t V.undef = sl'.getD t V.undef) → gMerge true sl' l sl = sl'
  | [], sl, hl, h => by
    apply List.ext_getElem hl
    intro i h1 h2
    have := h i (by simp)
    rwa [List.getD_eq_getElem?_getD, List.getD_eq_getElem?_getD, List.getElem?_eq_getElem h1, List.getElem?_eq_getElem h2] at this
  | o :: r, sl, hl, h => by
    unfold gMerge
    cases hd : o.dst with
    | none => exact gMerge_true r sl hl (by simpa [hd] using h)
    | some d =>
      refine gMerge_true r _ (by simpa using hl) fun t ht => ?_
      by_cases e : d = t
      · subst e
        simp only [List.getD_eq_getElem?_getD]
        by_cases hdl : d < sl.length
        · rw [List.getElem?_set_self hdl]; simp [V.gd]
        · rw [List.getElem?_eq_none (by simp; omega), List.getElem?_eq_none (by omega)]
      · have := h t (by
          rw [List.filterMap_cons, hd]
          simp only [List.mem_cons, not_or]
          exact ⟨fun e' => e e'.symm, ht⟩)
        simp only [List.getD_eq_getElem?_getD] at this ⊢
        rw [List.getElem?_set_ne e, this]

theorem gMerge_false {P : Program} {Q : St → Prop} {sl' : List V} {t : Nat} {want b : Bool} (hne : b ≠ want) {r : List LOper} : ∀ (l : List LOper) (s : St), (∀ o ∈ l, o.g = some (t, want)) → (∀ o ∈ l, o.dst ≠ some t) → s.sl.getD t V.undef = .bool b →
    lops P r Q ⟨gMerge false sl' l s.sl, s.h, s.nx⟩ → lops P (l ++ r) Q s
  | [], s, _, _, _, h => h
  | o :: l, s, hg, hd, hb, h => by
    rw [List.cons_append]
    unfold lops
    rw [hg o (by simp)]
    simp only [hb]
    rw [if_neg hne]
    refine gMerge_false (sl' := sl') hne l _ (fun o' ho' => hg o' (by simp [ho'])) (fun o' ho' => hd o' (by simp [ho'])) ?_ ?_
    · cases hdo : o.dst with
      | none => exact hb
      | some d =>
        have : d ≠ t := fun e => hd o (by simp) (by rw [hdo, e])
        simp only [putV, List.getD_eq_getElem?_getD] at hb ⊢
        rw [List.getElem?_set_ne this]; exact hb
    · unfold gMerge at h
      cases hdo : o.dst with
      | none => rw [hdo] at h; simpa [putV] using h
      | some d => rw [hdo] at h; simpa [putV, V.gd] using h

theorem gRun_append (g : Option (Nat × Bool)) : ∀ l : List LOper, gRun g l ++ gRest g l = l
  | [] => rfl
  | o :: r => by
    unfold gRun gRest
    split
    · rw [List.cons_append, gRun_append g r]
    · rfl
theorem gRun_g (g : Option (Nat × Bool)) : ∀ (l : List LOper), ∀ o ∈ gRun g l, o.g = g
  | [], o, h => by cases h
  | o' :: r, o, h => by
    unfold gRun at h
    split at h
    · rename_i e
      rcases List.mem_cons.1 h with rfl | h
      · exact e
      · exact gRun_g g r o h
    · cases h

/-- A run of operations under one guard: walked once, as if the guard held. -/
theorem lops_gd {P : Program} {Q : St → Prop} {s : St} {t : Nat} {want : Bool} {dst : Option Nat} {op : LOp} {r : List LOper} (b : Bool) (hb : s.sl.getD t V.undef = .bool b) (hd : ((gRun (some (t, want)) (⟨dst, some (t, want), op⟩ :: r)).all fun o => decide (o.dst ≠ some t)) = true) (sl' : List V)
    (h1 : b = want → lops P (bare (gRun (some (t, want)) (⟨dst, some (t, want), op⟩ :: r))) (fun s1 => s1 = ⟨sl', s.h, s.nx⟩) s)
    (h2 : lops P (gRest (some (t, want)) (⟨dst, some (t, want), op⟩ :: r)) Q ⟨gMerge (b == want) sl' (gRun (some (t, want)) (⟨dst, some (t, want), op⟩ :: r)) s.sl, s.h, s.nx⟩) :
    lops P (⟨dst, some (t, want), op⟩ :: r) Q s := by
  generalize (⟨dst, some (t, want), op⟩ :: r) = l at *
  rw [← gRun_append (some (t, want)) l]
  have hd' : ∀ o ∈ gRun (some (t, want)) l, o.dst ≠ some t := fun o ho => by simpa using List.all_eq_true.1 hd o ho
  by_cases e : b = want
  · subst e
    have h1' := h1 rfl
    rw [show (b == b) = true by simp] at h2
    have app : ∀ (a : List LOper) (s : St), (∀ o ∈ a, o.g = some (t, b)) → (∀ o ∈ a, o.dst ≠ some t) → s.sl.getD t V.undef = .bool b → lops P (bare a) (fun s1 => lops P (gRest (some (t, b)) l) Q s1) s → lops P (a ++ gRest (some (t, b)) l) Q s := by
      intro a
      induction a with
      | nil => exact fun s _ _ _ h => h
      | cons o a ih =>
        intro s hg hdd hb h
        rw [List.cons_append]
        unfold lops
        rw [hg o (by simp)]
        simp only [hb, if_true]
        have h' : o.op.run P s.sl s.h s.nx fun v h' nx' => lops P (bare a) (fun s1 => lops P (gRest (some (t, b)) l) Q s1) ⟨putV s.sl o.dst v, h', nx'⟩ := h
        refine LOp.run_mono (fun v h' nx' hq => ih _ (fun o' ho' => hg o' (by simp [ho'])) (fun o' ho' => hdd o' (by simp [ho'])) ?_ hq) h'
        cases hdo : o.dst with
        | none => exact hb
        | some d =>
          have : d ≠ t := fun e => hdd o (by simp) (by rw [hdo, e])
          simp only [putV, List.getD_eq_getElem?_getD] at hb ⊢
          rw [List.getElem?_set_ne this]; exact hb
    refine app _ s (gRun_g _ _) hd' hb (lops_mono ?_ _ _ (lops_beside _ _ h1'))
    rintro s1 ⟨rfl, hbs⟩
    have e : gMerge true sl' (gRun (some (t, b)) l) s.sl = sl' := by
      refine gMerge_true _ _ hbs.1 fun t' ht' => hbs.2 t' ?_
      simpa [bare, List.filterMap_map] using ht'
    rw [e] at h2
    exact h2
  · rw [show (b == want) = false by simpa using e] at h2
    exact gMerge_false e _ s (gRun_g _ _) hd' hb h2

/-! ### A box that nobody writes any more -/
theorem freezePtr {K : Ker} {h : Hp} (hr : Rel K h) {n a : Nat} {k : Sh} {es : List V} {i o : Nat} {cv : Value} (hn : h n = some (.arr k es)) (ha : ¬ K.live a) (hv : VR K (.ptr n k i o) cv) :
    ∃ K', K'.w = K.w ∧ K.le K' ∧ (∀ m, K'.live m → K.live m ∨ m = a) ∧ VR K' (.ept k es i o) cv ∧ Rel K' (h.del n) := by
  have hb := hr.blk n _ hn
  cases hb with
  | arr _ _ c T hh hcs himm hfit hcv =>
    cases hv with
    | ptr _ _ _ _ hl =>
      have hblk : K.mu n < K.w.heap.size := by
        rcases Nat.lt_or_ge (K.mu n) K.w.heap.size with hlt | hge
        · exact hlt
        · rw [Array.getElem?_eq_none hge] at hh; exact absurd hh (by simp)
      have hle : K.le (K.claim a (K.mu n) (es.length * k.size)) := K.le_claim ha (by rw [himm]; exact Nat.zero_le _)
      have hmu : (K.claim a (K.mu n) (es.length * k.size)).mu a = K.mu n := by simp [Ker.claim]
      have hrel := hr.claim hn (a := a) (m := es.length * k.size) ha (by rw [himm]; exact Nat.zero_le _) (b1 := .tip) (.tip c T (by rw [hmu]; exact hh) (by simp [Ker.claim]) (by simp only [Ker.claim, if_true]; exact hcs))
      refine ⟨K.claim a (K.mu n) (es.length * k.size), rfl, hle, fun m hm => hm.symm, ?_, hrel.weaken ?_⟩
      · have := VR.ept (K := K.claim a (K.mu n) (es.length * k.size)) k es i o (K.mu n) 0 (fun j => c.getD j Go.undef) hblk hfit
          (fun j hj => by
            show K.w.cell? _ = _
            simp only [World.cell?, hh, Nat.zero_add]
            rw [Array.getD_eq_getD_getElem?, Array.getElem?_eq_getElem (by omega)]
            rfl)
          (fun j hj => .inr (by simp only [Ker.claim, if_true]; omega))
          (fun i hi j hj => (hcv i hi j hj).mono hle)
        simpa using this
      · intro m b e
        unfold Hp.del at e
        split at e
        · cases e
        · rename_i hm
          have hma : m ≠ a := fun e2 => ha (e2 ▸ hr.lt m b e)
          unfold Hp.set Hp.del
          rw [if_neg hma, if_neg hm]; exact e

/-- Looser: nothing is known of a slice's array. -/
def V.loose : V → V
  | .sl k .nil es => .sl k .nil es
  | .sl k _ es => .sl k .free es
  | .agg cs => .agg (cs.map fun c => match c with
    | .sl k .nil es => .sl k .nil es
    | .sl k _ es => .sl k .free es
    | v => v)
  | v => v
theorem VR.loose {K : Ker} {v : V} {cv : Value} (r : VR K v cv) : VR K v.loose cv := by
  have one : ∀ {k : Sh} {own : Own} {es : List V} {cv : Value}, VR K (.sl k own es) cv → VR K (match V.sl k own es with | .sl k .nil es => .sl k .nil es | .sl k _ es => .sl k .free es | v => v) cv := by
    intro k own es cv r
    cases own with
    | nil => exact r
    | full => exact r.free (by simp)
    | tok n => exact r.free (by simp)
    | free => exact r.free (by simp)
  cases v with
  | sl k own es => cases own <;> first | exact r | exact r.free (by simp)
  | agg cs =>
    cases r with
    | agg _ ccs hl hv =>
      refine .agg _ ccs (by simpa using hl) fun i hi => ?_
      have hi' : i < cs.length := by simpa using hi
      have := hv i hi'
      simp only [List.getD_eq_getElem?_getD, List.getElem?_map, List.getElem?_eq_getElem hi', Option.map_some, Option.getD_some] at this ⊢
      generalize cs[i] = c at this ⊢
      cases c <;> first | exact this | exact one this
  | _ => exact r
theorem VRs.loose {K : Ker} {vs : List V} {cvs : Array Value} (r : VRs K vs cvs) (ls : List V) (h : ls.length = vs.length) (hl : ∀ i, i < vs.length → ls.getD i V.undef = vs.getD i V.undef ∨ ls.getD i V.undef = (vs.getD i V.undef).loose) : VRs K ls cvs :=
  ⟨h.trans r.1, fun i hi => (hl i (by omega)).elim (fun e => by rw [e]; exact r.2 i (by omega)) fun e => by rw [e]; exact (r.2 i (by omega)).loose⟩
/-- Each argument as it is, or looser. -/
def Loosed : List V → List V → Prop
  | [], [] => True
  | l :: ls, v :: vs => (l = v ∨ l = v.loose) ∧ Loosed ls vs
  | _, _ => False
theorem Loosed.vrs {K : Ker} {ls vs : List V} {cvs : Array Value} (hl : Loosed ls vs) (r : VRs K vs cvs) : VRs K ls cvs := by
  have h : ∀ (ls vs : List V), Loosed ls vs → ls.length = vs.length ∧ ∀ i, i < vs.length → ls.getD i V.undef = vs.getD i V.undef ∨ ls.getD i V.undef = (vs.getD i V.undef).loose := by
    intro ls
    induction ls with
    | nil => intro vs h; cases vs with
      | nil => exact ⟨rfl, fun i hi => by cases hi⟩
      | cons => exact h.elim
    | cons l ls ih =>
      intro vs h
      cases vs with
      | nil => exact h.elim
      | cons v vs =>
        obtain ⟨h1, h2⟩ := ih vs h.2
        refine ⟨by simp [h1], fun i hi => ?_⟩
        cases i with
        | zero => simpa using h.1
        | succ i => simpa using h2 i (by simpa using hi)
  obtain ⟨a, b⟩ := h ls vs hl
  exact r.loose ls a b
theorem ACalls.loosen {P : Program} {f : FuncId} {ls args : List V} {h : Hp} {nx : Nat} {R : V → Hp → Nat → Prop} (c : ACalls P f ls h nx R) (hl : Loosed ls args) : ACalls P f args h nx R :=
  ⟨c.1, fun K cargs hlv hrel hv => c.2 K cargs hlv hrel (hl.vrs hv)⟩
theorem Pure.loosen {P : Program} {f : FuncId} {ls args : List V} {h : Hp} {v : V} (c : Pure P f ls h v) (hl : Loosed ls args) : Pure P f args h v := fun h' nx hh => (c h' nx hh).loosen hl
theorem Fresh.loosen {P : Program} {f : FuncId} {ls args : List V} {h : Hp} {k : Sh} {es : List V} (c : Fresh P f ls h k es) (hl : Loosed ls args) : Fresh P f args h k es := ⟨c.1, fun h' nx hh => (c.2 h' nx hh).loosen hl⟩

/-- A closure over one box. -/
theorem acalls_closure {P : Program} {f : FuncId} {args : List V} {h : Hp} {nx : Nat} {g : Fn} {v0 : V}
    (c : ACalls P f args h nx fun v h' _ => ∃ n, nx ≤ n ∧ v = .fn g [] [.ptr n .leaf 0 0] ∧ h' = h.set n (.arr .leaf [v0])) :
    ACalls P f args h nx fun v h' _ => v = .fn g [] [.ept .leaf [v0.loose] 0 0] ∧ h' = h := by
  refine ⟨c.1, fun K cargs hl hr hv => (c.2 K cargs hl hr hv).mono ?_⟩
  rintro e w' ⟨K', v, cv, h', nx', rfl, he, hle, hvr, hrel, hlv, hnx, n, hn, rfl, rfl⟩
  have hfr : ¬ K'.live nx' := fun hh => Nat.lt_irrefl _ (hlv nx' hh).1
  have hset : (h.set n (.arr .leaf [v0])) n = some (.arr .leaf [v0]) := by simp [Hp.set]
  cases hvr with
  | fn _ _ _ cf cc h1 h2 v1 v2 =>
  have vp := v2 0 (by simp)
  simp only [List.getD_cons_zero] at vp
  obtain ⟨K'', q1, q2, q3, q4, q5⟩ := freezePtr hrel hset hfr vp
  have hdom : h n = none := by
    cases hd : h n with
    | none => rfl
    | some b => exact absurd (hl n (hr.lt n b hd)) (by omega)
  have hh : (h.set n (.arr .leaf [v0])).del n = h := by
    funext x
    unfold Hp.set Hp.del
    by_cases e2 : x = n
    · subst e2; simp [hdom]
    · simp [e2]
  rw [hh] at q5
  have q4' : VR K'' (.ept .leaf [v0.loose] 0 0) (cc.getD 0 Go.undef) := by
    generalize cc.getD 0 Go.undef = x at q4 ⊢
    cases q4 with
    | ept _ _ _ _ b off f hb hfit hcell hst hvv =>
      have hleaf : v0.leafy = true := by simpa [V.fits] using hfit v0 (by simp)
      have hll : v0.loose.leafy = true := by
        cases v0 <;> first | rfl | (simp [V.leafy] at hleaf) | skip
        rename_i own es
        cases own <;> rfl
      have hc1 : ∀ v : V, v.leafy = true → v.cell 0 = v := fun v hv => by cases v <;> first | rfl | (simp [V.leafy] at hv)
      refine .ept _ _ _ _ b off f hb (by simpa [V.fits] using hll) hcell hst ?_
      intro i hi j hj
      have hi0 : i = 0 := by simpa using hi
      have hj0 : j = 0 := by simpa [Sh.size] using hj
      subst hi0 hj0
      have := hvv 0 (by simp) 0 (by simp [Sh.size])
      simp only [List.getD_cons_zero, hc1 _ hleaf, hc1 _ hll] at this ⊢
      exact this.loose
  refine ⟨K'', _, _, h, nx' + 1, q1, he, hle.trans q2, .fn g [] [.ept .leaf [v0.loose] 0 0] cf cc h1 h2 (fun i hi => absurd hi (by simp)) (fun i hi => ?_), q5, fun m hm => ?_, by omega, rfl, rfl⟩
  · have hi0 : i = 0 := by simpa using hi
    subst hi0
    exact q4'
  · rcases q3 m hm with hm | rfl
    · exact ⟨by have := (hlv m hm).1; omega, (hlv m hm).2⟩
    · exact ⟨by omega, .inr hnx⟩

end Go.Proofs.Ythcedfamidlbdaa
