/-
The abstract layer, twentieth part: how a walk goes: straight operations by evaluation, calls by contracts, loops by a family of states. No conditions.
-/
import Derived.Test.YthcedfamidlbdaaZs
namespace Go.Proofs.Ythcedfamidlbdaa
set_option linter.unusedSimpArgs false
set_option linter.unusedVariables false
set_option linter.unusedSectionVars false
open Go.RowKit

def LOp.isCall : LOp → Bool
  | .call _ _ => true
  | .callv _ _ => true
  | .callw _ _ _ => true
  | _ => false

def LOp.next (dst : Option Nat) (s : St) : LOp → St
  | .val x => ⟨putV s.sl dst (x.out s.sl s.h), s.h, s.nx⟩
  | .box k x => ⟨putV s.sl dst (.ptr s.nx k 0 0), s.h.set s.nx (.arr k [x.ev s.sl]), s.nx + 1⟩
  | .bslice k es => ⟨putV s.sl dst (.sl k (.tok s.nx) (es.map (LArg.ev s.sl))), s.h.set s.nx .tip, s.nx + 1⟩
  | .append k _ x y => match selems s.h (y.ev s.sl) with
    | some (_, ys) => match x.ev s.sl with
      | .sl _ own xs => ⟨putV s.sl dst (.sl k (appOwn s.nx own ys) (xs ++ ys)), appHp s.h s.nx own ys, s.nx + 1⟩
      | .rs n _ _ _ => match s.h n with
        | some (.arr _ es) => ⟨putV s.sl dst (.rs s.nx k 0 (es.length + ys.length)), (s.h.del n).set s.nx (.arr k (es ++ ys)), s.nx + 1⟩
        | _ => s
      | _ => s
    | none => s
  | .store t x v => match x.ev s.sl with
    | .ptr n k i o => match s.h n with
      | some (.arr _ es) => ⟨putV s.sl dst V.undef, s.h.set n (.arr k (es.set i (storePart t o (es.getD i V.undef) (v.ev s.sl)))), s.nx + 1⟩
      | _ => s
    | _ => s
  | .mkz k _ x z => match x.ev s.sl with
    | .int _ m => ⟨putV s.sl dst (.rs s.nx k 0 m.toNat), s.h.set s.nx (.arr k (List.replicate m.toNat z)), s.nx + 1⟩
    | _ => s
  | .appz k _ _ y z => match y.ev s.sl with
    | .int _ m => ⟨putV s.sl dst (.rs s.nx k 0 m.toNat), s.h.set s.nx (.arr k (List.replicate m.toNat z)), s.nx + 1⟩
    | _ => s
  | .clear k x z => match x.ev s.sl with
    | .rs n _ off ln => match s.h n with
      | some (.arr _ es) => ⟨putV s.sl dst V.undef, s.h.set n (.arr k (es.take off ++ List.replicate ln z ++ es.drop (off + ln))), s.nx + 1⟩
      | _ => s
    | _ => ⟨putV s.sl dst V.undef, s.h, s.nx + 1⟩
  | _ => s
def LOp.ok (s : St) : LOp → Prop
  | .val x => x.ok s.sl s.h
  | .box k x => (x.ev s.sl).fits k = true
  | .bslice k es => ∀ e ∈ es, (e.ev s.sl).fits k = true
  | .append k bytes x y => match selems s.h (y.ev s.sl) with
    | some (ky, ys) => ky = k ∧ match x.ev s.sl with
      | .sl kx own xs => kx = k ∧ (xs.length + ys.length) * bytes ≤ 140737488355328 ∧ appOK s.h own
      | .rs n kx off len => match s.h n with
        | some (.arr kb es) => kx = k ∧ kb = k ∧ off = 0 ∧ len = es.length ∧ ys ≠ [] ∧ (es.length + ys.length) * bytes ≤ 140737488355328
        | _ => False
      | _ => False
    | none => False
  | .store t x v => match x.ev s.sl with
    | .ptr n k i o => match s.h n with
      | some (.arr k' es) => k' = k ∧ i < es.length ∧ partOK k t o ∧ (v.ev s.sl).fits t = true
      | _ => False
    | _ => False
  | .mkz _ bytes x _ => match x.ev s.sl with
    | .int _ m => 0 ≤ m ∧ m.toNat * bytes ≤ 140737488355328
    | _ => False
  | .appz k bytes x y _ => match x.ev s.sl, y.ev s.sl with
    | .sl k' .nil [], .int _ m => k' = k ∧ 0 < m ∧ m.toNat * bytes ≤ 140737488355328
    | _, _ => False
  | .clear k x _ => match x.ev s.sl with
    | .rs n k' off ln => match s.h n with
      | some (.arr kb es) => k' = k ∧ kb = k ∧ off + ln ≤ es.length
      | _ => False
    | .sl _ _ [] => True
    | _ => False
  | _ => False
def LOper.next (o : LOper) (s : St) : St :=
  match o.g with
  | none => o.op.next o.dst s
  | some (t, want) => match s.sl.getD t V.undef with
    | .bool b => if b = want then o.op.next o.dst s else ⟨putV s.sl o.dst V.undef, s.h, s.nx⟩
    | _ => ⟨putV s.sl o.dst V.undef, s.h, s.nx⟩
def LOper.ok (o : LOper) (s : St) : Prop :=
  match o.g with
  | none => o.op.ok s
  | some (t, want) => match s.sl.getD t V.undef with
    | .bool b => b = want → o.op.ok s
    | .tup _ => True
    | _ => False
def nextAll : List LOper → St → St
  | [], s => s
  | o :: r, s => nextAll r (o.next s)
def okAll : List LOper → St → Prop
  | [], _ => True
  | o :: r, s => o.ok s ∧ okAll r (o.next s)

theorem lops_next {P : Program} {o : LOper} {r : List LOper} {Q : St → Prop} {s : St} (hc : o.op.isCall = false) (ho : o.ok s) (h : lops P r Q (o.next s)) : lops P (o :: r) Q s := by
  have go : o.op.ok s → lops P r Q (o.op.next o.dst s) → o.op.run P s.sl s.h s.nx fun v h' nx' => lops P r Q ⟨putV s.sl o.dst v, h', nx'⟩ := by
    intro ho h
    generalize o.op = op at hc ho h ⊢
    cases op with
    | val x => exact LVal.sem_of_ok (R := fun v => lops P r Q ⟨putV s.sl o.dst v, s.h, s.nx⟩) ho h
    | box k x => exact ⟨ho, h⟩
    | bslice k es => exact ⟨ho, .inl h⟩
    | mkz k b x z =>
      simp only [LOp.ok, LOp.next, LOp.run, LOp.sem] at ho h ⊢
      generalize x.ev s.sl = v at ho h ⊢
      cases v <;> first | exact ho.elim | exact ⟨ho.1, ho.2, .inl h⟩
    | appz k b x y z =>
      simp only [LOp.ok, LOp.next, LOp.run, LOp.sem] at ho h ⊢
      generalize x.ev s.sl = v at ho h ⊢
      generalize y.ev s.sl = u at ho h ⊢
      split at ho
      · exact ⟨ho.1, ho.2.1, ho.2.2, h⟩
      · exact ho.elim
    | clear k x z =>
      simp only [LOp.ok, LOp.next, LOp.run, LOp.sem] at ho h ⊢
      generalize x.ev s.sl = v at ho h ⊢
      split at ho
      · rename_i n k' off ln
        simp only at h ⊢
        cases hn : s.h n with
        | none => rw [hn] at ho; exact ho.elim
        | some b => cases b with
          | tip => rw [hn] at ho; exact ho.elim
          | obj o _ => rw [hn] at ho; exact ho.elim
          | arr k' es => rw [hn] at ho h; exact ⟨ho.1, ho.2.1, ho.2.2, h⟩
      · exact h
      · exact ho.elim
    | callw f a b => simp [LOp.isCall] at hc
    | append k b x y =>
      simp only [LOp.ok, LOp.next, LOp.run, LOp.sem] at ho h ⊢
      generalize x.ev s.sl = v at ho h ⊢
      generalize selems s.h (y.ev s.sl) = u at ho h ⊢
      cases u with
      | none => exact ho.elim
      | some u =>
        obtain ⟨ky, ys⟩ := u
        refine ⟨ho.1, ?_⟩
        replace ho := ho.2
        cases v <;> try (exact ho.elim)
        · exact ⟨ho.1, ho.2.1, .inl ⟨ho.2.2, h⟩⟩
        · rename_i n kx off len
          simp only at ho h ⊢
          cases hn : s.h n with
          | none => rw [hn] at ho; exact ho.elim
          | some b => cases b with
            | tip => rw [hn] at ho; exact ho.elim
            | obj o _ => rw [hn] at ho; exact ho.elim
            | arr k' es =>
              rw [hn] at ho h
              obtain ⟨o1, o2, o3, o4, o5, o6⟩ := ho
              subst o4
              refine ⟨o1, .inr ⟨o2, o3, Nat.le_refl _, o5, o6, ?_⟩⟩
              simp only [List.take_length]
              exact h
    | store t x v =>
      simp only [LOp.ok, LOp.next, LOp.run, LOp.sem] at ho h ⊢
      generalize x.ev s.sl = u at ho h ⊢
      cases u <;> try (exact ho.elim)
      rename_i n k i o'
      simp only at ho h ⊢
      cases hn : s.h n with
      | none => rw [hn] at ho; exact ho.elim
      | some b => cases b with
        | tip => rw [hn] at ho; exact ho.elim
        | obj o _ => rw [hn] at ho; exact ho.elim
        | arr k' es => rw [hn] at ho h; exact ⟨ho.1, ho.2.1, ho.2.2.1, ho.2.2.2, h⟩
    | call f a => simp [LOp.isCall] at hc
    | callv x a => simp [LOp.isCall] at hc
  unfold lops
  unfold LOper.ok at ho
  unfold LOper.next at h
  cases hg : o.g with
  | none => rw [hg] at ho h; exact go ho h
  | some p =>
    obtain ⟨t, want⟩ := p
    rw [hg] at ho h
    simp only at ho h ⊢
    cases hv : s.sl.getD t V.undef <;> rw [hv] at ho h <;> simp only at ho h ⊢ <;> first
      | exact ho.elim
      | exact h
      | (split at h
         · rename_i e; rw [if_pos e]; exact go (ho e) h
         · rename_i e; rw [if_neg e]; exact h)

def preOps : List LOper → List LOper
  | [] => []
  | o :: r => if o.op.isCall = true then [] else o :: preOps r
def postOps : List LOper → List LOper
  | [] => []
  | o :: r => if o.op.isCall = true then o :: r else postOps r
theorem lops_pre {P : Program} {Q : St → Prop} : ∀ (l : List LOper) (s : St), okAll (preOps l) s → lops P (postOps l) Q (nextAll (preOps l) s) → lops P l Q s
  | [], s, _, h => h
  | o :: r, s, ho, h => by
    by_cases hc : o.op.isCall = true
    · simp only [preOps, postOps, hc, if_true] at ho h; exact h
    · simp only [preOps, postOps, hc] at ho h
      exact lops_next (by simpa using hc) ho.1 (lops_pre r _ ho.2 h)

/-- All of them straight. -/
theorem lops_all {P : Program} {Q : St → Prop} (l : List LOper) (hl : l.all (fun o => !o.op.isCall) = true) (s : St) (ho : okAll l s) (h : Q (nextAll l s)) : lops P l Q s := by
  have e1 : ∀ l : List LOper, l.all (fun o => !o.op.isCall) = true → preOps l = l ∧ postOps l = [] := by
    intro l
    induction l with
    | nil => intro _; exact ⟨rfl, rfl⟩
    | cons o r ih =>
      intro h
      simp only [List.all_cons, Bool.and_eq_true, Bool.not_eq_true'] at h
      obtain ⟨q1, q2⟩ := ih h.2
      constructor
      · simp only [preOps, h.1, q1]; rfl
      · simp only [postOps, h.1, q2]; rfl
  obtain ⟨q1, q2⟩ := e1 l hl
  refine lops_pre l s (by rw [q1]; exact ho) ?_
  rw [q1, q2]
  exact h


end Go.Proofs.Ythcedfamidlbdaa
