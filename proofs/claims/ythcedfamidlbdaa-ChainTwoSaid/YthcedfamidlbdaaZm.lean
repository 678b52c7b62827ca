/-
The abstract layer, thirteenth part: code, lowered, without regions that draw their order; functions. No program in sight. No conditions.
-/
import Derived.Test.YthcedfamidlbdaaZl
import Derived.Scope
namespace Go.Proofs.Ythcedfamidlbdaa
set_option linter.unusedSimpArgs false
set_option linter.unusedVariables false
set_option linter.unusedSectionVars false
open Go.RowKit

inductive LExit where
  | normal | exit (id : Nat) | ret
  deriving Inhabited

inductive LCode where
  | skip
  | ops (l : List LOper)
  | draw (n : Nat) (hd : List (LOper × List Nat)) (tl : List LOper)
  | seq (a b : LCode)
  | cond (c : LArg) (a b : LCode)
  | block (id : Nat) (c : LCode)
  | loop (c : LCode)
  | exit (id : Nat)
  | ret
  | range (g : LArg) (ps : List Nat) (as body : LCode)
  deriving Inhabited

/-- The marks of ranges over functions, as an activation bears them: blocks of its own, in which no call is gathered. -/
def Marks (B : Nat) (w : World) (ds : List Deferred) : Prop :=
  ∃ Ds : List Nat, Ds.Nodup ∧ ds = Ds.map (fun D => { target := .collected D, args := #[] }) ∧ ∀ D ∈ Ds, B ≤ D ∧ markAt w D
theorem markAt.lt {w : World} {D : Nat} (h : markAt w D) : D < w.heap.size := by
  rcases Nat.lt_or_ge D w.heap.size with hlt | hge
  · exact hlt
  · unfold markAt at h; rw [Array.getElem?_eq_none hge] at h; cases h
theorem markAt.kept {F : Nat → Prop} {w w' : World} (k : Kept F w w') {D : Nat} (h : markAt w D) : markAt w' D := (k.block D h.lt (.inr h)).trans h
theorem Marks.nil (B : Nat) (w : World) : Marks B w [] := ⟨[], .nil, rfl, fun _ h => by cases h⟩
theorem Marks.kept {F : Nat → Prop} {B : Nat} {w w' : World} {ds : List Deferred} (h : Marks B w ds) (k : Kept F w w') : Marks B w' ds := by
  obtain ⟨Ds, h1, h2, h3⟩ := h
  exact ⟨Ds, h1, h2, fun D hD => ⟨(h3 D hD).1, (h3 D hD).2.kept k⟩⟩

/-- What stands between an abstract state and the machine's. -/
structure RelS (K0 K : Ker) (nx0 : Nat) (s : St) (a : Act) : Prop where
  le : K0.le K
  slots : Slots K s.sl a
  rel : Rel K s.h
  live : ∀ n, K.live n → n < s.nx ∧ (K0.live n ∨ nx0 ≤ n)
  nx : nx0 ≤ s.nx
  defers : Marks K0.w.heap.size K.w a.defers

def LExit.up : LExit → Exit
  | .normal => .normal
  | .exit id => .exit id
  | .ret => .ret

/-- A statement on abstract states, as one on the machine's. -/
def Conc (K0 : Ker) (nx0 : Nat) (Q : LExit → St → Prop) : Exit → Act → World → Prop :=
  fun e a w => ∃ K s le, K.w = w ∧ RelS K0 K nx0 s a ∧ e = LExit.up le ∧ Q le s

theorem Slots.put {K : Ker} {sl : List V} {a : Act} (hs : Slots K sl a) {v : V} {cv : Value} (hv : VR K v cv) (dst : Option Nat) : Slots K (putV sl dst v) (a.put dst cv) := by
  cases dst with
  | none => exact hs
  | some d =>
    refine ⟨by simp [putV, Act.put, hs.1], fun t => ?_⟩
    have h := hs.2 t
    simp only [putV, Act.put, List.getD_eq_getElem?_getD, Array.getD_eq_getD_getElem?] at h ⊢
    by_cases e : d = t
    · subst e
      by_cases hd : d < sl.length
      · rw [List.getElem?_set_self hd, Array.getElem?_setIfInBounds_self]
        have : d < a.tmps.size := by rw [← hs.1]; exact hd
        simp [this]
        exact hv
      · rw [List.getElem?_eq_none (by simp; omega), Array.getElem?_eq_none (by simp; have := hs.1; omega)]
        exact .undef K
    · rw [List.getElem?_set_ne e, Array.getElem?_setIfInBounds_ne e]
      exact h

def guardSlot (ops : Array Oper) (o : Oper) : Option (Option (Nat × Bool)) :=
  match o.guard with
  | none => some none
  | some (j, want) => match (ops[j]?).bind (·.dst) with
    | some t => some (some (t, want))
    | none => none
def lowerOper (P : Program) (ops : Array Oper) (o : Oper) : Option LOper :=
  (guardSlot ops o).bind fun g => (lowerOp P o).map fun l => { dst := o.dst, g := g, op := l }
def lowerOpers (P : Program) (ops : Array Oper) : List Oper → Option (List LOper)
  | [] => some []
  | o :: r => (lowerOper P ops o).bind fun l => (lowerOpers P ops r).map (l :: ·)

/-- One operation, with its guard. -/
theorem oper_sound {P : Program} {ops : Array Oper} {i : Nat} {o : Oper} (ho : ops[i]? = some o) {lo : LOper} (hl : lowerOper P ops o = some lo) {K0 K : Ker} {nx0 : Nat} {s : St} {a : Act} (hr : RelS K0 K nx0 s a) {Kn : Act → World → Prop} {Q : Exit → Act → World → Prop} (Qn : St → Prop)
    (hK : ∀ K' s' a', RelS K0 K' nx0 s' a' → Qn s' → Kn a' K'.w)
    (hsem : match lo.g with
      | none => lo.op.run P s.sl s.h s.nx fun v h' nx' => Qn ⟨putV s.sl lo.dst v, h', nx'⟩
      | some (t, want) => match s.sl.getD t V.undef with
        | .bool b => if b = want then lo.op.run P s.sl s.h s.nx fun v h' nx' => Qn ⟨putV s.sl lo.dst v, h', nx'⟩ else Qn ⟨putV s.sl lo.dst V.undef, s.h, s.nx⟩
        | .tup _ => Qn ⟨putV s.sl lo.dst V.undef, s.h, s.nx⟩
        | _ => False) {rd : Option Nat} {m : Nat} : wpOpIn (FR rd) m P ops Q i Kn a K.w := by
  obtain ⟨g, hg, hl⟩ := Option.bind_eq_some_iff.1 hl
  obtain ⟨l, hlo, rfl⟩ := Option.map_eq_some_iff.1 hl
  have go : l.run P s.sl s.h s.nx (fun v h' nx' => Qn ⟨putV s.sl o.dst v, h', nx'⟩) → o.wpIn (FR rd) m P a K.w Kn Q := by
    intro h
    refine lop_sound hlo hr.slots.2 hr.rel (fun n hn => (hr.live n hn).1) h rd m Kn Q ?_
    intro K' v cv h' nx' hle hv hrel hlv hnx hR
    refine hK K' ⟨putV s.sl o.dst v, h', nx'⟩ (a.put o.dst cv) ⟨hr.le.trans hle, (hr.slots.mono hle).put hv _, hrel, ?_, Nat.le_trans hr.nx hnx, ?_⟩ hR
    · intro n hn
      obtain ⟨h1, h2⟩ := hlv n hn
      refine ⟨h1, ?_⟩
      rcases h2 with h2 | h2
      · exact (hr.live n h2).2
      · exact .inr (Nat.le_trans hr.nx h2)
    · have hp : (a.put o.dst cv).defers = a.defers := by cases hd : o.dst <;> simp [Act.put]
      show Marks _ _ (a.put o.dst cv).defers
      rw [hp]; exact hr.defers.kept hle.below
  have skip : Qn ⟨putV s.sl o.dst V.undef, s.h, s.nx⟩ → Kn (a.put o.dst Go.undef) K.w := by
    intro h
    refine hK K ⟨putV s.sl o.dst V.undef, s.h, s.nx⟩ (a.put o.dst Go.undef) ⟨hr.le, hr.slots.put (.undef K) _, hr.rel, hr.live, hr.nx, ?_⟩ h
    have hp : (a.put o.dst Go.undef).defers = a.defers := by cases hd : o.dst <;> simp [Act.put]
    show Marks _ _ (a.put o.dst Go.undef).defers
    rw [hp]; exact hr.defers
  unfold wpOpIn
  simp only [ho]
  unfold guardSlot at hg
  cases hgd : o.guard with
  | none =>
    rw [hgd] at hg
    injection hg with hg
    subst hg
    rw [if_pos (by simp [Region.wanted, hgd])]
    exact (go hsem)
  | some p =>
    obtain ⟨j, want⟩ := p
    rw [hgd] at hg
    simp only at hg
    cases ht : (ops[j]?).bind (·.dst) with
    | none => simp [ht] at hg
    | some t =>
      rw [ht] at hg
      injection hg with hg
      subst hg
      simp only at hsem
      have hvr := hr.slots.2 t
      have hy : yielded ops a.tmps j = match a.tmps.getD t Go.undef with | .bool b => some b | _ => none := by
        unfold yielded
        rw [ht]
        simp only [Option.bind_some, Array.getD_eq_getD_getElem?]
        cases a.tmps[t]? with
        | none => rfl
        | some x => cases x <;> rfl
      by_cases hw : Region.wanted o (yielded ops a.tmps) = true
      · rw [if_pos hw]
        simp only [Region.wanted, hgd, hy] at hw
        split at hsem
        · rename_i b hb
          rw [hb] at hvr
          generalize a.tmps.getD t Go.undef = cv at hvr hw
          cases hvr
          simp at hw
          rw [if_pos hw] at hsem
          exact (go hsem)
        · rename_i vs hb
          exfalso
          rw [hb] at hvr
          generalize a.tmps.getD t Go.undef = cv at hvr hw
          cases hvr
          simp at hw
        · exact hsem.elim
      · rw [if_neg hw]
        simp only [Region.wanted, hgd, hy] at hw
        split at hsem
        · rename_i b hb
          rw [hb] at hvr
          generalize a.tmps.getD t Go.undef = cv at hvr hw
          cases hvr
          simp at hw
          rw [if_neg (by simpa using hw)] at hsem
          exact ⟨fun _ _ => trivial, skip hsem⟩
        · exact ⟨fun _ _ => trivial, skip hsem⟩
        · exact hsem.elim

/-- A list of operations, one behind the other. -/
theorem lops_sound {P : Program} {ops : Array Oper} {K0 : Ker} {nx0 : Nat} {Q : Exit → Act → World → Prop} {Qs : St → Prop} (hQ : ∀ K s a, RelS K0 K nx0 s a → Qs s → Q .normal a K.w) {rd : Option Nat} {m : Nat} :
    ∀ (l : List Oper) (ls : List LOper) (is : List Nat), lowerOpers P ops l = some ls → is.map (ops[·]?) = l.map some → ∀ (K : Ker) (s : St) (a : Act), RelS K0 K nx0 s a → lops P ls Qs s → wpOpsIn (FR rd) m P ops Q is a K.w
  | [], ls, is, hl, hi, K, s, a, hr, h => by
    simp [lowerOpers] at hl
    subst hl
    have : is = [] := by simpa using hi
    subst this
    exact hQ K s a hr h
  | o :: l, ls, is, hl, hi, K, s, a, hr, h => by
    unfold lowerOpers at hl
    obtain ⟨lo, h1, hl⟩ := Option.bind_eq_some_iff.1 hl
    obtain ⟨lr, h2, rfl⟩ := Option.map_eq_some_iff.1 hl
    cases is with
    | nil => simp at hi
    | cons i is =>
      simp only [List.map_cons, List.cons.injEq] at hi
      rw [wpOpsIn_cons]
      refine oper_sound hi.1 h1 hr (lops P lr Qs) (fun K' s' a' hr' hq => lops_sound hQ l lr is h2 hi.2 K' s' a' hr' hq) ?_
      unfold lops at h
      exact h

end Go.Proofs.Ythcedfamidlbdaa
