/-
The antichain of times: plain laws. No program in sight. No conditions.
-/
import Derived.Test.YthcedfamidlbdaaP21
namespace Go.Proofs.Ythcedfamidlbdaa
set_option linter.unusedSimpArgs false
set_option linter.unusedVariables false
set_option linter.unusedSectionVars false
open Go.RowKit

theorem ofT_strict (l : List Tm) : Strict (ofT l) := by rw [ofT_eq]; exact (refTo_inv l l.length).1
theorem ofT_mem (l : List Tm) (x : Tm) : x ∈ ofT l ↔ Least1 l x := by rw [ofT_eq]; exact refTo_least l x
theorem Tm.le_antisymm {a b : Tm} (h1 : a.le b = true) (h2 : b.le a = true) : a = b := by
  cases a; cases b
  simp [Tm.le] at *
  omega
theorem least_below (l : List Tm) : ∀ (n : Nat) (y : Tm), (y.e + y.r).toNat ≤ n → y ∈ l → y.ok = true → ∃ z, Least1 l z ∧ z.le y = true
  | n, y, hn, hy, ho => by
    by_cases h : ∃ y', y' ∈ l ∧ y'.ok = true ∧ y'.le y = true ∧ y' ≠ y
    · obtain ⟨y', h1, h2, h3, h4⟩ := h
      have hlt : (y'.e + y'.r).toNat < (y.e + y.r).toNat := by
        have e1 : ¬ (y'.e = y.e ∧ y'.r = y.r) := fun e => h4 (by cases y; cases y'; simp at e; simp [e])
        simp [Tm.le, Tm.ok] at h2 h3 ho
        omega
      cases n with
      | zero => omega
      | succ n =>
        obtain ⟨z, q1, q2⟩ := least_below l n y' (by omega) h1 h2
        exact ⟨z, q1, Tm.le_trans q2 h3⟩
    · exact ⟨y, ⟨hy, ho, fun y' h1 h2 h3 => Decidable.byContradiction fun h4 => h ⟨y', h1, h2, h3, h4⟩⟩, Tm.le_refl y⟩
theorem ofT_below {l : List Tm} {y : Tm} (hy : y ∈ l) (ho : y.ok = true) : ∃ z ∈ ofT l, z.le y = true := by
  obtain ⟨z, h1, h2⟩ := least_below l _ y (Nat.le_refl _) hy ho
  exact ⟨z, (ofT_mem l z).2 h1, h2⟩
theorem ofT_ok {l : List Tm} {x : Tm} (h : x ∈ ofT l) : x.ok = true ∧ x ∈ l := ⟨((ofT_mem l x).1 h).2.1, ((ofT_mem l x).1 h).1⟩
theorem ofT_congr {a b : List Tm} (h : ∀ x : Tm, x.ok = true → (x ∈ a ↔ x ∈ b)) : ofT a = ofT b := by
  refine strict_unique (ofT_strict a) (ofT_strict b) fun x => ?_
  rw [ofT_mem, ofT_mem]
  constructor
  · rintro ⟨h1, h2, h3⟩; exact ⟨(h x h2).1 h1, h2, fun y hy ho => h3 y ((h y ho).2 hy) ho⟩
  · rintro ⟨h1, h2, h3⟩; exact ⟨(h x h2).2 h1, h2, fun y hy ho => h3 y ((h y ho).1 hy) ho⟩
theorem ofT_reverse (l : List Tm) : ofT l.reverse = ofT l := ofT_congr fun x _ => List.mem_reverse
theorem ofT_idem (l : List Tm) : ofT (ofT l) = ofT l := by
  refine strict_unique (ofT_strict _) (ofT_strict l) fun x => ?_
  rw [ofT_mem]
  constructor
  · exact fun h => h.1
  · intro h
    refine ⟨h, (ofT_ok h).1, fun y hy ho hle => ((ofT_mem l x).1 h).2.2 y (ofT_ok hy).2 ho hle⟩
/-- What the antichain reaches is what its right times reach. -/
theorem ofT_reach (l : List Tm) (t : Tm) : ((ofT l).any fun x => x.le t) = (l.filter Tm.ok).any fun x => x.le t := by
  rw [Bool.eq_iff_iff, List.any_eq_true, List.any_eq_true]
  constructor
  · rintro ⟨x, hx, hle⟩
    exact ⟨x, List.mem_filter.2 ⟨(ofT_ok hx).2, (ofT_ok hx).1⟩, hle⟩
  · rintro ⟨x, hx, hle⟩
    obtain ⟨h1, h2⟩ := List.mem_filter.1 hx
    obtain ⟨z, hz, hzx⟩ := ofT_below h1 h2
    exact ⟨z, hz, Tm.le_trans hzx hle⟩
/-- Does a reach all of b? -/
def atM (a b : List Tm) : Bool := !(b.any fun x => !(a.any fun y => y.le x))
theorem atM_iff {a b : List Tm} : atM a b = true ↔ ∀ x ∈ b, ∃ y ∈ a, y.le x = true := by
  simp [atM]
theorem atM_self (a : List Tm) : atM a a = true := atM_iff.2 fun x hx => ⟨x, hx, Tm.le_refl x⟩
theorem atM_join (a b : List Tm) : atM (ofT (ofT a ++ ofT b)) (ofT a) = true := atM_iff.2 fun x hx => ofT_below (List.mem_append.2 (.inl hx)) (ofT_ok hx).1
theorem atM_reach {a b : List Tm} (h : atM a b = true) {t : Tm} (hb : (b.any fun x => x.le t) = true) : (a.any fun x => x.le t) = true := by
  obtain ⟨x, hx, hle⟩ := List.any_eq_true.1 hb
  obtain ⟨y, hy, hyx⟩ := atM_iff.1 h x hx
  exact List.any_eq_true.2 ⟨y, hy, Tm.le_trans hyx hle⟩
theorem atM_antisymm {a b : List Tm} (h1 : atM (ofT a) (ofT b) = true) (h2 : atM (ofT b) (ofT a) = true) : ofT a = ofT b := by
  have one : ∀ {a b : List Tm}, atM (ofT a) (ofT b) = true → atM (ofT b) (ofT a) = true → ∀ x ∈ ofT a, x ∈ ofT b := by
    intro a b h1 h2 x hx
    obtain ⟨y, hy, hyx⟩ := atM_iff.1 h2 x hx
    obtain ⟨z, hz, hzy⟩ := atM_iff.1 h1 y hy
    have e := ((ofT_mem a x).1 hx).2.2 z (ofT_ok hz).2 (ofT_ok hz).1 (Tm.le_trans hzy hyx)
    subst e
    rw [Tm.le_antisymm hzy hyx]
    exact hy
  exact strict_unique (ofT_strict a) (ofT_strict b) fun x => ⟨one h1 h2 x, one h2 h1 x⟩
end Go.Proofs.Ythcedfamidlbdaa
