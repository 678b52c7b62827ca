/-
Plain law: the two ways to make an antichain of times give one list. No program in sight. No conditions.
-/
import Derived.Test.YthcedfamidlbdaaC21
namespace Go.Proofs.Ythcedfamidlbdaa
set_option linter.unusedSimpArgs false
set_option linter.unusedVariables false
set_option linter.unusedSectionVars false
open Go.RowKit Go.Sort

theorem Tm.less_irrefl (a : Tm) : a.less a = false := by simp [Tm.less]
theorem Tm.less_tri (a b : Tm) (h1 : a.less b = false) (h2 : b.less a = false) : a = b := by
  cases a; cases b
  simp [Tm.less] at *
  omega
theorem Tm.less_trans {a b c : Tm} (h1 : a.less b = true) (h2 : b.less c = true) : a.less c = true := by
  simp [Tm.less] at *
  omega
theorem Tm.le_lex {a b : Tm} (h : a.le b = true) : b.less a = false := by
  simp [Tm.less, Tm.le] at *
  omega
theorem Tm.le_refl (a : Tm) : a.le a = true := by simp [Tm.le]
theorem Tm.le_trans {a b c : Tm} (h1 : a.le b = true) (h2 : b.le c = true) : a.le c = true := by
  simp [Tm.le] at *
  omega
/-- The least ones of the right ones. -/
def Least1 (l : List Tm) (x : Tm) : Prop := x ∈ l ∧ x.ok = true ∧ ∀ y ∈ l, y.ok = true → y.le x = true → y = x
def Strict (l : List Tm) : Prop := l.Pairwise fun a b => a.less b = true
theorem strict_unique {a b : List Tm} (ha : Strict a) (hb : Strict b) (h : ∀ x, x ∈ a ↔ x ∈ b) : a = b := by
  have nd : ∀ {l : List Tm}, Strict l → l.Nodup := fun hl => hl.imp (fun {x y} hxy e => by subst e; rw [Tm.less_irrefl] at hxy; cases hxy)
  refine List.Perm.eq_of_pairwise (le := fun (u v : Tm) => u.less v = true) (fun x y _ _ h1 h2 => ?_) ha hb ((List.perm_ext_iff_of_nodup (nd ha) (nd hb)).2 h)
  have := Tm.less_trans h1 h2
  rw [Tm.less_irrefl] at this; cases this

theorem ofGo_inv : ∀ (rest pre out : List Tm), (∀ x ∈ pre, ∀ y ∈ rest, y.less x = false) → rest.Pairwise (fun x y => y.less x = false) → Strict out → (∀ x, x ∈ out ↔ Least1 pre x) → (∀ y ∈ pre, y.ok = true → ∃ z ∈ out, z.le y = true) →
    Strict (ofGo out rest) ∧ ∀ x, x ∈ ofGo out rest ↔ Least1 (pre ++ rest) x
  | [], pre, out, _, _, hs, hm, _ => by simpa [ofGo] using ⟨hs, hm⟩
  | t :: rest, pre, out, h1, h2, hs, hm, hc => by
    have h2' := List.pairwise_cons.1 h2
    have low : ∀ x ∈ pre, t.le x = true → t = x := fun x hx hle => (Tm.less_tri _ _ (h1 x hx t (by simp)) (Tm.le_lex hle))
    have key : ∀ out', Strict out' → (∀ x, x ∈ out' ↔ Least1 (pre ++ [t]) x) → (∀ y ∈ pre ++ [t], y.ok = true → ∃ z ∈ out', z.le y = true) → Strict (ofGo out' rest) ∧ ∀ x, x ∈ ofGo out' rest ↔ Least1 (pre ++ t :: rest) x := by
      intro out' q1 q2 q3
      have := ofGo_inv rest (pre ++ [t]) out' (fun x hx y hy => by
        rcases List.mem_append.1 hx with hx | hx
        · exact h1 x hx y (by simp [hy])
        · have : x = t := by simpa using hx
          subst this
          exact h2'.1 y hy) h2'.2 q1 q2 q3
      simpa using this
    unfold ofGo
    split
    · rename_i hk
      simp only [Bool.and_eq_true, Bool.not_eq_true', List.any_eq_false] at hk
      obtain ⟨hok, hno⟩ := hk
      have hno' : ∀ x ∈ out, x.le t = false := fun x hx => by simpa using hno x hx
      refine key _ ?_ ?_ ?_
      · refine List.pairwise_append.2 ⟨hs, by simp, fun x hx y hy => ?_⟩
        have : y = t := by simpa using hy
        subst this
        have hxp := ((hm x).1 hx).1
        cases hl : x.less y with
        | true => rfl
        | false =>
          have := Tm.less_tri _ _ hl (h1 x hxp y (by simp))
          subst this
          have := hno' x hx
          rw [Tm.le_refl] at this; cases this
      · intro x
        simp only [List.mem_append, List.mem_singleton]
        constructor
        · rintro (hx | rfl)
          · obtain ⟨a, b, c⟩ := (hm x).1 hx
            refine ⟨by simp [a], b, fun y hy hyo hyl => ?_⟩
            rcases List.mem_append.1 hy with hy | hy
            · exact c y hy hyo hyl
            · have : y = t := by simpa using hy
              subst this
              exact low x a hyl
          · refine ⟨by simp, hok, fun y hy hyo hyl => ?_⟩
            rcases List.mem_append.1 hy with hy | hy
            · obtain ⟨z, hz, hzl⟩ := hc y hy hyo
              have := hno' z hz
              rw [Tm.le_trans hzl hyl] at this; cases this
            · simpa using hy
        · rintro ⟨a, b, c⟩
          rcases List.mem_append.1 a with hx | hx
          · exact .inl ((hm x).2 ⟨hx, b, fun y hy => c y (by simp [hy])⟩)
          · exact .inr (by simpa using hx)
      · intro y hy hyo
        rcases List.mem_append.1 hy with hy | hy
        · obtain ⟨z, hz, hzl⟩ := hc y hy hyo
          exact ⟨z, by simp [hz], hzl⟩
        · have : y = t := by simpa using hy
          subst this
          exact ⟨y, by simp, Tm.le_refl _⟩
    · rename_i hk
      have hk' : t.ok = true → ∃ z ∈ out, z.le t = true := fun hok => by
        simp only [hok, Bool.true_and, Bool.not_eq_true', Bool.not_eq_false] at hk
        obtain ⟨z, hz, hzl⟩ := List.any_eq_true.1 hk
        exact ⟨z, hz, hzl⟩
      refine key _ hs ?_ ?_
      · intro x
        constructor
        · intro hx
          obtain ⟨a, b, c⟩ := (hm x).1 hx
          refine ⟨by simp [a], b, fun y hy hyo hyl => ?_⟩
          rcases List.mem_append.1 hy with hy | hy
          · exact c y hy hyo hyl
          · have : y = t := by simpa using hy
            subst this
            exact low x a hyl
        · rintro ⟨a, b, c⟩
          rcases List.mem_append.1 a with hx | hx
          · exact (hm x).2 ⟨hx, b, fun y hy => c y (by simp [hy])⟩
          · have : x = t := by simpa using hx
            subst this
            obtain ⟨z, hz, hzl⟩ := hk' b
            have hz' := (hm z).1 hz
            have := c z (by simp [hz'.1]) hz'.2.1 hzl
            rwa [this] at hz
      · intro y hy hyo
        rcases List.mem_append.1 hy with hy | hy
        · exact hc y hy hyo
        · have : y = t := by simpa using hy
          subst this
          exact hk' hyo

/-- The document's way: each one that no other one is at most, at its place. -/
def keepR (l : List Tm) (i : Nat) (t : Tm) : Bool := t.ok && !((List.range l.length).any fun k => match l[k]? with | some y => y.ok && y.le t && (decide (y ≠ t) || decide (k < i)) | none => false)
def insT (out : List Tm) (t : Tm) : List Tm := out.takeWhile (·.less t) ++ t :: out.dropWhile (·.less t)
def refTo (l : List Tm) : Nat → List Tm
  | 0 => []
  | i + 1 => match l[i]? with
    | some t => if keepR l i t = true then insT (refTo l i) t else refTo l i
    | none => refTo l i
theorem insT_mem (out : List Tm) (t x : Tm) : x ∈ insT out t ↔ x = t ∨ x ∈ out := by
  unfold insT
  conv => rhs; rw [← List.takeWhile_append_dropWhile (p := fun x : Tm => x.less t) (l := out)]
  simp only [List.mem_append, List.mem_cons]
  constructor
  · rintro (h | h | h) <;> simp [h]
  · rintro (h | h | h) <;> simp [h]
theorem insT_strict {out : List Tm} {t : Tm} (hs : Strict out) (hn : t ∉ out) : Strict (insT out t) := by
  induction out with
  | nil => simp [insT, Strict]
  | cons a out ih =>
    have hs' := List.pairwise_cons.1 hs
    have hn' : t ≠ a ∧ t ∉ out := by simpa using hn
    unfold insT
    cases ha : a.less t with
    | true =>
      have := ih hs'.2 hn'.2
      simp only [List.takeWhile_cons, List.dropWhile_cons, ha, if_true, List.cons_append]
      refine List.pairwise_cons.2 ⟨fun y hy => ?_, this⟩
      have hy' : y ∈ insT out t := hy
      rcases (insT_mem out t y).1 hy' with rfl | hy
      · exact ha
      · exact hs'.1 y hy
    | false =>
      simp only [List.takeWhile_cons, List.dropWhile_cons, ha, Bool.false_eq_true, if_false, List.nil_append]
      have hta : t.less a = true := by
        cases h : t.less a with
        | true => rfl
        | false => exact absurd (Tm.less_tri _ _ h ha) hn'.1
      refine List.pairwise_cons.2 ⟨fun y hy => ?_, hs⟩
      rcases List.mem_cons.1 hy with rfl | hy
      · exact hta
      · exact Tm.less_trans hta (hs'.1 y hy)
theorem keepR_iff (l : List Tm) (i : Nat) (t : Tm) : keepR l i t = true ↔ t.ok = true ∧ ∀ k y, l[k]? = some y → y.ok = true → y.le t = true → y = t ∧ i ≤ k := by
  unfold keepR
  simp only [Bool.and_eq_true, Bool.not_eq_true', List.any_eq_false, List.mem_range]
  constructor
  · rintro ⟨h1, h2⟩
    refine ⟨h1, fun k y hk ho hl => ?_⟩
    have hlt := (List.getElem?_eq_some_iff.1 hk).1
    have := h2 k hlt
    rw [hk] at this
    simp [ho, hl] at this
    exact ⟨this.1, this.2⟩
  · rintro ⟨h1, h2⟩
    refine ⟨h1, fun k hk => ?_⟩
    rw [List.getElem?_eq_getElem hk]
    simp only
    intro hc
    simp only [Bool.and_eq_true, Bool.or_eq_true, decide_eq_true_eq] at hc
    obtain ⟨⟨a, b⟩, c⟩ := hc
    obtain ⟨q1, q2⟩ := h2 k l[k] (List.getElem?_eq_getElem hk) a b
    rcases c with c | c
    · exact c q1
    · omega
theorem refTo_inv (l : List Tm) : ∀ i, Strict (refTo l i) ∧ ∀ x, x ∈ refTo l i ↔ ∃ j, j < i ∧ l[j]? = some x ∧ keepR l j x = true
  | 0 => ⟨by simp [refTo, Strict], fun x => by simp [refTo]⟩
  | i + 1 => by
    obtain ⟨h1, h2⟩ := refTo_inv l i
    have step : ∀ x, (∃ j, j < i + 1 ∧ l[j]? = some x ∧ keepR l j x = true) ↔ ((∃ j, j < i ∧ l[j]? = some x ∧ keepR l j x = true) ∨ (l[i]? = some x ∧ keepR l i x = true)) := by
      intro x
      constructor
      · rintro ⟨j, hj, a, b⟩
        by_cases e : j = i
        · subst e; exact .inr ⟨a, b⟩
        · exact .inl ⟨j, by omega, a, b⟩
      · rintro (⟨j, hj, a, b⟩ | ⟨a, b⟩)
        · exact ⟨j, by omega, a, b⟩
        · exact ⟨i, by omega, a, b⟩
    unfold refTo
    split
    · rename_i t ht
      split
      · rename_i hk
        have hn : t ∉ refTo l i := fun hm => by
          obtain ⟨j, hj, a, b⟩ := (h2 t).1 hm
          have := ((keepR_iff l i t).1 hk).2 j t a ((keepR_iff l i t).1 hk).1 (Tm.le_refl _)
          omega
        refine ⟨insT_strict h1 hn, fun x => ?_⟩
        rw [insT_mem, step, h2, ht]
        constructor
        · rintro (rfl | h)
          · exact .inr ⟨rfl, hk⟩
          · exact .inl h
        · rintro (h | ⟨h, _⟩)
          · exact .inr h
          · injection h with h; exact .inl h.symm
      · rename_i hk
        refine ⟨h1, fun x => ?_⟩
        rw [step, h2, ht]
        constructor
        · exact .inl
        · rintro (h | ⟨h, hk2⟩)
          · exact h
          · injection h with h; subst h; exact absurd hk2 hk
    · rename_i ht
      refine ⟨h1, fun x => ?_⟩
      rw [step, h2, ht]
      simp
theorem refTo_least (l : List Tm) (x : Tm) : x ∈ refTo l l.length ↔ Least1 l x := by
  rw [(refTo_inv l l.length).2]
  constructor
  · rintro ⟨j, hj, a, b⟩
    obtain ⟨q1, q2⟩ := (keepR_iff l j x).1 b
    refine ⟨List.mem_of_getElem? a, q1, fun y hy hyo hyl => ?_⟩
    obtain ⟨k, hk, rfl⟩ := List.getElem_of_mem hy
    exact (q2 k _ (List.getElem?_eq_getElem hk) hyo hyl).1
  · rintro ⟨a, b, c⟩
    -- the first place where it stands
    have hex : ∃ j : Nat, l[j]? = some x := by
      obtain ⟨k, hk, rfl⟩ := List.getElem_of_mem a
      exact ⟨k, List.getElem?_eq_getElem hk⟩
    have first : ∃ j : Nat, l[j]? = some x ∧ ∀ k : Nat, k < j → l[k]? ≠ some x := by
      obtain ⟨j, hj⟩ := hex
      induction j using Nat.strongRecOn with
      | _ j ih =>
        by_cases h : ∃ k, k < j ∧ l[k]? = some x
        · obtain ⟨k, hk, hkx⟩ := h; exact ih k hk hkx
        · exact ⟨j, hj, fun k hk hkx => h ⟨k, hk, hkx⟩⟩
    obtain ⟨j, hj, hfirst⟩ := first
    refine ⟨j, (List.getElem?_eq_some_iff.1 hj).1, hj, (keepR_iff l j x).2 ⟨b, fun k y hk hyo hyl => ?_⟩⟩
    have hy := c y (List.mem_of_getElem? hk) hyo hyl
    refine ⟨hy, ?_⟩
    rcases Nat.lt_or_ge k j with h | h
    · exact absurd (hy ▸ hk) (hfirst k h)
    · exact h

theorem ofT_eq (l : List Tm) : ofT l = refTo l l.length := by
  have hs := sortOf_sorted swo_cmpT l
  have hp := sortOf_perm cmpT l
  have hl : ∀ a b : Tm, ltOf cmpT a b = a.less b := fun a b => by
    rw [ltOf_cmpT, Bool.eq_iff_iff]
    simp [Tm.less]
  have inv := ofGo_inv (sortOf cmpT l) [] [] (fun x hx => by cases hx) (hs.imp fun {x y} h => by rw [← hl]; exact h) (by simp [Strict]) (fun x => by simp [Least1]) (fun y hy => by cases hy)
  refine strict_unique inv.1 (refTo_inv l l.length).1 fun x => ?_
  rw [refTo_least]
  refine (inv.2 x).trans ?_
  unfold Least1
  simp only [List.nil_append, hp.mem_iff]

end Go.Proofs.Ythcedfamidlbdaa
