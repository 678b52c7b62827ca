/-
The abstract layer, fourteenth part: regions that draw their order: the head's operations in the order of the text, each reading only the memory that was there before the region. No program in sight. Conditions: a closed test of the region.
-/
import Derived.Test.YthcedfamidlbdaaZm
import Derived.StillTailTactics
namespace Go.Proofs.Ythcedfamidlbdaa
set_option linter.unusedSimpArgs false
set_option linter.unusedVariables false
set_option linter.unusedSectionVars false
open Go.RowKit

/-- Memory that has at least these rows. -/
def Hp.has (h h' : Hp) : Prop := ∀ n k es, h n = some (.arr k es) → h' n = some (.arr k es)
/-- A call that hands over a value and leaves memory and names as they are. -/
def Pure (P : Program) (f : FuncId) (args : List V) (h : Hp) (v : V) : Prop :=
  ∀ h' nx, h.has h' → ACalls P f args h' nx fun v' h'' nx' => v' = v ∧ h'' = h' ∧ nx' = nx
/-- A call that hands over a fresh slice, whose end may be appended to. -/
def Fresh (P : Program) (f : FuncId) (args : List V) (h : Hp) (k : Sh) (es : List V) : Prop :=
  (∀ L, namesL L es) ∧ ∀ h' nx, h.has h' → ACalls P f args h' nx fun v' h'' nx' => v' = .sl k (.tok nx) es ∧ h'' = h'.set nx .tip ∧ nx' = nx + 1

/-- What an operation of the head yields: a value, what it makes, whose token it takes. -/
structure DRes where
  v : V
  add : Option Blk
  con : Option Nat

def LOp.dsem (P : Program) (sl : List V) (h0 : Hp) (a : Nat) (R : DRes → Prop) : LOp → Prop
  | .val x => x.sem sl h0 fun v => R ⟨v, none, none⟩
  | .box k x => (x.ev sl).fits k = true ∧ R ⟨.ptr a k 0 0, some (.arr k [x.ev sl]), none⟩
  | .bslice k es => (∀ e ∈ es, (e.ev sl).fits k = true) ∧ R ⟨.sl k (.tok a) (es.map (LArg.ev sl)), some .tip, none⟩
  | .append k bytes x y => match x.ev sl, y.ev sl with
    | .sl kx own xs, .sl ky _ ys => kx = k ∧ ky = k ∧ (xs.length + ys.length) * bytes ≤ 140737488355328 ∧ (match own with
      | .nil => R ⟨.sl k (appOwn a .nil ys) (xs ++ ys), if ys.isEmpty then none else some .tip, none⟩
      | .full => R ⟨.sl k (appOwn a .full ys) (xs ++ ys), if ys.isEmpty then none else some .tip, none⟩
      | .tok n => R ⟨.sl k (.tok a) (xs ++ ys), some .tip, some n⟩
      | .free => False)
    | _, _ => False
  | .store _ _ _ => False
  | .call f args => (∃ v, Pure P f (args.map (LArg.ev sl)) h0 v ∧ R ⟨v, none, none⟩) ∨ ∃ k es, Fresh P f (args.map (LArg.ev sl)) h0 k es ∧ R ⟨.sl k (.tok a) es, some .tip, none⟩
  | .callv x args => match x.ev sl with
    | .fn (.func f) first cap => (∃ v, Pure P f (first ++ args.map (LArg.ev sl) ++ cap) h0 v ∧ R ⟨v, none, none⟩) ∨ ∃ k es, Fresh P f (first ++ args.map (LArg.ev sl) ++ cap) h0 k es ∧ R ⟨.sl k (.tok a) es, some .tip, none⟩
    | _ => False

/-- The tokens at hand: those of before, and of what stands ahead. -/
def tokOK (h0 : Hp) (nx0 : Nat) (deps : List Nat) (adds : List (Option Blk)) (cons : List (Option Nat)) (n : Nat) : Prop :=
  some n ∉ cons ∧ ((n < nx0 ∧ h0 n = some .tip) ∨ ∃ d ∈ deps, n = nx0 + d ∧ adds.getD d none = some .tip)

def doper (P : Program) (h0 : Hp) (a : Nat) (o : LOper) (sl : List V) (R : DRes → Prop) : Prop :=
  match o.g with
  | none => o.op.dsem P sl h0 a R
  | some (t, want) => match sl.getD t V.undef with
    | .bool b => if b = want then o.op.dsem P sl h0 a R else R ⟨V.undef, none, none⟩
    | .tup _ => R ⟨V.undef, none, none⟩
    | _ => False

/-- The head, in the text's order; adds, cons: of the operations ahead. -/
def dops (P : Program) (h0 : Hp) (nx0 : Nat) : List (LOper × List Nat) → List V → List (Option Blk) → List (Option Nat) → (List V → List (Option Blk) → List (Option Nat) → Prop) → Prop
  | [], sl, adds, cons, Q => Q sl adds cons
  | (o, deps) :: r, sl, adds, cons, Q =>
    doper P h0 (nx0 + adds.length) o sl fun d => (∀ n, d.con = some n → tokOK h0 nx0 deps adds cons n) ∧ dops P h0 nx0 r (putV sl o.dst d.v) (adds ++ [d.add]) (cons ++ [d.con]) Q

/-- Memory behind the head. -/
def headHp (h0 : Hp) (nx0 : Nat) (adds : List (Option Blk)) (cons : List (Option Nat)) : Hp := fun n =>
  if some n ∈ cons then none else if n < nx0 then h0 n else adds.getD (n - nx0) none

theorem LVal.sem_det {sl : List V} {h : Hp} {R : V → Prop} {l : LVal} (hs : l.sem sl h R) : ∃ v, l.sem sl h (· = v) ∧ R v := by
  cases l <;> simp only [LVal.sem] at hs ⊢
  case bin op x y =>
    revert hs
    split
    · rintro ⟨a, b⟩
      subst a
      cases op <;> simp only [ibin] at b ⊢ <;> first | exact ⟨_, ⟨trivial, rfl⟩, b⟩ | exact ⟨_, ⟨trivial, b.1, rfl⟩, b.2⟩ | exact b.elim
    · intro b
      cases op <;> simp only [sbin] at b ⊢ <;> first | exact ⟨_, rfl, b⟩ | exact ⟨_, ⟨b.1, rfl⟩, b.2⟩ | exact b.elim
    · exact False.elim
  case load t x =>
    revert hs
    split
    · split
      · rintro ⟨a, b, c, d⟩; exact ⟨_, ⟨a, b, c, rfl⟩, d⟩
      · exact False.elim
    · rintro ⟨b, c, d⟩; exact ⟨_, ⟨b, c, rfl⟩, d⟩
    · exact False.elim
  case build z parts => exact ⟨_, ⟨hs.1, rfl⟩, hs.2⟩
  case slc k x lo hi mx =>
    revert hs
    split
    · split
      · rintro ⟨a, b, c, d, e, f, g⟩; exact ⟨_, ⟨a, b, c, d, e, f, rfl⟩, g⟩
      · exact False.elim
    · split
      · rintro ⟨a, b, c, d, e⟩; exact ⟨_, ⟨a, b, c, d, rfl⟩, e⟩
      · exact False.elim
    · exact False.elim
  case slcs x lo hi =>
    revert hs
    split
    · split
      · rintro ⟨a, b, c, e⟩; exact ⟨_, ⟨a, b, c, rfl⟩, e⟩
      · exact False.elim
    · exact False.elim
  all_goals
    first
      | exact ⟨_, rfl, hs⟩
      | (revert hs; split <;> first | exact False.elim | exact fun h => ⟨_, rfl, h⟩ | (rintro ⟨a, b⟩; exact ⟨_, ⟨a, rfl⟩, b⟩) | (rintro ⟨a, c, b⟩; exact ⟨_, ⟨a, c, rfl⟩, b⟩) | (rintro ⟨a, c, d, b⟩; exact ⟨_, ⟨a, c, d, rfl⟩, b⟩))

theorem LOp.dsem_det {P : Program} {sl : List V} {h : Hp} {a : Nat} {R : DRes → Prop} {l : LOp} (hs : l.dsem P sl h a R) : ∃ d, l.dsem P sl h a (· = d) ∧ R d := by
  cases l <;> simp only [LOp.dsem] at hs ⊢
  case val x =>
    obtain ⟨v, h1, h2⟩ := LVal.sem_det hs
    exact ⟨_, LVal.sem_mono (fun _ _ _ h => h) (fun v' hv => by rw [hv]) h1, h2⟩
  case box k x => exact ⟨_, ⟨hs.1, rfl⟩, hs.2⟩
  case bslice k es => exact ⟨_, ⟨hs.1, rfl⟩, hs.2⟩
  case append k bytes x y =>
    revert hs
    split
    · rename_i kx own xs ky own' ys _ _
      rintro ⟨a, b, c, d⟩
      cases own <;> simp only at d ⊢ <;> first | exact ⟨_, ⟨a, b, c, rfl⟩, d⟩ | exact d.elim
    · exact False.elim
  case call f args =>
    rcases hs with ⟨v, h1, h2⟩ | ⟨k, es, h1, h2⟩
    · exact ⟨_, .inl ⟨v, h1, rfl⟩, h2⟩
    · exact ⟨_, .inr ⟨k, es, h1, rfl⟩, h2⟩
  case callv x args =>
    revert hs
    split
    · rintro (⟨v, h1, h2⟩ | ⟨k, es, h1, h2⟩)
      · exact ⟨_, .inl ⟨v, h1, rfl⟩, h2⟩
      · exact ⟨_, .inr ⟨k, es, h1, rfl⟩, h2⟩
    · exact False.elim

theorem doper_det {P : Program} {h0 : Hp} {a : Nat} {o : LOper} {sl : List V} {R : DRes → Prop} (hs : doper P h0 a o sl R) : ∃ d, doper P h0 a o sl (· = d) ∧ R d := by
  unfold doper at hs ⊢
  split at hs
  · exact LOp.dsem_det hs
  · split at hs
    · split at hs
      · rename_i hb
        obtain ⟨d, h1, h2⟩ := LOp.dsem_det hs
        exact ⟨d, by simpa only [hb, if_true] using h1, h2⟩
      · rename_i hb; exact ⟨_, by simp only [if_neg hb], hs⟩
    · exact ⟨_, rfl, hs⟩
    · exact hs.elim

/-- The head told as a table. -/
structure Table (P : Program) (h0 : Hp) (nx0 : Nat) (l : List (LOper × List Nat)) (sl0 : List V) (res : List DRes) : Prop where
  len : res.length = l.length
  ok : ∀ i o deps d, l[i]? = some (o, deps) → res[i]? = some d → doper P h0 (nx0 + i) o (((l.zip res).take i).foldl (fun sl p => putV sl p.1.1.dst p.2.v) sl0) (· = d)
  tok : ∀ i o deps d n, l[i]? = some (o, deps) → res[i]? = some d → d.con = some n → tokOK h0 nx0 deps ((res.take i).map (·.add)) ((res.take i).map (·.con)) n

theorem dops_table {P : Program} {h0 : Hp} {nx0 : Nat} {Q : List V → List (Option Blk) → List (Option Nat) → Prop} : ∀ (l r : List (LOper × List Nat)) (sl0 : List V) (res : List DRes),
    Table P h0 nx0 l sl0 res → dops P h0 nx0 r ((l.zip res).foldl (fun sl p => putV sl p.1.1.dst p.2.v) sl0) (res.map (·.add)) (res.map (·.con)) Q →
    ∃ res', Table P h0 nx0 (l ++ r) sl0 res' ∧ Q (((l ++ r).zip res').foldl (fun sl p => putV sl p.1.1.dst p.2.v) sl0) (res'.map (·.add)) (res'.map (·.con))
  | l, [], sl0, res, ht, h => ⟨res, by simpa using ht, by simpa [dops] using h⟩
  | l, (o, deps) :: r, sl0, res, ht, h => by
    unfold dops at h
    obtain ⟨d, h1, h2, h3⟩ := doper_det h
    have hz : ((l ++ [(o, deps)]).zip (res ++ [d])) = l.zip res ++ [((o, deps), d)] := by rw [List.zip_append ht.len.symm]; rfl
    have hzl : (l.zip res).length = l.length := by simp [ht.len]
    have ht' : Table P h0 nx0 (l ++ [(o, deps)]) sl0 (res ++ [d]) := by
      refine ⟨by simp [ht.len], ?_, ?_⟩
      · intro i o' deps' d' hi hd
        by_cases e : i < l.length
        · rw [List.getElem?_append_left e] at hi
          rw [List.getElem?_append_left (by rw [ht.len]; exact e)] at hd
          have := ht.ok i o' deps' d' hi hd
          rw [hz, List.take_append_of_le_length (by omega)]
          exact this
        · have hi' : i = l.length := by
            have := (List.getElem?_eq_some_iff.1 hi).1
            simp at this
            omega
          subst hi'
          simp at hi
          rw [← ht.len] at hd
          simp at hd
          obtain ⟨rfl, rfl⟩ := hi
          subst hd
          rw [hz, List.take_append_of_le_length (by omega), List.take_of_length_le (by omega)]
          simpa [ht.len] using h1
      · intro i o' deps' d' n hi hd hn
        by_cases e : i < l.length
        · rw [List.getElem?_append_left e] at hi
          rw [List.getElem?_append_left (by rw [ht.len]; exact e)] at hd
          have := ht.tok i o' deps' d' n hi hd hn
          rw [List.take_append_of_le_length (by rw [ht.len]; omega)]
          exact this
        · have hi' : i = l.length := by
            have := (List.getElem?_eq_some_iff.1 hi).1
            simp at this
            omega
          subst hi'
          simp at hi
          rw [← ht.len] at hd ⊢
          simp at hd
          obtain ⟨rfl, rfl⟩ := hi
          subst hd
          rw [List.take_append_of_le_length (Nat.le_refl _), List.take_length]
          exact h2 n hn
    obtain ⟨res', q1, q2⟩ := dops_table (l ++ [(o, deps)]) r sl0 (res ++ [d]) ht' (by rw [hz, List.foldl_append]; simpa using h3)
    refine ⟨res', by simpa using q1, by simpa using q2⟩

end Go.Proofs.Ythcedfamidlbdaa
