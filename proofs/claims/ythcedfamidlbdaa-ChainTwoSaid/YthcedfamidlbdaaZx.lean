/-
The abstract layer, twenty-fourth part: an array that the code owns, handed over as a slice that nobody writes. No program in sight. No conditions.
-/
import Derived.Test.YthcedfamidlbdaaZv
namespace Go.Proofs.Ythcedfamidlbdaa
set_option linter.unusedSimpArgs false
set_option linter.unusedVariables false
set_option linter.unusedSectionVars false
open Go.RowKit

/-- An owned array, from its first element on, becomes a slice whose end may be appended to by whoever holds the new token. -/
theorem freeze {K : Ker} {h : Hp} (hr : Rel K h) {n a : Nat} {k : Sh} {es : List V} {cv : Value} (hn : h n = some (.arr k es)) (ha : ¬ K.live a) (hv : VR K (.rs n k 0 es.length) cv) :
    ∃ K', K'.w = K.w ∧ K.le K' ∧ (∀ m, K'.live m → K.live m ∨ m = a) ∧ VR K' (.sl k (.tok a) es) cv ∧ Rel K' ((h.del n).set a .tip) := by
  have hb := hr.blk n _ hn
  cases hb with
  | arr _ _ c T hh hcs himm hfit hcv =>
    cases hv with
    | rs _ _ _ _ cap hl hcap hm =>
      obtain ⟨T', m, hm1, hm2⟩ := hm
      have hcm : m = c.size := by simp [World.shape?, hh] at hm1; exact hm1.2.symm
      subst hcm
      have hblk : K.mu n < K.w.heap.size := by
        rcases Nat.lt_or_ge (K.mu n) K.w.heap.size with hlt | hge
        · exact hlt
        · rw [Array.getElem?_eq_none hge] at hh; exact absurd hh (by simp)
      have hle : K.le (K.claim a (K.mu n) (es.length * k.size)) := K.le_claim ha (by rw [himm]; exact Nat.zero_le _)
      have hmu : (K.claim a (K.mu n) (es.length * k.size)).mu a = K.mu n := by simp [Ker.claim]
      refine ⟨K.claim a (K.mu n) (es.length * k.size), rfl, hle, fun m hm => hm.symm, ?_, hr.claim hn ha (by rw [himm]; exact Nat.zero_le _) (.tip c T (by rw [hmu]; exact hh) (by simp [Ker.claim]) (by simp only [Ker.claim, if_true]; exact hcs))⟩
      have := VR.sl (K := K.claim a (K.mu n) (es.length * k.size)) k (.tok a) es (K.mu n) 0 cap (fun j => c.getD j Go.undef) hblk hfit
        (fun j hj => by
          show K.w.cell? _ = _
          simp only [World.cell?, hh, Nat.zero_add]
          rw [Array.getD_eq_getD_getElem?, Array.getElem?_eq_getElem (by omega)]
          rfl)
        (fun j hj => .inr (by simp only [Ker.claim, if_true]; omega))
        (fun i hi j hj => (hcv i hi j hj).mono hle) hcap (by simp) (by simp)
        (fun m hm => by
          injection hm with hm
          subst hm
          refine ⟨.inl rfl, .inr ⟨hmu, by simp [Ker.claim], T', c.size, ?_, by simpa using hm2⟩⟩
          exact hm1)
      simpa using this

theorem acalls_freeze {P : Program} {f : FuncId} {args : List V} {h : Hp} {nx : Nat} {k : Sh} {G : List V → Prop}
    (c : ACalls P f args h nx fun v h' _ => ∃ n es, nx ≤ n ∧ v = .rs n k 0 es.length ∧ h' = h.set n (.arr k es) ∧ G es) :
    ACalls P f args h nx fun v h' _ => ∃ id es, nx ≤ id ∧ v = .sl k (.tok id) es ∧ h' = h.set id .tip ∧ G es := by
  refine ⟨c.1, fun K cargs hl hr hv => (c.2 K cargs hl hr hv).mono ?_⟩
  rintro e w' ⟨K', v, cv, h', nx', rfl, he, hle, hvr, hrel, hlv, hnx, n, es, hn, rfl, rfl, hG⟩
  have hfr : ¬ K'.live nx' := fun hh => Nat.lt_irrefl _ (hlv nx' hh).1
  have hset : (h.set n (.arr k es)) n = some (.arr k es) := by simp [Hp.set]
  obtain ⟨K'', q1, q2, q3, q4, q5⟩ := freeze hrel hset hfr hvr
  have hdom : h n = none := by
    cases hd : h n with
    | none => rfl
    | some b => exact absurd (hl n (hr.lt n b hd)) (by omega)
  have hh : ((h.set n (.arr k es)).del n).set nx' .tip = h.set nx' .tip := by
    funext x
    unfold Hp.set Hp.del
    by_cases e1 : x = nx'
    · simp [e1]
    · by_cases e2 : x = n
      · subst e2; simp [e1, hdom]
      · simp [e1, e2]
  rw [hh] at q5
  refine ⟨K'', _, cv, _, nx' + 1, q1, he, hle.trans q2, q4, q5, fun m hm => ?_, by omega, nx', es, hnx, rfl, rfl, hG⟩
  rcases q3 m hm with hm | rfl
  · exact ⟨by have := (hlv m hm).1; omega, (hlv m hm).2⟩
  · exact ⟨by omega, .inr hnx⟩

end Go.Proofs.Ythcedfamidlbdaa
