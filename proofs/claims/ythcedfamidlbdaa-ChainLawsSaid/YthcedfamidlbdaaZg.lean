/-
The abstract layer, seventh part: the lowering of the operations that only yield a value is right. No program in sight. No conditions.
-/
import Derived.Test.YthcedfamidlbdaaZf
namespace Go.Proofs.Ythcedfamidlbdaa
set_option linter.unusedSimpArgs false
set_option linter.unusedVariables false
set_option linter.unusedSectionVars false
open Go.RowKit

theorem vr_of_fits {K : Ker} {k : Sh} {v : V} {cv : Value} (r : VR K v cv) (hk : v.fits k = true) : cv = aggOf k fun j => cv.cells.getD j Go.undef := by
  cases k with
  | leaf =>
    simp only [V.fits] at hk
    cases r <;> first | rfl | (simp [V.leafy] at hk)
  | agg n =>
    cases r with
    | agg cs ccs hl hv =>
      simp only [V.fits, Bool.and_eq_true, decide_eq_true_eq] at hk
      simp only [aggOf]
      congr 1
      apply Array.ext
      · simp; omega
      · intro i h1 h2
        simp [Value.cells, h1]
    | _ => simp [V.fits] at hk

theorem kindsOf_fuel {P : Program} : ∀ (d : Nat) (t : TypeId) (ks : List LK), kindsOf P d t = some ks → kindsOf P (d + 1) t = some ks
  | 0, t, ks, h => by simp [kindsOf] at h
  | d + 1, t, ks, h => by
    unfold kindsOf at h ⊢
    split at h
    · exact h
    · exact h
    · exact h
    · rename_i fs hu
      split at h
      · simp at h
      · rename_i hst
        simp only [if_neg hst]
        obtain ⟨k0, h1, h2⟩ := Option.bind_eq_some_iff.1 h
        have key : ∀ (l : List Field) (off : Nat) (kl : List LK), kindsFs (kindsOf P d) l off = some kl → kindsFs (kindsOf P (d + 1)) l off = some kl := by
          intro l
          induction l with
          | nil => intro off kl h; exact h
          | cons f l ih =>
            intro off kl h
            unfold kindsFs at h ⊢
            split at h
            · rename_i hf
              rw [if_pos hf]
              obtain ⟨kf, e1, e2⟩ := Option.bind_eq_some_iff.1 h
              rw [kindsOf_fuel d _ _ e1]
              cases hkr : kindsFs (kindsOf P d) l (off + kf.length) with
              | none => simp [hkr] at e2
              | some kr =>
                simp only [hkr, Option.map_some] at e2
                simp only [Option.bind_some, ih _ _ hkr, Option.map_some]
                exact e2
            · simp at h
        rw [key _ _ _ h1]
        exact h2
    · simp at h
theorem kindsOf_le {P : Program} {d d' : Nat} {t : TypeId} {ks : List LK} (h : kindsOf P d t = some ks) (hd : d ≤ d') : kindsOf P d' t = some ks := by
  induction d' with
  | zero => have : d = 0 := by omega
            subst this; exact h
  | succ n ih =>
    by_cases e : d = n + 1
    · subst e; exact h
    · exact kindsOf_fuel n t ks (ih (by omega))

theorem eq_plain_top {P : Program} {K : Ker} (w : World) {t : TypeId} {d : Nat} {ks : List LK} {k : Sh} (hks : kindsOf P d t = some ks) (hk : shOf P t = some k) (hd : d ≤ 10000) {v u : V} {a b : Value} (hv : VR K v a) (hu : VR K u b)
    (fv : v.fits k = true) (fu : u.fits k = true) {r : Bool} (h : veqL ks v.cells u.cells = some r) : (Op.equal t a b).run P w = .ok r w := by
  obtain ⟨hsz, heq⟩ := eq_plain (K := K) w 10000 t ks k (kindsOf_le hks hd) hk
  rw [vr_of_fits hv fv, vr_of_fits hu fu]
  exact heq v.cells u.cells _ _ r (fun j hj => (hv.cells fv).2.2.1 j (by omega)) (fun j hj => (hu.cells fu).2.2.1 j (by omega)) h

set_option maxHeartbeats 1000000 in
/-- '==' of whatever is neither a number nor a string. -/
theorem veq_sound {P : Program} {K : Ker} {t : TypeId} {x y : Operand} {e : EqTy} (he : eqTyOf P t x y = some e) {v u : V} {a b : Value} (hv : VR K v a) (hu : VR K u b) {r : Bool} (h : veq e v u = some r) {op : BinOp} {ng : Bool} (hn : isNeq op = some ng) :
    (do eqGuard op t x y a b; binOp op t a b : Sem Value).run P K.w = .ok (.bool (if ng then !r else r)) K.w := by
  unfold eqTyOf at he
  split at he
  case h_1 hu1 =>
    obtain ⟨ks, e1, e2⟩ := Option.bind_eq_some_iff.1 he
    obtain ⟨k, e3, e4⟩ := Option.map_eq_some_iff.1 e2
    subst e4
    simp only [veq] at h
    split at h
    · rename_i hf
      simp only [Bool.and_eq_true] at hf
      have hq := eq_plain_top K.w e1 e3 (by omega) hv hu hf.1 hf.2 h
      obtain ⟨i, d, hi, hd, hs, hkk⟩ := shOf_some e3
      have hkl : k = .leaf := by
        rcases hkk with ⟨h1, _⟩ | ⟨_, ⟨fs, rfl⟩ | ⟨n, ee, rfl⟩⟩
        · exact h1
        · rw [hd] at hu1; injection hu1 with q; cases q
        · rw [hd] at hu1; injection hu1 with q; cases q
      subst hkl
      have hks : ks = [.bool] := by
        simp only [kindsOf, hu1] at e1
        split at e1
        · injection e1 with e1; exact e1.symm
        · rename_i hne; exact absurd e3 hne
      subst hks
      have hvb : (∃ p, v = .bool p) ∧ ∃ p, u = .bool p := by
        have l1 := veqL_len _ _ _ _ h
        cases v <;> cases u <;> simp [V.cells, veqL, leafEq, V.fits, V.leafy] at h hf <;> exact ⟨⟨_, rfl⟩, _, rfl⟩
      obtain ⟨⟨p, rfl⟩, q, rfl⟩ := hvb
      cases hv
      cases hu
      exact run_eqs hn t x y _ _ K.w r (run_eqGuard_plain _ _ _ _ _ _ _ (by simp) (by simp)) (by simp) (by simp) (by simp) (by simp) hq
    · simp at h
  case h_8 fs hu1 =>
    split at he
    · simp at he
    · rename_i hgt
      obtain ⟨ks, e1, e2⟩ := Option.bind_eq_some_iff.1 he
      obtain ⟨k, e3, e4⟩ := Option.map_eq_some_iff.1 e2
      subst e4
      simp only [veq] at h
      split at h
      · rename_i hf
        simp only [Bool.and_eq_true] at hf
        have hq := eq_plain_top K.w e1 e3 (by omega) hv hu hf.1 hf.2 h
        obtain ⟨i, d, hi, hd, hs, hkk⟩ := shOf_some e3
        have hkl : ∃ n, k = .agg n := by
          rcases hkk with ⟨_, h1, _⟩ | ⟨h1, _⟩
          · rw [hd] at hu1; injection hu1 with q; exact absurd q (h1 _)
          · exact ⟨_, h1⟩
        obtain ⟨n, rfl⟩ := hkl
        have ha : ∃ cs, a = .agg cs := by cases hv <;> simp [V.fits] at hf <;> exact ⟨_, rfl⟩
        have hb : ∃ cs, b = .agg cs := by cases hu <;> simp [V.fits] at hf <;> exact ⟨_, rfl⟩
        obtain ⟨ca, rfl⟩ := ha
        obtain ⟨cb, rfl⟩ := hb
        exact run_eqs hn t x y _ _ K.w r (run_eqGuard_agg K.w _ _ _ _ _ _ (by simpa using hgt)) (by simp) (by simp) (by simp) (by simp) hq
      · simp at h
  all_goals first
    | (simp at he; done)
    | (injection he with he
       rename_i hu1
       revert hv hu
       unfold veq at h
       split at h
       all_goals first
         | (simp at h; done)
         | (cases he; done)
         | (try (injection he with he))
       all_goals
         intro hv hu
         simp only [Option.some.injEq] at h
         subst h
         cases hv <;> cases hu <;> first
         | (exfalso; exact absurd rfl (by assumption : Own.nil ≠ Own.nil))
         | (refine run_eqs hn t x y _ _ K.w _ ?_ (by simp) (by simp) (by simp) (by simp) ?_
            · first
                | (refine run_eqGuard_const _ _ _ _ _ ?_; assumption)
                | (refine run_eqGuard_plain _ _ _ _ _ _ _ ?_ ?_ <;> simp)
            · show Sem.run P (Op.equalIn (9999 + 1) t _ _) K.w = _
              rw [Op.equalIn]
              first
                | (simp [run_underlying hu1]; done)
                | (simp [run_underlying hu1]; assumption)))

end Go.Proofs.Ythcedfamidlbdaa
