/-
The abstract layer, fifth part: '==' of plain structs; the lowering of the operations that only yield a value, and that it is right. No program in sight. No conditions.
-/
import Derived.Test.YthcedfamidlbdaaZd
import Derived.WalkSpells
namespace Go.Proofs.Ythcedfamidlbdaa
set_option linter.unusedSimpArgs false
set_option linter.unusedVariables false
set_option linter.unusedSectionVars false
open Go.RowKit

def kindsFs (kd : TypeId → Option (List LK)) : List Field → Nat → Option (List LK)
  | [], _ => some []
  | f :: fs, off => if f.name ≠ "_" ∧ f.offset = off then (kd f.type).bind fun ks => (kindsFs kd fs (off + ks.length)).map (ks ++ ·) else none
def kindsOf (P : Program) : Nat → TypeId → Option (List LK)
  | 0, _ => none
  | d + 1, t => match P.underlying t with
    | some .bool => if shOf P t = some .leaf then some [.bool] else none
    | some (.int _) => if shOf P t = some .leaf then some [.int] else none
    | some .string => if shOf P t = some .leaf then some [.str] else none
    | some (.struct fs) => if P.stoodInHeld t then none else (kindsFs (kindsOf P d) fs.toList 0).bind fun ks => if shOf P t = some (.agg ks.length) then some ks else none
    | _ => none

theorem veqL_cons (k : LK) (ks : List LK) (x : V) (xs : List V) (y : V) (ys : List V) : veqL (k :: ks) (x :: xs) (y :: ys) = match leafEq k x y, veqL ks xs ys with
    | some a, some b => some (a && b)
    | _, _ => none := by
  cases ks <;> cases xs <;> cases ys <;> first | rfl | (simp [veqL]; done) | (simp only [veqL]; cases leafEq k x y <;> simp)

theorem veqL_len : ∀ (ks : List LK) (xs ys : List V) (r : Bool), veqL ks xs ys = some r → xs.length = ks.length ∧ ys.length = ks.length
  | [], [], [], _, _ => ⟨rfl, rfl⟩
  | [], [], _ :: _, _, h => by simp [veqL] at h
  | [], _ :: _, _, _, h => by simp [veqL] at h
  | k :: ks, [], _, _, h => by simp [veqL] at h
  | k :: ks, _ :: _, [], _, h => by simp [veqL] at h
  | k :: ks, x :: xs, y :: ys, r, h => by
    rw [veqL_cons] at h
    split at h
    · rename_i a b h1 h2
      have := veqL_len ks xs ys b h2
      simp [this.1, this.2]
    · simp at h

theorem veqL_append : ∀ (ks ks' : List LK) (xs ys : List V) (r : Bool), veqL (ks ++ ks') xs ys = some r →
    ∃ r1 r2, veqL ks (xs.take ks.length) (ys.take ks.length) = some r1 ∧ veqL ks' (xs.drop ks.length) (ys.drop ks.length) = some r2 ∧ r = (r1 && r2)
  | [], ks', xs, ys, r, h => ⟨true, r, by simp [veqL], by simpa using h, by simp⟩
  | k :: ks, ks', xs, ys, r, h => by
    have hl := veqL_len _ _ _ _ h
    cases xs with
    | nil => simp at hl
    | cons x xs =>
      cases ys with
      | nil => simp at hl
      | cons y ys =>
        rw [List.cons_append, veqL_cons] at h
        split at h
        · rename_i a b h1 h2
          injection h with h
          obtain ⟨r1, r2, e1, e2, e3⟩ := veqL_append ks ks' xs ys b h2
          refine ⟨a && r1, r2, ?_, by simpa using e2, by rw [← h, e3, Bool.and_assoc]⟩
          simp only [List.length_cons, List.take_succ_cons]
          rw [veqL_cons, h1, e1]
        · simp at h

theorem run_part {P : Program} {t : TypeId} {k : Sh} (h : shOf P t = some k) (w : World) (cs : Array Value) (f : Nat → Value) (off : Nat) (hl : off + k.size ≤ cs.size) (hf : ∀ j, j < cs.size → cs.getD j Go.undef = f j) :
    (part t cs off).run P w = .ok (aggOf k fun j => f (off + j)) w := by
  simp only [part, Sem.run_bind, run_isAgg h, Result.andThen_ok]
  cases k with
  | leaf =>
    simp only [Sh.size] at hl
    have h0 := hf off (by omega)
    have : cs[off]? = some (f off) := by
      rw [Array.getElem?_eq_getElem (by omega)]
      rw [Array.getD_eq_getD_getElem?, Array.getElem?_eq_getElem (by omega)] at h0
      simpa using h0
    simp [this, aggOf]
  | agg n =>
    simp only [Sh.size] at hl
    have : cs.extract off (off + n) = ((List.range n).map fun j => f (off + j)).toArray := by
      apply Array.ext
      · simp; omega
      · intro i h1 h2
        have hi : i < n := by simpa using h2
        have h0 := hf (off + i) (by omega)
        rw [Array.getD_eq_getD_getElem?, Array.getElem?_eq_getElem (by omega)] at h0
        simpa using h0
    simp only [if_true, Sem.run_bind, run_sizeOf h, Result.andThen_ok, Sh.size, Sem.run_pure, aggOf, this]

theorem eq_plain {P : Program} {K : Ker} (w : World) : ∀ (d : Nat) (t : TypeId) (ks : List LK) (k : Sh), kindsOf P d t = some ks → shOf P t = some k → k.size = ks.length ∧
    ∀ (vs us : List V) (cx cy : Nat → Value) (r : Bool), (∀ j, j < ks.length → VR K (vs.getD j V.undef) (cx j)) → (∀ j, j < ks.length → VR K (us.getD j V.undef) (cy j)) → veqL ks vs us = some r →
      (Op.equalIn d t (aggOf k cx) (aggOf k cy)).run P w = .ok r w
  | 0, t, ks, k, h, _ => by simp [kindsOf] at h
  | d + 1, t, ks, k, h, hk => by
    have leafCase : ∀ (lk : LK) (dd : TypeDesc), P.underlying t = some dd → shOf P t = some .leaf → ks = [lk] → (dd = .bool ∧ lk = .bool ∨ (∃ kk, dd = .int kk) ∧ lk = .int ∨ dd = .string ∧ lk = .str) → k.size = ks.length ∧
        ∀ (vs us : List V) (cx cy : Nat → Value) (r : Bool), (∀ j, j < ks.length → VR K (vs.getD j V.undef) (cx j)) → (∀ j, j < ks.length → VR K (us.getD j V.undef) (cy j)) → veqL ks vs us = some r →
          (Op.equalIn (d + 1) t (aggOf k cx) (aggOf k cy)).run P w = .ok r w := by
      intro lk dd hu hs hks hdd
      rw [hk] at hs
      injection hs with hs
      subst hs hks
      refine ⟨rfl, fun vs us cx cy r hx hy hr => ?_⟩
      have hl := veqL_len _ _ _ _ hr
      obtain ⟨x, rfl⟩ : ∃ x, vs = [x] := by
        cases vs with
        | nil => simp at hl
        | cons x t => cases t with
          | nil => exact ⟨x, rfl⟩
          | cons _ _ => simp at hl
      obtain ⟨y, rfl⟩ : ∃ y, us = [y] := by
        cases us with
        | nil => simp at hl
        | cons x t => cases t with
          | nil => exact ⟨x, rfl⟩
          | cons _ _ => simp at hl
      have h0 : VR K x (cx 0) := by simpa using hx 0 (by simp)
      have h1 : VR K y (cy 0) := by simpa using hy 0 (by simp)
      simp only [aggOf]
      simp only [veqL] at hr
      generalize cx 0 = cvx at h0 ⊢
      generalize cy 0 = cvy at h1 ⊢
      rcases hdd with ⟨rfl, rfl⟩ | ⟨⟨kk, rfl⟩, rfl⟩ | ⟨rfl, rfl⟩
      · cases x <;> cases y <;> simp only [leafEq] at hr <;> first | (cases h0; cases h1; injection hr with hr; subst hr; exact run_equalIn_bool' w d t _ _ hu) | simp at hr
      · cases x <;> cases y <;> simp only [leafEq] at hr <;> first
          | (cases h0; cases h1; simp only [Option.ite_none_right_eq_some, Option.some.injEq] at hr; obtain ⟨rfl, rfl⟩ := hr; exact run_equalIn_int w d t _ _ _ _ hu)
          | simp at hr
      · cases x <;> cases y <;> simp only [leafEq] at hr <;> first | (cases h0; cases h1; injection hr with hr; subst hr; exact run_equalIn_string w d t _ _ hu) | simp at hr
    unfold kindsOf at h
    split at h
    · rename_i hu
      split at h
      · rename_i hs; injection h with h; exact leafCase .bool _ hu hs h.symm (.inl ⟨rfl, rfl⟩)
      · simp at h
    · rename_i kk hu
      split at h
      · rename_i hs; injection h with h; exact leafCase .int _ hu hs h.symm (.inr (.inl ⟨⟨kk, rfl⟩, rfl⟩))
      · simp at h
    · rename_i hu
      split at h
      · rename_i hs; injection h with h; exact leafCase .str _ hu hs h.symm (.inr (.inr ⟨rfl, rfl⟩))
      · simp at h
    · rename_i fs hu
      split at h
      · simp at h
      · rename_i hst
        have hst' : P.stoodInHeld t = false := by simpa using hst
        cases hks : kindsFs (kindsOf P d) fs.toList 0 with
        | none => simp [hks] at h
        | some ks0 =>
          simp only [hks, Option.bind_some] at h
          split at h
          · rename_i hsh
            injection h with h
            subst h
            rw [hk] at hsh
            injection hsh with hsh
            subst hsh
            refine ⟨rfl, fun vs us cx cy r hx hy hr => ?_⟩
            have hfo : P.fieldsOf t = fs := by simp [Program.fieldsOf, hu]
            simp only [aggOf]
            rw [run_equalIn_struct w d t _ _ (by rw [hfo]; exact hu) hst', hfo]
            -- along the fields
            have key : ∀ (l : List Field) (off : Nat) (kl : List LK) (vs us : List V) (r : Bool), kindsFs (kindsOf P d) l off = some kl → off + kl.length ≤ ks0.length →
                (∀ j, j < kl.length → VR K (vs.getD j V.undef) (cx (off + j))) → (∀ j, j < kl.length → VR K (us.getD j V.undef) (cy (off + j))) → veqL kl vs us = some r →
                (Op.eqFields d ((List.range ks0.length).map cx).toArray ((List.range ks0.length).map cy).toArray l).run P w = .ok r w := by
              intro l
              induction l with
              | nil =>
                intro off kl vs us r hkl _ _ _ hr
                simp [kindsFs] at hkl
                subst hkl
                cases vs <;> cases us <;> simp [veqL] at hr
                subst hr
                simp [Op.eqFields]
              | cons f l ih =>
                intro off kl vs us r hkl hle hvx hvy hr
                unfold kindsFs at hkl
                split at hkl
                · rename_i hf
                  obtain ⟨hnm, hoff⟩ := hf
                  cases hkf : kindsOf P d f.type with
                  | none => simp [hkf] at hkl
                  | some kf =>
                    simp only [hkf, Option.bind_some] at hkl
                    cases hkr : kindsFs (kindsOf P d) l (off + kf.length) with
                    | none => simp [hkr] at hkl
                    | some kr =>
                      simp only [hkr, Option.map_some] at hkl
                      injection hkl with hkl
                      subst hkl
                      obtain ⟨r1, r2, e1, e2, rfl⟩ := veqL_append kf kr vs us r hr
                      simp only [List.length_append] at hle hvx hvy
                      have hshf : ∃ kk, shOf P f.type = some kk := by
                        cases d with
                        | zero => simp [kindsOf] at hkf
                        | succ d =>
                          unfold kindsOf at hkf
                          split at hkf
                          · split at hkf
                            · exact ⟨_, by assumption⟩
                            · simp at hkf
                          · split at hkf
                            · exact ⟨_, by assumption⟩
                            · simp at hkf
                          · split at hkf
                            · exact ⟨_, by assumption⟩
                            · simp at hkf
                          · split at hkf
                            · simp at hkf
                            · obtain ⟨a, _, hb⟩ := Option.bind_eq_some_iff.1 hkf
                              split at hb
                              · exact ⟨_, by assumption⟩
                              · simp at hb
                          · simp at hkf
                      obtain ⟨kk, hkk⟩ := hshf
                      obtain ⟨hsz, heq⟩ := eq_plain w d f.type kf kk hkf hkk
                      have gx : ∀ (c : Nat → Value) (j : Nat), j < ((List.range ks0.length).map c).toArray.size → ((List.range ks0.length).map c).toArray.getD j Go.undef = c j := fun c j hj => by
                        have : j < ks0.length := by simpa using hj
                        simp [List.getD_eq_getElem?_getD, this]
                      have p1 := run_part hkk w ((List.range ks0.length).map cx).toArray cx f.offset (by simp; omega) (gx cx)
                      have p2 := run_part hkk w ((List.range ks0.length).map cy).toArray cy f.offset (by simp; omega) (gx cy)
                      have ht : ∀ (vs : List V) (j : Nat), j < kf.length → (vs.take kf.length).getD j V.undef = vs.getD j V.undef := fun vs j hj => by
                        simp [List.getD_eq_getElem?_getD, List.getElem?_take, hj]
                      have hd : ∀ (vs : List V) (j : Nat), (vs.drop kf.length).getD j V.undef = vs.getD (kf.length + j) V.undef := fun vs j => by
                        simp [List.getD_eq_getElem?_getD, List.getElem?_drop]
                      have q := heq (vs.take kf.length) (us.take kf.length) (fun j => cx (f.offset + j)) (fun j => cy (f.offset + j)) r1 (fun j hj => by rw [ht vs j hj, hoff]; exact hvx j (by omega)) (fun j hj => by rw [ht us j hj, hoff]; exact hvy j (by omega)) e1
                      have q2 := ih (off + kf.length) kr (vs.drop kf.length) (us.drop kf.length) r2 hkr (by omega) (fun j hj => by rw [hd]; have := hvx (kf.length + j) (by omega); rwa [← Nat.add_assoc] at this) (fun j hj => by rw [hd]; have := hvy (kf.length + j) (by omega); rwa [← Nat.add_assoc] at this) e2
                      simp only [Op.eqFields, if_pos hnm, Sem.run_bind, p1, p2, Result.andThen_ok, q, Sem.run_ite, q2, Sem.run_pure]
                      cases r1 <;> simp
                · simp at hkl
            exact key fs.toList 0 ks0 vs us r hks (by omega) (fun j hj => by simpa using hx j hj) (fun j hj => by simpa using hy j hj) hr
          · simp at h
    · simp at h

end Go.Proofs.Ythcedfamidlbdaa
