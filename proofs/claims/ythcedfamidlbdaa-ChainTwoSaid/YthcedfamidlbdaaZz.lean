/-
The abstract layer, twenty-sixth part: guarded runs in regions that draw their order. No program in sight. No conditions.
-/
import Derived.Test.YthcedfamidlbdaaZy
namespace Go.Proofs.Ythcedfamidlbdaa
set_option linter.unusedSimpArgs false
set_option linter.unusedVariables false
set_option linter.unusedSectionVars false
open Go.RowKit

section
variable {P : Program} {h0 : Hp} {nx0 : Nat}

theorem dops_cons {Q : List V → List (Option Blk) → List (Option Con) → Prop} {o : LOper} {deps : List Nat} {r : List (LOper × List Nat)} {sl : List V} {adds : List (Option Blk)} {cons : List (Option Con)} (d : DRes) (h1 : doper P (delHp h0 cons) (nx0 + adds.length) o sl (· = d)) (h2 : ∀ c, d.con = some c → conAt h0 nx0 deps adds cons c.n c.old)
    (h3 : dops P h0 nx0 r (putV sl o.dst d.v) (adds ++ [d.add]) (cons ++ [d.con]) Q) : dops P h0 nx0 ((o, deps) :: r) sl adds cons Q := by
  unfold dops
  exact doper_of_det h1 ⟨h2, h3⟩
theorem dops_uncons {Q : List V → List (Option Blk) → List (Option Con) → Prop} {o : LOper} {deps : List Nat} {r : List (LOper × List Nat)} {sl : List V} {adds : List (Option Blk)} {cons : List (Option Con)} (h : dops P h0 nx0 ((o, deps) :: r) sl adds cons Q) :
    ∃ d, doper P (delHp h0 cons) (nx0 + adds.length) o sl (· = d) ∧ (∀ c, d.con = some c → conAt h0 nx0 deps adds cons c.n c.old) ∧ dops P h0 nx0 r (putV sl o.dst d.v) (adds ++ [d.add]) (cons ++ [d.con]) Q := by
  unfold dops at h
  obtain ⟨d, h1, h2, h3⟩ := doper_det h
  exact ⟨d, h1, h2, h3⟩

theorem drawQ_tl {tl : List LOper} {n : Nat} {Q : LExit → St → Prop} {s : St} {sl : List V} {adds : List (Option Blk)} {cons : List (Option Con)} (h : lops P tl (Q .normal) ⟨sl, wrHp (addHp s.h s.nx adds) cons, s.nx + n⟩) : drawQ P tl n Q s sl adds cons := h
abbrev DL := List (LOper × List Nat)
def dRun (g : Option (Nat × Bool)) : DL → DL
  | [] => []
  | o :: r => if o.1.g = g then o :: dRun g r else []
def dRest (g : Option (Nat × Bool)) : DL → DL
  | [] => []
  | o :: r => if o.1.g = g then dRest g r else o :: r
def dbare (l : DL) : DL := l.map fun o => (⟨o.1.dst, none, o.1.op⟩, o.2)
def dMerge (c : Bool) (sl' : List V) : DL → List V → List V
  | [], sl => sl
  | o :: r, sl => dMerge c sl' r (match o.1.dst with | some d => sl.set d (V.gd c (sl'.getD d V.undef)) | none => sl)
def nones {α : Type} : DL → List (Option α)
  | [] => []
  | _ :: r => none :: nones r

theorem dMerge_eq (c : Bool) (sl' : List V) : ∀ (l : DL) (sl : List V), dMerge c sl' l sl = gMerge c sl' (l.map (·.1)) sl
  | [], sl => rfl
  | o :: r, sl => dMerge_eq c sl' r _
theorem dRun_append (g : Option (Nat × Bool)) : ∀ l : DL, dRun g l ++ dRest g l = l
  | [] => rfl
  | o :: r => by
    unfold dRun dRest
    split
    · rw [List.cons_append, dRun_append g r]
    · rfl
theorem dRun_g (g : Option (Nat × Bool)) : ∀ (l : DL), ∀ o ∈ dRun g l, o.1.g = g
  | [], o, h => by cases h
  | o' :: r, o, h => by
    unfold dRun at h
    split at h
    · rename_i e
      rcases List.mem_cons.1 h with rfl | h
      · exact e
      · exact dRun_g g r o h
    · cases h

theorem putV_beside {sl : List V} {o : LOper} {v : V} {s0 : List V} {ds : List Nat} (hb : Beside ds s0 sl) : Beside (ds ++ [o].filterMap (·.dst)) s0 (putV sl o.dst v) := by
  obtain ⟨h1, h2⟩ := hb
  cases hd : o.dst with
  | none => simp only [putV, List.filterMap_cons, hd, List.filterMap_nil, List.append_nil]; exact ⟨h1, h2⟩
  | some d =>
    refine ⟨by simp [putV, h1], fun t ht => ?_⟩
    simp [hd] at ht
    rw [h2 t ht.1]
    simp only [putV, List.getD_eq_getElem?_getD]
    rw [List.getElem?_set_ne (fun e => ht.2 e.symm)]

theorem putV_keep {sl : List V} {dst : Option Nat} {v u : V} {t : Nat} (hd : dst ≠ some t) (h : sl.getD t V.undef = u) : (putV sl dst v).getD t V.undef = u := by
  cases dst with
  | none => exact h
  | some d =>
    have : d ≠ t := fun e => hd (by rw [e])
    simp only [putV, List.getD_eq_getElem?_getD] at h ⊢
    rw [List.getElem?_set_ne this]; exact h

/-- A run of operations under one guard, in a region that draws its order: values and calls that leave memory alone. -/
theorem dops_gd {Q : List V → List (Option Blk) → List (Option Con) → Prop} {t : Nat} {want : Bool} {dst : Option Nat} {op : LOp} {deps : List Nat} {r : DL} {sl : List V} {adds : List (Option Blk)} {cons : List (Option Con)} (c0 b : Bool) (hb : sl.getD t V.undef = V.gd c0 (.bool b))
    (hd : ((dRun (some (t, want)) ((⟨dst, some (t, want), op⟩, deps) :: r)).all fun o => decide (o.1.dst ≠ some t)) = true) (sl' : List V)
    (h1 : c0 = true → b = want → dops P h0 nx0 (dbare (dRun (some (t, want)) ((⟨dst, some (t, want), op⟩, deps) :: r))) sl adds cons (fun sl1 a1 c1 => sl1 = sl' ∧ a1 = adds ++ nones (dRun (some (t, want)) ((⟨dst, some (t, want), op⟩, deps) :: r)) ∧ c1 = cons ++ nones (dRun (some (t, want)) ((⟨dst, some (t, want), op⟩, deps) :: r))))
    (h2 : dops P h0 nx0 (dRest (some (t, want)) ((⟨dst, some (t, want), op⟩, deps) :: r)) (dMerge (c0 && (b == want)) sl' (dRun (some (t, want)) ((⟨dst, some (t, want), op⟩, deps) :: r)) sl) (adds ++ nones (dRun (some (t, want)) ((⟨dst, some (t, want), op⟩, deps) :: r))) (cons ++ nones (dRun (some (t, want)) ((⟨dst, some (t, want), op⟩, deps) :: r))) Q) :
    dops P h0 nx0 ((⟨dst, some (t, want), op⟩, deps) :: r) sl adds cons Q := by
  generalize ((⟨dst, some (t, want), op⟩, deps) :: r) = l at *
  rw [← dRun_append (some (t, want)) l]
  have hd' : ∀ o ∈ dRun (some (t, want)) l, o.1.dst ≠ some t := fun o ho => by simpa using List.all_eq_true.1 hd o ho
  have hg' := dRun_g (some (t, want)) l
  by_cases hc : c0 = true ∧ b = want
  · obtain ⟨rfl, rfl⟩ := hc
    have h1' := h1 rfl rfl
    rw [show (true && (b == b)) = true by simp] at h2
    have hb' : sl.getD t V.undef = .bool b := hb
    have key : ∀ (a : DL) (s0 s : List V) (ds : List Nat) (ad : List (Option Blk)) (co : List (Option Con)), (∀ o ∈ a, o.1.g = some (t, b)) → (∀ o ∈ a, o.1.dst ≠ some t) → s.getD t V.undef = .bool b → Beside ds s0 s →
        dops P h0 nx0 (dbare a) s ad co (fun sl1 a1 c1 => sl1 = sl' ∧ a1 = adds ++ nones (dRun (some (t, b)) l) ∧ c1 = cons ++ nones (dRun (some (t, b)) l)) →
        (Beside (ds ++ (a.map (·.1)).filterMap (·.dst)) s0 sl' → dops P h0 nx0 (dRest (some (t, b)) l) sl' (adds ++ nones (dRun (some (t, b)) l)) (cons ++ nones (dRun (some (t, b)) l)) Q) → dops P h0 nx0 (a ++ dRest (some (t, b)) l) s ad co Q := by
      intro a
      induction a with
      | nil =>
        rintro s0 s ds ad co _ _ _ hbs ⟨rfl, rfl, rfl⟩ hq
        exact hq (by simpa using hbs)
      | cons o a ih =>
        intro s0 s ds ad co hg hdd hbt hbs hdops hq
        obtain ⟨o, dp⟩ := o
        have hdops : dops P h0 nx0 ((⟨o.dst, none, o.op⟩, dp) :: dbare a) s ad co _ := hdops
        obtain ⟨d, e1, e2, e3⟩ := dops_uncons hdops
        rw [List.cons_append]
        refine dops_cons d ?_ e2 ?_
        · have hgo : o.g = some (t, b) := hg (o, dp) (by simp)
          unfold doper at e1 ⊢
          rw [hgo]
          simp only [hbt, if_true]
          exact e1
        · refine ih s0 _ (ds ++ [o].filterMap (·.dst)) _ _ (fun x hx => hg x (by simp [hx])) (fun x hx => hdd x (by simp [hx])) (putV_keep (hdd (o, dp) (by simp)) hbt) (putV_beside hbs) e3 (fun hb2 => hq ?_)
          have e : (ds ++ [o].filterMap (·.dst)) ++ (a.map (·.1)).filterMap (·.dst) = ds ++ (((o, dp) :: a).map (·.1)).filterMap (·.dst) := by
            cases hdo : o.dst <;> simp [hdo]
          rw [e] at hb2
          exact hb2
    refine key _ sl sl [] adds cons hg' hd' hb' ⟨rfl, fun _ _ => rfl⟩ h1' (fun hbs => ?_)
    have e : dMerge true sl' (dRun (some (t, b)) l) sl = sl' := by
      rw [dMerge_eq]
      exact gMerge_true _ _ hbs.1 fun t' ht' => hbs.2 t' (by simpa using ht')
    rwa [e] at h2
  · have hcf : (c0 && (b == want)) = false := by
      cases c0 with
      | false => rfl
      | true => simpa using fun e => hc ⟨rfl, e⟩
    rw [hcf] at h2
    have hskip : sl.getD t V.undef = .tup [] ∨ (sl.getD t V.undef = .bool b ∧ b ≠ want) := by
      cases c0 with
      | false => exact .inl hb
      | true => exact .inr ⟨hb, fun e => hc ⟨rfl, e⟩⟩
    have key : ∀ (a : DL) (s : List V) (ad : List (Option Blk)) (co : List (Option Con)), (∀ o ∈ a, o.1.g = some (t, want)) → (∀ o ∈ a, o.1.dst ≠ some t) → (s.getD t V.undef = .tup [] ∨ (s.getD t V.undef = .bool b ∧ b ≠ want)) →
        dops P h0 nx0 (dRest (some (t, want)) l) (dMerge false sl' a s) (ad ++ nones a) (co ++ nones a) Q → dops P h0 nx0 (a ++ dRest (some (t, want)) l) s ad co Q := by
      intro a
      induction a with
      | nil => intro s ad co _ _ _ h; simpa [nones, dMerge] using h
      | cons o a ih =>
        intro s ad co hg hdd hs h
        obtain ⟨o, dp⟩ := o
        rw [List.cons_append]
        refine dops_cons ⟨V.undef, none, none⟩ ?_ (fun n hn => by cases hn) ?_
        · have hgo : o.g = some (t, want) := hg (o, dp) (by simp)
          unfold doper
          rw [hgo]
          rcases hs with hs | ⟨hs, hne⟩
          · simp only [hs]
          · simp only [hs, if_neg hne]
        · refine ih _ _ _ (fun x hx => hg x (by simp [hx])) (fun x hx => hdd x (by simp [hx])) ?_ ?_
          · have hdo := hdd (o, dp) (by simp)
            exact hs.imp (fun hs => putV_keep hdo hs) (fun hs => ⟨putV_keep hdo hs.1, hs.2⟩)
          · simp only [nones] at h
            unfold dMerge at h
            cases hdo : o.dst with
            | none => simp only [hdo] at h; simpa [putV, hdo] using h
            | some d => simp only [hdo, V.gd_false] at h; simpa [putV, hdo] using h
    exact key _ sl adds cons hg' hd' hskip h2
end

end Go.Proofs.Ythcedfamidlbdaa
