/-
The abstract layer, twenty-first part: contracts of calls, and the rules of a walk. No conditions.
-/
import Derived.Test.YthcedfamidlbdaaZt
namespace Go.Proofs.Ythcedfamidlbdaa
set_option linter.unusedSimpArgs false
set_option linter.unusedVariables false
set_option linter.unusedSectionVars false
open Go.RowKit

abbrev Hp.none : Hp := fun _ => Option.none

theorem has_trans {a b c : Hp} (h : Hp.has a b) (h' : Hp.has b c) : Hp.has a c := fun n k es e => h' n k es (h n k es e)
theorem none_has (h : Hp) : Hp.has Hp.none h := fun n k es e => by cases e
theorem has_refl (h : Hp) : Hp.has h h := fun _ _ _ e => e

theorem Pure.mono {P : Program} {f : FuncId} {args : List V} {h h' : Hp} {v : V} (p : Pure P f args h v) (hh : h.has h') : Pure P f args h' v := fun h'' nx q => p h'' nx (has_trans hh q)
theorem Fresh.mono {P : Program} {f : FuncId} {args : List V} {h h' : Hp} {k : Sh} {es : List V} (p : Fresh P f args h k es) (hh : h.has h') : Fresh P f args h' k es := ⟨p.1, fun h'' nx q => p.2 h'' nx (has_trans hh q)⟩
/-- From a walk: the names of its own are forgotten. -/
theorem pure_of {P : Program} {f : FuncId} {args : List V} {h : Hp} {v : V} (hv : ∀ L, v.names L) (hc : ∀ h' nx, h.has h' → ACalls P f args h' nx fun v' h'' _ => v' = v ∧ h'' = h') : Pure P f args h v := by
  intro h' nx hh
  have c := hc h' nx hh
  refine ⟨c.1, fun K cargs hlv hrel hargs => (c.2 K cargs hlv hrel hargs).mono ?_⟩
  rintro e w' ⟨K', v', cv, h'', nx', rfl, he, hle, hvr, hrel', hlv', hnx, rfl, rfl⟩
  have hleO : K.le (K'.only fun n => K'.live n ∧ n < nx) := ⟨fun n hn => ⟨hle.live n hn, hlv n hn⟩, hle.mu, hle.tp, hle.fro, hle.imm, hle.cell, hle.shape, hle.below⟩
  exact ⟨K'.only fun n => K'.live n ∧ n < nx, v', cv, h'', nx, rfl, he, hleO, hvr.only _ (hv _), hrel.back hrel' hleO.toV (fun n hn => ⟨hle.live n hn, hlv n hn⟩), fun n hn => ⟨hn.2, (hlv' n hn.1).2⟩, Nat.le_refl _, rfl, rfl, rfl⟩

theorem fresh_of {P : Program} {f : FuncId} {args : List V} {h : Hp} {k : Sh} {es : List V} (hv : ∀ L, namesL L es) (hc : ∀ h' nx, h.has h' → ACalls P f args h' nx fun v' h'' _ => ∃ id, nx ≤ id ∧ v' = .sl k (.tok id) es ∧ h'' = h'.set id .tip) : Fresh P f args h k es := by
  refine ⟨hv, ?_⟩
  intro h' nx hh
  have c := hc h' nx hh
  refine ⟨c.1, fun K cargs hlv hrel hargs => (c.2 K cargs hlv hrel hargs).mono ?_⟩
  rintro e w' ⟨K', v', cv, h'', nx', rfl, he, hle, hvr, hrel', hlv', hnx, id, hid, rfl, rfl⟩
  have hdom : ∀ n b, h' n = some b → n < nx := fun n b e => hlv n (hrel.lt n b e)
  have hset : (h'.set id .tip) id = some .tip := by simp [Hp.set]
  -- first all names of its own but the token are forgotten, then the token is called nx
  have hle1 : K.le (K'.only fun n => (K'.live n ∧ n < nx) ∨ n = id) := ⟨fun n hn => .inl ⟨hle.live n hn, hlv n hn⟩, hle.mu, hle.tp, hle.fro, hle.imm, hle.cell, hle.shape, hle.below⟩
  have hlid : K'.live id := hrel'.lt id _ hset
  have hrelA : Rel (K'.only fun n => (K'.live n ∧ n < nx) ∨ n = id) (h'.set id .tip) := by
    refine ⟨fun n b e => ?_, hrel'.base, fun n b e => ?_, hrel'.inj, hrel'.size⟩
    · unfold Hp.set at e
      split at e
      · rename_i hn; exact .inr hn
      · exact .inl ⟨hle.live n (hrel.lt n b e), hdom n b e⟩
    · have hb' := hrel'.blk n b e
      cases hb' with
      | tip c T hh hi ht => exact .tip c T hh hi ht
      | obj o U hh ho _ hU =>
        have hne : n ≠ id := by rintro rfl; rw [hset] at e; cases e
        have e' : h' n = some (.obj o U) := by unfold Hp.set at e; rw [if_neg hne] at e; exact e
        have hb := hrel.blk n _ e'
        cases hb with
        | obj _ _ _ _ hu _ => exact .obj o U hh ho (hU _ _ hle1.toV hu) hU
      | arr k es c T hh hsz hi hfit hvs =>
        have hne : n ≠ id := by rintro rfl; rw [hset] at e; cases e
        have e' : h' n = some (.arr k es) := by unfold Hp.set at e; rw [if_neg hne] at e; exact e
        refine .arr k es c T hh hsz hi hfit fun i hi j hj => (hvs i hi j hj).only _ ?_
        have hb := hrel.blk n _ e'
        cases hb with
        | arr _ _ c0 T0 hh0 hsz0 hi0 hfit0 hvs0 => exact names_mono (fun m hm => .inl ⟨hle.live m hm, hlv m hm⟩) (hvs0 i hi j hj).names
  have hvrA : VR (K'.only fun n => (K'.live n ∧ n < nx) ∨ n = id) (.sl k (.tok id) es) cv := hvr.only _ ⟨fun n e => by injection e with e; exact .inr e.symm, hv _⟩
  by_cases hidn : id = nx
  · subst hidn
    refine ⟨K'.only fun n => (K'.live n ∧ n < id) ∨ n = id, _, cv, _, id + 1, rfl, he, hle1, hvrA, hrelA, fun n hn => ?_, by omega, rfl, rfl, rfl⟩
    rcases hn with hn | hn
    · exact ⟨by omega, (hlv' n hn.1).2⟩
    · exact ⟨by omega, .inr (by omega)⟩
  · have hfr : ¬ ((K'.live nx ∧ nx < nx) ∨ nx = id) := fun h => h.elim (fun h => Nat.lt_irrefl _ h.2) (fun h => hidn h.symm)
    generalize hKA : (K'.only fun n => (K'.live n ∧ n < nx) ∨ n = id) = KA at hle1 hrelA hvrA
    have hfr' : ¬ KA.live nx := by rw [← hKA]; exact hfr
    have hbr := hrelA.blk id _ hset
    have hle2 := KA.le_claim (b := KA.mu id) (m := KA.imm (KA.mu id)) hfr' (Nat.le_refl _)
    have hrelB := hrelA.claim hset (a := nx) (m := KA.imm (KA.mu id)) hfr' (Nat.le_refl _) (b1 := .tip) (by
      cases hbr with
      | tip c T hh hi ht => exact .tip c T (by simpa [Ker.claim] using hh) (by simp [Ker.claim]) (by simpa [Ker.claim, hi] using ht))
    have hn0 : h' id = none := by
      cases e : h' id with
      | none => rfl
      | some b => have := hdom id b e; omega
    have hdel : ((h'.set id .tip).del id).set nx .tip = h'.set nx .tip := by
      funext x
      unfold Hp.set Hp.del
      by_cases e1 : x = nx
      · simp [e1]
      · by_cases e2 : x = id
        · simp [e1, e2, hn0]
        · simp [e1, e2]
    rw [hdel] at hrelB
    have hvrB : VR (KA.claim nx (KA.mu id) (KA.imm (KA.mu id))) (.sl k (.tok nx) es) cv := by
      cases hvrA with
      | sl _ _ _ b off cap f' hb' hfit' hcell hst hv hcap hnil hfull htok =>
        refine .sl k (.tok nx) es b off cap f' hb' hfit' hcell (fun j hj => hle2.still hb' (hst j hj)) (fun i hi j hj => (hv i hi j hj).mono hle2) hcap (by simp) (by simp) ?_
        intro m hm
        injection hm with hm
        subst hm
        obtain ⟨hln, htk⟩ := htok id rfl
        refine ⟨.inl rfl, ?_⟩
        rcases htk with q | ⟨q1, q2, q3⟩
        · exact .inl q
        · refine .inr ⟨by simp [Ker.claim, q1], ?_, q3⟩
          cases hbr with
          | tip c T hh hi ht => simp [Ker.claim, hi, q2]
    -- and its old name is forgotten
    have hleC : K.le ((KA.claim nx (KA.mu id) (KA.imm (KA.mu id))).only fun n => (K'.live n ∧ n < nx) ∨ n = nx) := by
      have := hle1.trans hle2
      exact ⟨fun n hn => .inl ⟨hle.live n hn, hlv n hn⟩, this.mu, this.tp, this.fro, this.imm, this.cell, this.shape, this.below⟩
    refine ⟨(KA.claim nx (KA.mu id) (KA.imm (KA.mu id))).only fun n => (K'.live n ∧ n < nx) ∨ n = nx, _, cv, _, nx + 1, ?_, he, hleC, hvrB.only _ ⟨fun n e => by injection e with e; exact .inr e.symm, hv _⟩, ?_, fun n hn => ?_, by omega, rfl, rfl, rfl⟩
    · rw [← hKA]; rfl
    · refine ⟨fun n b e => ?_, hrelB.base, fun n b e => ?_, hrelB.inj, hrelB.size⟩
      · unfold Hp.set at e
        split at e
        · rename_i hn; exact .inr hn
        · exact .inl ⟨hle.live n (hrel.lt n b e), hdom n b e⟩
      · have hb' := hrelB.blk n b e
        cases hb' with
        | tip c T hh hi ht => exact .tip c T hh hi ht
        | obj o U hh ho _ hU =>
          have hne : n ≠ nx := by rintro rfl; simp [Hp.set] at e
          have e' : h' n = some (.obj o U) := by unfold Hp.set at e; rw [if_neg hne] at e; exact e
          have hb := hrel.blk n _ e'
          cases hb with
          | obj _ _ _ _ hu _ => exact .obj o U hh ho (hU _ _ hleC.toV hu) hU
        | arr k es c T hh hsz hi hfit hvs =>
          have hne : n ≠ nx := by rintro rfl; simp [Hp.set] at e
          have e' : h' n = some (.arr k es) := by unfold Hp.set at e; rw [if_neg hne] at e; exact e
          refine .arr k es c T hh hsz hi hfit fun i hi j hj => (hvs i hi j hj).only _ ?_
          have hb := hrel.blk n _ e'
          cases hb with
          | arr _ _ c0 T0 hh0 hsz0 hi0 hfit0 hvs0 => exact names_mono (fun m hm => .inl ⟨hle.live m hm, hlv m hm⟩) (hvs0 i hi j hj).names
    · rcases hn with hn | hn
      · exact ⟨by omega, (hlv' n hn.1).2⟩
      · exact ⟨by omega, .inr (by omega)⟩

/-! ### The rules of a walk -/
section
variable {P : Program} {Q : LExit → St → Prop} {s : St}

theorem lwp_skip (h : Q .normal s) : lwp P .skip Q s := h
theorem lwp_seq {a b : LCode} (h : lwp P a (seqQ (lwp P b) Q) s) : lwp P (.seq a b) Q s := h
theorem lwp_block {id : Nat} {c : LCode} (h : lwp P c (blockQ id Q) s) : lwp P (.block id c) Q s := h
theorem lwp_exit {id : Nat} (h : Q (.exit id) s) : lwp P (.exit id) Q s := h
theorem lwp_ret (h : Q .ret s) : lwp P .ret Q s := h
theorem lwp_cond {c : LArg} {a b : LCode} (t : Bool) (hc : c.ev s.sl = .bool t) (ht : t = true → lwp P a Q s) (hf : t = false → lwp P b Q s) : lwp P (.cond c a b) Q s := by
  simp only [lwp, hc]
  cases t
  · simpa using hf rfl
  · simpa using ht rfl
theorem lwp_ops {l : List LOper} (h : lops P l (Q .normal) s) : lwp P (.ops l) Q s := h
theorem lwp_all {l : List LOper} (hl : l.all (fun o => !o.op.isCall) = true) (ho : okAll l s) (h : Q .normal (nextAll l s)) : lwp P (.ops l) Q s := lops_all l hl s ho h
theorem seqQ_normal {b : (LExit → St → Prop) → St → Prop} (h : b Q s) : seqQ b Q .normal s := ⟨s, .refl s, h⟩
theorem seqQ_wk {b : (LExit → St → Prop) → St → Prop} (s' : St) (hw : Wk s s') (h : b Q s') : seqQ b Q .normal s := ⟨s', hw, h⟩
theorem seqQ_exit {b : (LExit → St → Prop) → St → Prop} {id : Nat} (h : Q (.exit id) s) : seqQ b Q (.exit id) s := h
theorem seqQ_ret {b : (LExit → St → Prop) → St → Prop} (h : Q .ret s) : seqQ b Q .ret s := h
theorem blockQ_normal {id : Nat} (h : Q .normal s) : blockQ id Q .normal s := h
theorem blockQ_ret {id : Nat} (h : Q .ret s) : blockQ id Q .ret s := h
theorem blockQ_exit {id : Nat} (h : Q .normal s) : blockQ id Q (.exit id) s := by simp only [blockQ, if_true]; exact h
theorem blockQ_other {id id' : Nat} (hne : id' ≠ id) (h : Q (.exit id') s) : blockQ id Q (.exit id') s := by simp only [blockQ, if_neg hne]; exact h
theorem loopQ_normal {J : St → Prop} (s' : St) (hw : Wk s s') (h : J s') : loopQ J Q .normal s := ⟨s', hw, h⟩
theorem loopQ_exit {J : St → Prop} {id : Nat} (h : Q (.exit id) s) : loopQ J Q (.exit id) s := h
theorem loopQ_ret {J : St → Prop} (h : Q .ret s) : loopQ J Q .ret s := h

/-- What holds at the head of a loop: one of these states. -/
def AtHead {ι : Type} (C : ι → Prop) (st : ι → St) (m : ι → Nat) (n : Nat) (s' : St) : Prop := ∃ i, C i ∧ m i < n ∧ s' = st i
def roundQ {ι : Type} (C : ι → Prop) (st : ι → St) (m : ι → Nat) (n : Nat) (Q : LExit → St → Prop) : LExit → St → Prop
  | .normal, s => ∃ i, C i ∧ m i < n ∧ Wk s (st i)
  | e, s => Q e s
theorem roundQ_normal {ι : Type} {C : ι → Prop} {st : ι → St} {m : ι → Nat} {n : Nat} (i : ι) (hC : C i) (hm : m i < n) (hw : Wk s (st i)) : roundQ C st m n Q .normal s := ⟨i, hC, hm, hw⟩
theorem roundQ_exit {ι : Type} {C : ι → Prop} {st : ι → St} {m : ι → Nat} {n : Nat} {id : Nat} (h : Q (.exit id) s) : roundQ C st m n Q (.exit id) s := h
theorem roundQ_ret {ι : Type} {C : ι → Prop} {st : ι → St} {m : ι → Nat} {n : Nat} (h : Q .ret s) : roundQ C st m n Q .ret s := h

theorem LOp.run_mono {sl : List V} {hp : Hp} {nx : Nat} {R R' : V → Hp → Nat → Prop} {o : LOp} (hR : ∀ v h' nx', R v h' nx' → R' v h' nx') (hx : o.run P sl hp nx R) : o.run P sl hp nx R' := by
  have semM : ∀ {sl : List V} {hp : Hp} {R R' : V → Prop} {x : LVal}, (∀ v, R v → R' v) → x.sem sl hp R → x.sem sl hp R' := fun hR hx => LVal.sem_mono (fun _ _ _ e => e) hR hx
  cases o with
  | val x => exact semM (fun v => hR v hp nx) hx
  | box k x => exact ⟨hx.1, hR _ _ _ hx.2⟩
  | bslice k es => exact ⟨hx.1, hx.2.imp (hR _ _ _) (hR _ _ _)⟩
  | callw f a b => exact hx.elim
  | mkz k b x z =>
    simp only [LOp.run, LOp.sem] at hx ⊢
    revert hx
    split
    · rintro ⟨a, b, c⟩; exact ⟨a, b, c.imp (hR _ _ _) (hR _ _ _)⟩
    · exact id
  | appz k b x y z =>
    simp only [LOp.run, LOp.sem] at hx ⊢
    revert hx
    split
    · rintro ⟨a, b, c, d⟩; exact ⟨a, b, c, hR _ _ _ d⟩
    · exact id
  | clear k x z =>
    simp only [LOp.run, LOp.sem] at hx ⊢
    revert hx
    split
    · split
      · rintro ⟨a, b, c, d⟩; exact ⟨a, b, c, hR _ _ _ d⟩
      · exact id
    · exact hR _ _ _
    · exact id
  | append k b x y =>
    simp only [LOp.run, LOp.sem] at hx ⊢
    revert hx
    split
    · rintro ⟨a, hx⟩
      refine ⟨a, ?_⟩
      revert hx
      split
      · rintro ⟨b, c, ⟨d, e⟩ | ⟨d, e, f, g⟩⟩
        · exact ⟨b, c, .inl ⟨d, hR _ _ _ e⟩⟩
        · exact ⟨b, c, .inr ⟨d, e, f, hR _ _ _ g⟩⟩
      · split
        · rintro ⟨b, ⟨c, d⟩ | ⟨c, d, e, f, g, i⟩⟩
          · exact ⟨b, .inl ⟨c, hR _ _ _ d⟩⟩
          · exact ⟨b, .inr ⟨c, d, e, f, g, hR _ _ _ i⟩⟩
        · exact id
      · exact id
    · exact id
  | store t x v =>
    simp only [LOp.run, LOp.sem] at hx ⊢
    revert hx
    split
    · split
      · rintro ⟨a, b, c, d, e⟩; exact ⟨a, b, c, d, hR _ _ _ e⟩
      · exact id
    · exact id
  | call f args => exact ACalls.mono hx fun v h' nx' _ => hR v h' nx'
  | callv x args =>
    simp only [LOp.run] at hx ⊢
    revert hx
    split
    · exact fun hx => ACalls.mono hx fun v h' nx' _ => hR v h' nx'
    · exact fun hx => AYields.mono hx fun v h' nx' _ => hR v h' nx'
    · exact id
theorem lops_mono {Q Q' : St → Prop} (h : ∀ s, Q s → Q' s) : ∀ (l : List LOper) (s : St), lops P l Q s → lops P l Q' s := by
  intro l
  induction l with
  | nil => exact fun s hs => h s hs
  | cons o r ih =>
    intro s hs
    unfold lops at hs ⊢
    revert hs
    split
    · exact LOp.run_mono fun v h' nx' => ih _
    · split
      · split
        · exact LOp.run_mono fun v h' nx' => ih _
        · exact ih _
      · exact ih _
      · exact id

theorem dops_mono {h0 : Hp} {nx0 : Nat} {Q Q' : List V → List (Option Blk) → List (Option Con) → Prop} (h : ∀ a b c, Q a b c → Q' a b c) : ∀ (l : List (LOper × List Nat)) (sl : List V) (adds : List (Option Blk)) (cons : List (Option Con)), dops P h0 nx0 l sl adds cons Q → dops P h0 nx0 l sl adds cons Q'
  | [], sl, adds, cons, hd => h _ _ _ hd
  | (o, deps) :: r, sl, adds, cons, hd => by
    unfold dops at hd ⊢
    obtain ⟨d, h1, h2, h3⟩ := doper_det hd
    exact doper_of_det h1 ⟨h2, dops_mono h r _ _ _ h3⟩

theorem lwp_mono {c : LCode} : ∀ {Q Q' : LExit → St → Prop} {s : St}, (∀ e s, Q e s → Q' e s) → lwp P c Q s → lwp P c Q' s := by
  induction c with
  | skip => exact fun h hs => h _ _ hs
  | ops l => exact fun h hs => lops_mono (fun s => h _ s) l _ hs
  | draw n hd tl => exact fun h hs => ⟨hs.1, dops_mono (fun a b c hq => lops_mono (fun s => h _ s) tl _ hq) hd _ _ _ hs.2⟩
  | seq a b iha ihb =>
    intro Q Q' s h hs
    refine iha ?_ hs
    intro e s' hq
    cases e with
    | normal => obtain ⟨s'', hw, hb⟩ := hq; exact ⟨s'', hw, ihb h hb⟩
    | exit id => exact h _ _ hq
    | ret => exact h _ _ hq
  | cond c a b iha ihb =>
    intro Q Q' s h hs
    simp only [lwp] at hs ⊢
    revert hs
    split
    · split
      · exact iha h
      · exact ihb h
    · exact id
  | block id c ih =>
    intro Q Q' s h hs
    refine ih ?_ hs
    intro e s' hq
    cases e with
    | normal => exact h _ _ hq
    | exit id' =>
      simp only [blockQ] at hq ⊢
      revert hq
      split <;> exact h _ _
    | ret => exact h _ _ hq
  | loop c ih =>
    rintro Q Q' s h ⟨I, m, h0, hr⟩
    refine ⟨I, m, h0, fun s' hI => ih ?_ (hr s' hI)⟩
    intro e s'' hq
    cases e with
    | normal => exact hq
    | exit id => exact h _ _ hq
    | ret => exact h _ _ hq
  | exit id => exact fun h hs => h _ _ hs
  | ret => exact fun h hs => h _ _ hs
  | range g ps as b iha ihb =>
    intro Q Q' s h hs
    simp only [lwp] at hs ⊢
    revert hs
    split
    · intro hs rcd U hp hY
      refine (hs rcd U hp hY).mono ?_
      rintro v h' nx' _ (⟨ho, hq⟩ | ⟨ho, hq⟩ | ⟨id, ho, hq⟩)
      · exact .inl ⟨ho, h _ _ hq⟩
      · exact .inr (.inl ⟨ho, h _ _ hq⟩)
      · exact .inr (.inr ⟨id, ho, h _ _ hq⟩)
    · exact id

/-- A loop, by a family of states. -/
theorem lwp_loop {c : LCode} {ι : Type} (C : ι → Prop) (st : ι → St) (m : ι → Nat) (i0 : ι) (h0 : C i0) (hw : Wk s (st i0)) (hr : ∀ i, C i → lwp P c (roundQ C st m (m i) Q) (st i)) : lwp P (.loop c) Q s := by
  -- the measure of a state is the least that an index of it has
  have least : ∀ (p : Nat → Prop), (∃ n, p n) → ∃ n, p n ∧ ∀ k, p k → n ≤ k := by
    intro p ⟨n, hn⟩
    induction n using Nat.strongRecOn with
    | _ n ih =>
      by_cases hex : ∃ k, k < n ∧ p k
      · obtain ⟨k, hk, hp⟩ := hex; exact ih k hk hp
      · exact ⟨n, hn, fun k hk => by
          rcases Nat.lt_or_ge k n with h | h
          · exact absurd ⟨k, h, hk⟩ hex
          · exact h⟩
  refine ⟨fun s' => ∃ i, C i ∧ s' = st i, fun s' => leastOf fun n => ∃ i, C i ∧ s' = st i ∧ m i = n, ⟨st i0, hw, i0, h0, rfl⟩, ?_⟩
  rintro s' ⟨i, hi, rfl⟩
  have hl := leastOf_spec (p := fun n => ∃ j, C j ∧ st i = st j ∧ m j = n) ⟨m i, i, hi, rfl, rfl⟩
  obtain ⟨⟨j, hj, hij, hmj⟩, hmin⟩ := hl
  rw [hij]
  refine lwp_mono ?_ (hr j hj)
  intro e s'' hq
  cases e with
  | normal =>
    obtain ⟨i', hC', hm', hw'⟩ := hq
    refine ⟨st i', hw', ⟨i', hC', rfl⟩, ?_⟩
    have h2 := (leastOf_spec (p := fun n => ∃ j, C j ∧ st i' = st j ∧ m j = n) ⟨m i', i', hC', rfl, rfl⟩).2 (m i') ⟨i', hC', rfl, rfl⟩
    have h3 : leastOf (fun n => ∃ k, C k ∧ st j = st k ∧ m k = n) = m j := by
      rw [← hij, hmj]
    show leastOf (fun n => ∃ k, C k ∧ st i' = st k ∧ m k = n) < leastOf (fun n => ∃ k, C k ∧ st j = st k ∧ m k = n)
    rw [h3]
    exact Nat.lt_of_le_of_lt h2 hm'
  | exit id => exact hq
  | ret => exact hq

/-- Ways that meet again: one state for all of them. -/
theorem lwp_cut {a b : LCode} (J : St → Prop) (ha : lwp P a (fun e s' => match e with | .normal => ∃ s'', Wk s' s'' ∧ J s'' | e => Q e s') s) (hb : ∀ s', J s' → lwp P b Q s') : lwp P (.seq a b) Q s := by
  refine lwp_seq (lwp_mono ?_ ha)
  intro e s' hq
  cases e with
  | normal => obtain ⟨s'', hw, hj⟩ := hq; exact ⟨s'', hw, hb s'' hj⟩
  | exit id => exact hq
  | ret => exact hq

/-! Calls in a row of operations. -/
variable {Qs : St → Prop} {r : List LOper} {dst : Option Nat} {f : FuncId} {args : List LArg}
def callQ (P : Program) (r : List LOper) (Qs : St → Prop) (sl : List V) (dst : Option Nat) (v : V) (h : Hp) (nx : Nat) : Prop := lops P r Qs ⟨putV sl dst v, h, nx⟩
theorem lops_call (h : ACalls P f (args.map (LArg.ev s.sl)) s.h s.nx (callQ P r Qs s.sl dst)) : lops P (⟨dst, none, .call f args⟩ :: r) Qs s := h
theorem lops_callv {x : LArg} {f' : Nat} {first cap : List V} (hx : x.ev s.sl = .fn (.func f') first cap) (h : ACalls P f' (first ++ args.map (LArg.ev s.sl) ++ cap) s.h s.nx (callQ P r Qs s.sl dst)) : lops P (⟨dst, none, .callv x args⟩ :: r) Qs s := by
  unfold lops
  simp only [LOp.run, hx]
  exact h
theorem AYields.weaken {n : Nat} {args : List V} {h h2 : Hp} {nx : Nat} {R : V → Hp → Nat → Prop} (c : AYields P n args h nx R) (hle : h.le h2) : AYields P n args h2 nx R :=
  fun m K cargs hl hn hrel hv => c m K cargs hl hn (hrel.weaken hle) hv
theorem lops_yield {x : LArg} {n : Nat} (hx : x.ev s.sl = .yld n) (h : AYields P n (args.map (LArg.ev s.sl)) s.h s.nx (callQ P r Qs s.sl dst)) : lops P (⟨dst, none, .callv x args⟩ :: r) Qs s := by
  unfold lops
  simp only [LOp.run, hx]
  exact h
theorem lops_pure {h : Hp} {args' : List V} {v : V} (hp : Pure P f args' h v) (ha : args.map (LArg.ev s.sl) = args') (hh : h.has s.h) (hq : lops P r Qs ⟨putV s.sl dst v, s.h, s.nx⟩) : lops P (⟨dst, none, .call f args⟩ :: r) Qs s := by
  refine lops_call ?_
  rw [ha]
  refine (hp s.h s.nx hh).mono ?_
  rintro v' h' nx' _ ⟨rfl, rfl, rfl⟩
  exact hq
theorem lops_fresh {h : Hp} {args' : List V} {k : Sh} {es : List V} (hp : Fresh P f args' h k es) (ha : args.map (LArg.ev s.sl) = args') (hh : h.has s.h) (hq : lops P r Qs ⟨putV s.sl dst (.sl k (.tok s.nx) es), s.h.set s.nx .tip, s.nx + 1⟩) : lops P (⟨dst, none, .call f args⟩ :: r) Qs s := by
  refine lops_call ?_
  rw [ha]
  refine (hp.2 s.h s.nx hh).mono ?_
  rintro v' h' nx' _ ⟨rfl, rfl, rfl⟩
  exact hq
theorem lops_purev {x : LArg} {f' : Nat} {first cap : List V} (hx : x.ev s.sl = .fn (.func f') first cap) {h : Hp} {args' : List V} {v : V} (hp : Pure P f' args' h v) (ha : first ++ args.map (LArg.ev s.sl) ++ cap = args') (hh : h.has s.h) (hq : lops P r Qs ⟨putV s.sl dst v, s.h, s.nx⟩) : lops P (⟨dst, none, .callv x args⟩ :: r) Qs s := by
  refine lops_callv hx ?_
  rw [ha]
  refine (hp s.h s.nx hh).mono ?_
  rintro v' h' nx' _ ⟨rfl, rfl, rfl⟩
  exact hq
/-- A guarded call. -/
theorem lops_guard {t : Nat} {want b : Bool} {op : LOp} (hb : s.sl.getD t V.undef = .bool b) (h1 : b = want → lops P (⟨dst, none, op⟩ :: r) Qs s) (h2 : b ≠ want → lops P r Qs ⟨putV s.sl dst V.undef, s.h, s.nx⟩) : lops P (⟨dst, some (t, want), op⟩ :: r) Qs s := by
  unfold lops
  simp only [hb]
  split
  · rename_i e; exact h1 e
  · rename_i e; exact h2 e
theorem lops_guard_no {t : Nat} {want : Bool} {op : LOp} (hb : s.sl.getD t V.undef = .tup []) (h2 : lops P r Qs ⟨putV s.sl dst V.undef, s.h, s.nx⟩) : lops P (⟨dst, some (t, want), op⟩ :: r) Qs s := by
  unfold lops
  simp only [hb]
  exact h2
end

end Go.Proofs.Ythcedfamidlbdaa
