/-
A region that draws its order, in which memory is made: each operation of the head is shown by itself, in whatever world the others may have left; what follows is walked once. Conditions: closed tests of the region; no guards in the head.
-/
import Derived.Test.YtlieklclckenoaaMem
import Derived.StillTailTactics
import Derived.WalkKit
namespace Go.Proofs.Ytlieklclckenoaa
open Go.RowKit
section
variable {P : Program} {ops : Array Oper}

/-- What an operation yields. -/
def yieldsUpon (P : Program) (R : Value → World → Prop) : Result Next → Prop
  | .ok (.value v) w' => R v w'
  | .ok .skip w' => R undef w'
  | .ok (.enter f args) w' => Calls P f args w' (fun e w'' => ∃ v, e = .returned v ∧ R v w'')
  | _ => False
def opYields (P : Program) (o : Oper) (a : Act) (w : World) (R : Value → World → Prop) : Prop := yieldsUpon P R ((execOp a.eval o).run P w)

theorem wp_of_yields {o : Oper} {a : Act} {w : World} {R : Value → World → Prop} {K : Act → World → Prop} {Q : Exit → Act → World → Prop} (h : opYields P o a w R) (hK : ∀ v w', R v w' → K (a.put o.dst v) w') : o.wp P a w K Q := by
  unfold opYields at h
  unfold Oper.wp
  generalize (execOp a.eval o).run P w = r at *
  cases r with
  | ok n w' =>
    cases n <;> simp only [yieldsUpon] at h <;> simp only [Oper.upon]
    case value u => exact hK _ _ h
    case skip => exact hK _ _ h
    case enter f args => exact h.mono fun e w'' ⟨v, he, hr⟩ => by subst he; exact hK _ _ hr
  | halt x w' => simp only [yieldsUpon] at h

def slotOf (ops : Array Oper) (i : Nat) : Nat := ((ops[i]?).bind (·.dst)).getD 0
def depsOf (ops : Array Oper) (n i : Nat) : List Nat := ((ops[i]?).map fun o => (o.after.toList.filter (fun e => Region.binds .any e && decide (e.on < n))).map (·.on)).getD []
def actAt (a0 : Act) (ops : Array Oper) (v : Nat → Value) : List Nat → Act
  | [] => a0
  | d :: ds => (actAt a0 ops v ds).put (some (slotOf ops d)) (v d)

theorem actAt_size (a0 : Act) (v : Nat → Value) : ∀ ds, (actAt a0 ops v ds).tmps.size = a0.tmps.size ∧ (actAt a0 ops v ds).defers = a0.defers
  | [] => ⟨rfl, rfl⟩
  | d :: ds => by
    obtain ⟨h1, h2⟩ := actAt_size a0 v ds
    exact ⟨by simp [actAt, Act.put, h1], by simp [actAt, Act.put, h2]⟩

theorem actAt_get (a0 : Act) (f : Nat → Value) (t : Nat) : ∀ ds : List Nat, (∀ d ∈ ds, slotOf ops d < a0.tmps.size) →
    (actAt a0 ops (fun d => f (slotOf ops d)) ds).tmps.getD t undef = if t ∈ ds.map (slotOf ops) then f t else a0.tmps.getD t undef
  | [], _ => by simp [actAt]
  | d :: ds, h => by
    have ih := actAt_get a0 f t ds (fun x hx => h x (by simp [hx]))
    have hs := (actAt_size (ops := ops) a0 (fun d => f (slotOf ops d)) ds).1
    have hd := h d (by simp)
    show (((actAt a0 ops (fun d => f (slotOf ops d)) ds).tmps.setIfInBounds (slotOf ops d) (f (slotOf ops d))).getD t undef) = _
    by_cases ht : slotOf ops d = t
    · subst ht
      simp [Array.getD, hs, hd]
    · have e1 : ((actAt a0 ops (fun d => f (slotOf ops d)) ds).tmps.setIfInBounds (slotOf ops d) (f (slotOf ops d))).getD t undef = (actAt a0 ops (fun d => f (slotOf ops d)) ds).tmps.getD t undef := by
        simp only [Array.getD_eq_getD_getElem?]
        rw [Array.getElem?_setIfInBounds_ne ht]
      rw [e1, ih]
      simp [Ne.symm ht]

/-- The closed tests. -/
def freeB (ops : Array Oper) (n : Nat) (dies : List (Nat × List Nat)) : Bool :=
  Region.noSelect ops && (decide (n = ops.size) || (decide (n < ops.size) && Region.sinkB .any ops n && Region.chainB .any ops n)) &&
  Region.seqB .any ops (ops.size - n) n ((List.range ops.size).map (fun i => decide (i < n))).toArray &&
  (List.range n).all (fun i => match ops[i]? with
    | some o => o.dst.isSome && o.guard.isNone && (o.after.toList.all fun e => !Region.binds .any e || decide (e.on < i)) && (o.op.operands.toList.filterMap fun | .tmp t => some t | _ => none).all (fun t => (List.range n).all fun j => slotOf ops j != t || (depsOf ops n i).contains j)
    | none => false) &&
  (List.range n).all (fun i => (List.range n).all fun j => i == j || slotOf ops i != slotOf ops j) &&
  (dies.all fun (i, js) => js.all fun j => (List.range n).all fun k => !(depsOf ops n k).contains j || k == i || (depsOf ops n i).contains k)

def diesAt (dies : List (Nat × List Nat)) (i : Nat) : List Nat := (dies.lookup i).getD []

structure FreeInv (ops : Array Oper) (n : Nat) (dies : List (Nat × List Nat)) (Φ : Nat → Value → World → Prop) (B : World → Prop) (a0 : Act) (listed : Array Bool) (a : Act) (w : World) : Prop where
  head : HeadInv .any ops n listed
  size : a.tmps.size = a0.tmps.size
  defers : a.defers = a0.defers
  frame : ∀ t, (∀ i, i < n → slotOf ops i ≠ t) → a.tmps.getD t undef = a0.tmps.getD t undef
  base : B w
  vals : ∀ j, j < n → listed.getD j false = true → (∀ i, i < n → listed.getD i false = true → j ∉ diesAt dies i) → Φ j (a.tmps.getD (slotOf ops j) undef) w

theorem filter_same (p q : Nat → Bool) (i : Nat) (hpq : ∀ x, x ≠ i → q x = p x) : ∀ l : List Nat, i ∉ l → l.filter q = l.filter p
  | [], _ => rfl
  | x :: l, h => by
    simp only [List.mem_cons, not_or] at h
    rw [List.filter_cons, List.filter_cons, filter_same p q i hpq l h.2, hpq x (fun e => h.1 e.symm)]
theorem filter_one (p q : Nat → Bool) (i : Nat) (hp : p i = true) (hq : q i = false) (hpq : ∀ x, x ≠ i → q x = p x) : ∀ l : List Nat, l.Nodup → i ∈ l → (l.filter p).length = (l.filter q).length + 1
  | [], _, h => by cases h
  | x :: l, hnd, h => by
    rw [List.nodup_cons] at hnd
    by_cases hx : x = i
    · subst hx
      rw [List.filter_cons, List.filter_cons, hp, hq, filter_same p q x hpq l hnd.1]
      simp
    · have hm : i ∈ l := by
        rcases List.mem_cons.1 h with h | h
        · exact absurd h.symm hx
        · exact h
      have ih := filter_one p q i hp hq hpq l hnd.2 hm
      rw [List.filter_cons, List.filter_cons, hpq x hx]
      cases p x <;> simp [ih]

theorem readyOf {n : Nat} {listed : Array Bool} {k : Nat} (hops : ∀ x, x < n → (match ops[x]? with
        | some o => o.dst.isSome && o.guard.isNone && (o.after.toList.all fun e => !Region.binds .any e || decide (e.on < x)) && (o.op.operands.toList.filterMap fun | .tmp t => some t | _ => none).all (fun t => (List.range n).all fun j => slotOf ops j != t || (depsOf ops n x).contains j)
        | none => false) = true) (inv : HeadInv .any ops n listed) (hk : k < n) (hn : n ≤ ops.size) (hun : listed.getD k true = false) (hl : ∀ j, j < k → listed.getD j true = true) : k ∈ Region.ready .any ops listed := by
  have ho := hops k hk
  obtain ⟨o, hok⟩ : ∃ o, ops[k]? = some o := ⟨ops[k], Array.getElem?_eq_getElem (by omega)⟩
  rw [hok] at ho
  simp only [Bool.and_eq_true, List.all_eq_true] at ho
  refine mem_ready.2 ⟨hun, o, hok, fun e he hb => ?_⟩
  have h := ho.1.2 e (Array.mem_toList_iff.2 he)
  simp only [hb, Bool.not_true, Bool.false_or, decide_eq_true_eq] at h
  have h2 := hl e.on h
  have hs : e.on < listed.size := by rw [inv.size]; omega
  rw [Array.getD_eq_getD_getElem?, Array.getElem?_eq_getElem hs] at h2 ⊢
  exact h2

theorem wpAny_free {Q : Exit → Act → World → Prop} {a0 : Act} {n : Nat} {dies : List (Nat × List Nat)} {Φ : Nat → Value → World → Prop} {B : World → Prop}
    (hB : freeB ops n dies = true) (hslots : ∀ i, i < n → slotOf ops i < a0.tmps.size)
    (hst : ∀ j, j < n → ∀ v w w', Φ j v w → Only (fun _ => False) w w' → Φ j v w')
    (hop : ∀ i, i < n → ∀ o, ops[i]? = some o → ∀ (v : Nat → Value) w, B w → (∀ d ∈ depsOf ops n i, Φ d (v d) w) →
      opYields P o (actAt a0 ops v (depsOf ops n i)) w (fun u w' => B w' ∧ Φ i u w' ∧ (Only (fun _ => False) w w' ∨ ∀ j, j < n → j ≠ i → j ∉ diesAt dies i → ∀ x, Φ j x w → Φ j x w')))
    (hend : ∀ (v : Nat → Value) w, B w → (∀ j, j < n → (∀ i, i < n → j ∉ diesAt dies i) → Φ j (v j) w) → wpList P ops Q (ops.toList.drop n) (actAt a0 ops v (List.range n)) w) :
    ∀ (f : Nat) (listed : Array Bool) (a : Act) (w : World), f = ((List.range n).filter fun i => !listed.getD i true).length → FreeInv ops n dies Φ B a0 listed a w →
      wpAny P .any ops Q (f + (ops.size - n)) listed a w := by
  simp only [freeB, Bool.and_eq_true, List.all_eq_true, List.mem_range, Bool.or_eq_true, decide_eq_true_eq] at hB
  obtain ⟨⟨⟨⟨⟨hsel, hshape⟩, hseq⟩, hops⟩, hdist⟩, hdies⟩ := hB
  have hnle : n ≤ ops.size := by rcases hshape with h | ⟨⟨h, _⟩, _⟩ <;> omega
  intro f
  induction f with
  | zero =>
    intro listed a w hf inv
    have hall : ∀ i, i < n → listed.getD i true = true := by
      intro i hi
      have hz := List.eq_nil_of_length_eq_zero hf.symm
      rw [List.filter_eq_nil_iff] at hz
      have := hz i (List.mem_range.2 hi)
      simpa using this
    have hlist : listed = ((List.range ops.size).map (fun i => decide (i < n))).toArray := by
      apply Array.ext
      · simp [inv.head.size]
      · intro i h1 h2
        have hi : i < ops.size := by simpa [inv.head.size] using h1
        by_cases hin : i < n
        · have := hall i hin
          rw [Array.getD_eq_getD_getElem?, Array.getElem?_eq_getElem h1] at this
          simpa [hin] using this
        · have := inv.head.tail i (by omega) hi
          rw [Array.getD_eq_getD_getElem?, Array.getElem?_eq_getElem h1] at this
          simpa [hin] using this
    have hvals : a = actAt a0 ops (fun d => a.tmps.getD (slotOf ops d) undef) (List.range n) := by
      have hs := actAt_size (ops := ops) a0 (fun d => a.tmps.getD (slotOf ops d) undef) (List.range n)
      have hg := fun t => actAt_get (ops := ops) a0 (fun t => a.tmps.getD t undef) t (List.range n) (fun d hd => hslots d (List.mem_range.1 hd))
      have e1 : a.tmps = (actAt a0 ops (fun d => a.tmps.getD (slotOf ops d) undef) (List.range n)).tmps := by
        apply Array.ext
        · rw [hs.1, inv.size]
        · intro t h1 h2
          have h3 := hg t
          have key : a.tmps.getD t undef = (actAt a0 ops (fun d => a.tmps.getD (slotOf ops d) undef) (List.range n)).tmps.getD t undef := by
            rw [h3]
            by_cases hn : t ∈ (List.range n).map (slotOf ops)
            · rw [if_pos hn]
            · rw [if_neg hn]
              exact inv.frame t (fun i hi he => hn (List.mem_map.2 ⟨i, List.mem_range.2 hi, he⟩))
          rw [Array.getD_eq_getD_getElem?, Array.getD_eq_getD_getElem?, Array.getElem?_eq_getElem h1, Array.getElem?_eq_getElem h2] at key
          exact key
      have e2 : a.defers = (actAt a0 ops (fun d => a.tmps.getD (slotOf ops d) undef) (List.range n)).defers := by rw [hs.2, inv.defers]
      calc a = ⟨a.tmps, a.defers⟩ := rfl
        _ = _ := by rw [e2]; exact congrArg (fun x => (⟨x, _⟩ : Act)) e1
    have h := hend (fun d => a.tmps.getD (slotOf ops d) undef) w inv.base (fun j hj hd => inv.vals j hj (by
      have := hall j hj
      have hjs : j < listed.size := by rw [inv.head.size]; omega
      simp only [Array.getD, hjs, dif_pos] at this ⊢
      exact this) (fun i hi _ => hd i hi))
    rw [← hvals] at h
    have hl : (ops.toList.drop n).length = ops.size - n := by simp
    rw [Nat.zero_add]
    have := wpAny_of_seq (P := P) (md := .any) (Q' := Q) (ops.toList.drop n) n listed a w (fun j => by simp [List.getElem?_drop]) (by rw [hl, hlist]; exact hseq) h
    rwa [hl] at this
  | succ f ih =>
    intro listed a w hf inv
    have hex : ∃ i, i < n ∧ listed.getD i true = false := by
      have hne : ((List.range n).filter fun i => !listed.getD i true) ≠ [] := by intro h; rw [h] at hf; simp at hf
      obtain ⟨i, hi⟩ := List.exists_mem_of_ne_nil _ hne
      rw [List.mem_filter, List.mem_range] at hi
      exact ⟨i, hi.1, by simpa using hi.2⟩
    obtain ⟨i0, hi0, hun0⟩ := hex
    have hhead : ∀ j ∈ Region.ready .any ops listed, j < n := by
      intro j hj
      rcases hshape with h | ⟨⟨h, hs⟩, hc⟩
      · obtain ⟨_, o, ho, _⟩ := mem_ready.1 hj
        have := (Array.getElem?_eq_some_iff.1 ho).1
        omega
      · rcases Nat.lt_or_ge j n with h' | h'
        · exact h'
        · exact absurd hj (tail_waits hs hc h inv.head _ i0 rfl hi0 hun0 j h')
    have hready : Region.ready .any ops listed ≠ [] := by
      have least : ∀ k, k ≤ i0 → (∀ j, j < k → listed.getD j true = true) → ∃ i, i < n ∧ i ∈ Region.ready .any ops listed := by
        intro k hk
        induction hd : i0 - k generalizing k with
        | zero =>
          intro hl
          have hki : k = i0 := by omega
          subst hki
          exact ⟨k, hi0, readyOf hops inv.head hi0 hnle hun0 hl⟩
        | succ d ihd =>
          intro hl
          by_cases hu : listed.getD k true = true
          · exact ihd (k + 1) (by omega) (by omega) (fun j hj => by
              by_cases hjk : j = k
              · subst hjk; exact hu
              · exact hl j (by omega))
          · exact ⟨k, by omega, readyOf hops inv.head (by omega) hnle (by simpa using hu) hl⟩
      obtain ⟨i, _, hi⟩ := least 0 (by omega) (fun j hj => by omega)
      intro h
      rw [h] at hi
      cases hi
    rw [show f + 1 + (ops.size - n) = (f + (ops.size - n)) + 1 by omega]
    refine ⟨fun h => absurd h hready, fun i hi => ?_⟩
    have hin := hhead i hi
    obtain ⟨hun, o, ho, hall⟩ := mem_ready.1 hi
    have hopi := hops i hin
    simp only [ho, Bool.and_eq_true, List.all_eq_true, Option.isSome_iff_exists, Option.isNone_iff_eq_none] at hopi
    obtain ⟨⟨⟨⟨t, hdst⟩, hguard⟩, hlt⟩, hlook⟩ := hopi
    have hslot : slotOf ops i = t := by simp [slotOf, ho, hdst]
    have hdepsmem : ∀ d, d ∈ depsOf ops n i → d < n ∧ listed.getD d false = true := by
      intro d hd
      simp only [depsOf, ho, Option.map_some, Option.getD_some, List.mem_map, List.mem_filter, Bool.and_eq_true, decide_eq_true_eq] at hd
      obtain ⟨e, ⟨he, hb, hn⟩, rfl⟩ := hd
      exact ⟨hn, hall e (Array.mem_toList_iff.1 he) hb⟩
    -- no listed operation has ended what a dependence says
    have hlive : ∀ d, d ∈ depsOf ops n i → ∀ i', i' < n → listed.getD i' false = true → d ∉ diesAt dies i' := by
      intro d hd i' hi' hl' hmem
      unfold diesAt at hmem
      cases hlk : dies.lookup i' with
      | none => rw [hlk] at hmem; cases hmem
      | some js =>
        rw [hlk] at hmem
        have hpair : (i', js) ∈ dies := by
          have := List.lookup_eq_some_iff.1 hlk
          obtain ⟨l1, l2, hl12, _⟩ := this
          rw [hl12]; simp
        rcases hdies (i', js) hpair d hmem i hin with (h | h) | h
        · have hc : (depsOf ops n i).contains d = true := List.contains_iff_mem.2 hd
          rw [hc] at h; cases h
        · have : i = i' := by simpa using h
          subst this
          rw [getD_both hun] at hl'
          cases hl'
        · -- i is a dependence of i', which is listed: so i is
          have hd' : i ∈ depsOf ops n i' := List.contains_iff_mem.1 h
          cases hoi' : ops[i']? with
          | none => simp [depsOf, hoi'] at hd'
          | some o' =>
            simp only [depsOf, hoi', Option.map_some, Option.getD_some, List.mem_map, List.mem_filter, Bool.and_eq_true, decide_eq_true_eq] at hd'
            obtain ⟨e, ⟨he, hb, hn⟩, hei⟩ := hd'
            have := inv.head.closed i' o' hoi' hl' e (Array.mem_toList_iff.1 he) hb
            rw [hei, getD_both hun] at this
            cases this
    have hdepΦ : ∀ d ∈ depsOf ops n i, Φ d (a.tmps.getD (slotOf ops d) undef) w := fun d hd =>
      inv.vals d (hdepsmem d hd).1 (hdepsmem d hd).2 (hlive d hd)
    have hy := hop i hin o ho (fun d => a.tmps.getD (slotOf ops d) undef) w inv.base hdepΦ
    have hg := fun t => actAt_get (ops := ops) a0 (fun t => a.tmps.getD t undef) t (depsOf ops n i) (fun d hd => hslots d (hdepsmem d hd).1)
    have hcongr : execOp a.eval o = execOp (actAt a0 ops (fun d => a.tmps.getD (slotOf ops d) undef) (depsOf ops n i)).eval o := by
      refine execOp_congr o (fun cs b => Region.noSelect_spec hsel i o cs b ho) (fun x hx => ?_)
      cases x with
      | tmp t' =>
        show a.tmps.getD t' undef = (actAt a0 ops (fun d => a.tmps.getD (slotOf ops d) undef) (depsOf ops n i)).tmps.getD t' undef
        rw [hg t']
        by_cases hm : t' ∈ (depsOf ops n i).map (slotOf ops)
        · rw [if_pos hm]
        · rw [if_neg hm]
          refine inv.frame t' (fun j hj hs => hm ?_)
          have h1 := hlook t' (List.mem_filterMap.2 ⟨.tmp t', by simpa using hx, rfl⟩)
          have h2 := h1 j (List.mem_range.2 hj)
          simp only [Bool.or_eq_true, bne_iff_ne, ne_eq, List.contains_iff_mem] at h2
          rcases h2 with h2 | h2
          · exact absurd hs h2
          · exact List.mem_map.2 ⟨j, h2, hs⟩
      | const v => rfl
      | global g => rfl
      | func g => rfl
    unfold wpOp
    simp only [ho]
    rw [if_pos (by simp [Region.wanted, hguard])]
    refine .inl (wp_of_yields (R := fun u w' => B w' ∧ Φ i u w' ∧ (Only (fun _ => False) w w' ∨ ∀ j, j < n → j ≠ i → j ∉ diesAt dies i → ∀ x, Φ j x w → Φ j x w')) (by unfold opYields at hy ⊢; rw [hcongr]; exact hy) ?_)
    rintro u w' ⟨hb', hΦ, hkeep⟩
    refine ih _ _ _ ?_ ?_
    · have hils : i < listed.size := by rw [inv.head.size]; exact (Array.getElem?_eq_some_iff.1 ho).1
      have := filter_one (fun x => !listed.getD x true) (fun x => !(listed.setIfInBounds i true).getD x true) i (by simpa using hun) (by simp [Array.getD, hils]) (fun x hx => by rw [getD_set_ne true (fun e => hx e.symm)]) (List.range n) List.nodup_range (List.mem_range.2 hin)
      omega
    · have hils : i < listed.size := by rw [inv.head.size]; exact (Array.getElem?_eq_some_iff.1 ho).1
      have hput : a.put o.dst u = { a with tmps := a.tmps.setIfInBounds t u } := by rw [hdst]; rfl
      rw [hput]
      refine ⟨inv.head.set hi hin, by simp [inv.size], inv.defers, ?_, hb', ?_⟩
      · intro t' ht'
        have hne : t ≠ t' := fun e => ht' i hin (by rw [hslot, e])
        have := inv.frame t' ht'
        simp only [Array.getD_eq_getD_getElem?] at this ⊢
        rw [Array.getElem?_setIfInBounds_ne hne]
        exact this
      · intro j hj hlj hdj
        by_cases hji : j = i
        · subst hji
          have hts : t < a.tmps.size := by rw [inv.size, ← hslot]; exact hslots j hj
          rw [hslot]
          have : (a.tmps.setIfInBounds t u).getD t undef = u := by simp [Array.getD, hts]
          show Φ j ((a.tmps.setIfInBounds t u).getD t undef) w'
          rw [this]
          exact hΦ
        · have hlj' : listed.getD j false = true := by
            rw [getD_set_ne false (fun e => hji e.symm)] at hlj; exact hlj
          have hΦj := inv.vals j hj hlj' (fun i' hi' hl' => hdj i' hi' (getD_set_true hl'))
          have hne : t ≠ slotOf ops j := by
            rw [← hslot]
            rcases hdist i hin j hj with h | h
            · exact absurd (by simpa using h) (fun e : i = j => hji e.symm)
            · simpa using h
          have hval : (a.tmps.setIfInBounds t u).getD (slotOf ops j) undef = a.tmps.getD (slotOf ops j) undef := by
            simp only [Array.getD_eq_getD_getElem?]
            rw [Array.getElem?_setIfInBounds_ne hne]
          show Φ j ((a.tmps.setIfInBounds t u).getD (slotOf ops j) undef) w'
          rw [hval]
          rcases hkeep with hkeep | hkeep
          · exact hst j hj _ _ _ hΦj hkeep
          · exact hkeep j hj hji (hdj i hin (by simp [Array.getD, hils])) _ hΦj

/-- **The region.** -/
theorem wp_region_free {id : Nat} {Q : Exit → Act → World → Prop} {a0 : Act} {w : World} {l : List Oper} (n : Nat) (dies : List (Nat × List Nat)) (Φ : Nat → Value → World → Prop) (B : World → Prop) (hm : P.follows .mixedOrders = true)
    (hB : freeB l.toArray n dies = true) (hslots : (List.range n).all (fun i => decide (slotOf l.toArray i < a0.tmps.size)) = true) (hw : B { w with drawn := w.drawn + 1 })
    (hst : ∀ j, j < n → ∀ v w w', Φ j v w → Only (fun _ => False) w w' → Φ j v w')
    (hop : ∀ i, i < n → ∀ o, l.toArray[i]? = some o → ∀ (v : Nat → Value) w, B w → (∀ d ∈ depsOf l.toArray n i, Φ d (v d) w) →
      opYields P o (actAt a0 l.toArray v (depsOf l.toArray n i)) w (fun u w' => B w' ∧ Φ i u w' ∧ (Only (fun _ => False) w w' ∨ ∀ j, j < n → j ≠ i → j ∉ diesAt dies i → ∀ x, Φ j x w → Φ j x w')))
    (hend : ∀ (v : Nat → Value) w, B w → (∀ j, j < n → (∀ i, i < n → j ∉ diesAt dies i) → Φ j (v j) w) → wpList P l.toArray Q (l.drop n) (actAt a0 l.toArray v (List.range n)) w) :
    (Code.region id l.toArray true).wp P Q a0 w := by
  have hn : n ≤ l.toArray.size := by
    have := hB
    simp only [freeB, Bool.and_eq_true, Bool.or_eq_true, decide_eq_true_eq] at this
    obtain ⟨⟨⟨⟨⟨_, h⟩, _⟩, _⟩, _⟩, _⟩ := this
    rcases h with h | ⟨⟨h, _⟩, _⟩ <;> omega
  refine wp_region_any hm ?_
  have inv : FreeInv l.toArray n dies Φ B a0 (Array.replicate l.toArray.size false) a0 { w with drawn := w.drawn + 1 } :=
    ⟨⟨by simp, fun j oj _ hl => (by rw [getD_replicate_false] at hl; cases hl), fun t _ ht => getD_in (by simpa using ht) (getD_replicate_false _ _)⟩, rfl, rfl, fun _ _ => rfl, hw,
      fun j _ hl => by rw [getD_replicate_false] at hl; cases hl⟩
  have h := wpAny_free (Q := Q) hB (fun i hi => by simpa using List.all_eq_true.1 hslots i (List.mem_range.2 hi)) hst hop (by simpa using hend) n _ _ _ ?_ inv
  · rwa [show n + (l.toArray.size - n) = l.toArray.size by omega] at h
  · have e : (List.range n).filter (fun i => !(Array.replicate l.toArray.size false).getD i true) = List.range n := by
      rw [List.filter_eq_self]
      intro x hx
      have : x < l.toArray.size := by have := List.mem_range.1 hx; omega
      simp only [List.size_toArray] at this
      simp [Array.getD, this]
    rw [e]; simp

/-- What an operation of the head is said to hand over: this value · a literal without elements · a slice that the call owns · a slice that reads so. -/
inductive Sp where
  | eq (v : Value)
  | fresh (base : Nat) (e : TypeId) (size : Nat)
  | own (base : Nat) (e : TypeId) (size n : Nat) (xs : List Value)
  | rd (e : TypeId) (size n : Nat) (xs : List Value)

def Sp.holds : Sp → Value → World → Prop
  | .eq u, v, _ => v = u
  | .fresh base e size, v, w => w.ownsRow base e size v 0 [] ∧ ∃ g : Option Nat, v = .slice (g.map fun g => ⟨g, 0, none⟩) 0 0
  | .own base e size n xs, v, w => w.ownsRow base e size v n xs
  | .rd e size n xs, v, w => Reads w e size v n xs
def Sp.isEq : Sp → Bool | .eq _ => true | _ => false

theorem Sp.stays {s : Sp} {v : Value} {w w' : World} (h : s.holds v w) (k : Only (fun _ => False) w w') : s.holds v w' := by
  cases s with
  | eq u => exact h
  | fresh base e size => exact ⟨ownsRow_only h.1 k (fun _ _ hf => hf), h.2⟩
  | own base e size n xs => exact ownsRow_only (S := fun _ => False) h k (fun _ _ hf => hf)
  | rd e size n xs => exact Reads.pure h k

def spAt (sp : List Sp) (i : Nat) : Sp := sp.getD i (.eq undef)

/-- An operation that writes into a row of the call's own: all that is said of other new memory ends there. -/
def endsB (sp : List Sp) (n : Nat) (dies : List (Nat × List Nat)) (i : Nat) : Bool := (List.range n).all fun j => j == i || (diesAt dies i).contains j || (spAt sp j).isEq

theorem wp_region_sp {id : Nat} {Q : Exit → Act → World → Prop} {a0 : Act} {w : World} {l : List Oper} (Bd : Nat) (n : Nat) (dies : List (Nat × List Nat)) (sp : List Sp) (hm : P.follows .mixedOrders = true)
    (hB : freeB l.toArray n dies = true) (hslots : (List.range n).all (fun i => decide (slotOf l.toArray i < a0.tmps.size)) = true)
    (hop : ∀ i, i < n → ∀ o, l.toArray[i]? = some o → ∀ (v : Nat → Value) w1, Only (fun k => Bd ≤ k) w w1 → (∀ d ∈ depsOf l.toArray n i, (spAt sp d).holds (v d) w1) →
      opYields P o (actAt a0 l.toArray v (depsOf l.toArray n i)) w1 (fun u w' => Only (fun k => Bd ≤ k) w w' ∧ (spAt sp i).holds u w' ∧ (Only (fun _ => False) w1 w' ∨ endsB sp n dies i = true)))
    (hend : ∀ (v : Nat → Value) w1, Only (fun k => Bd ≤ k) w w1 → (∀ j, j < n → (∀ i, i < n → j ∉ diesAt dies i) → (spAt sp j).holds (v j) w1) → wpList P l.toArray Q (l.drop n) (actAt a0 l.toArray v (List.range n)) w1) :
    (Code.region id l.toArray true).wp P Q a0 w := by
  refine wp_region_free n dies (fun i v w' => (spAt sp i).holds v w') (fun w' => Only (fun k => Bd ≤ k) w w') hm hB hslots ((Only.refl _ w).drew) (fun j _ v w1 w2 h k => Sp.stays h k) ?_ hend
  intro i hi o ho v w1 hb hd
  have h := hop i hi o ho v w1 hb hd
  unfold opYields at h ⊢
  have mono : ∀ u w', (Only (fun k => Bd ≤ k) w w' ∧ (spAt sp i).holds u w' ∧ (Only (fun _ => False) w1 w' ∨ endsB sp n dies i = true)) →
      (Only (fun k => Bd ≤ k) w w' ∧ (spAt sp i).holds u w' ∧ (Only (fun _ => False) w1 w' ∨ ∀ j, j < n → j ≠ i → j ∉ diesAt dies i → ∀ x, (spAt sp j).holds x w1 → (spAt sp j).holds x w')) := by
    rintro u w' ⟨h1, h2, h3⟩
    refine ⟨h1, h2, h3.imp (fun h => h) (fun he j hj hji hjd x hx => ?_)⟩
    have := List.all_eq_true.1 he j (List.mem_range.2 hj)
    simp only [Bool.or_eq_true, beq_iff_eq, List.contains_iff_mem] at this
    rcases this with (h | h) | h
    · exact absurd h hji
    · exact absurd h hjd
    · cases hs : spAt sp j with
      | eq u => rw [hs] at hx; exact hx
      | fresh _ _ _ => rw [hs] at h; cases h
      | own _ _ _ _ _ => rw [hs] at h; cases h
      | rd _ _ _ _ => rw [hs] at h; cases h
  generalize (execOp (actAt a0 l.toArray v (depsOf l.toArray n i)).eval o).run P w1 = r at h ⊢
  cases r with
  | ok nx w' =>
    cases nx <;> simp only [yieldsUpon] at h ⊢
    case value u => exact mono _ _ h
    case skip => exact mono _ _ h
    case enter f args => exact h.mono fun e w'' ⟨x, he, hr⟩ => ⟨x, he, mono _ _ hr⟩
  | halt x w' => simp only [yieldsUpon] at h

/-! ### One operation: append -/
section
variable {o : Oper} {a : Act} {w0 w : World} {Bd : Nat} {E : Prop} (s x : Operand) (t : TypeId) (ho : o.op = .call { callee := .builtin .append, args := #[s, x], argTypes := #[t, t] })
  (base : Nat) (e : TypeId) (i : TypeInfo) (z : Value) (size bytes : Nat) (ht : P.underlying t = some (.slice e)) (hi : P.info? e = some i) (hz : i.zero = some z)
  (hsize : i.size = size) (hby : i.bytes = bytes) (hzs : z.cells.size = size) (hsz : 0 < size)
include ho ht hi hz hsize hby hzs hsz

theorem yields_append_pure (hB : Only (fun k => Bd ≤ k) w0 w) (v : Value) (hs : a.eval s = v) (hv : (Sp.fresh base e size).holds v w) (y : Value) (m : Nat) (ys : List Value) (hx : a.eval x = y) (hy : Reads w e size y m ys)
    (h63 : m ≤ maxLen) (hbytes : m * bytes ≤ 140737488355328) (hbase : base ≤ w.heap.size) :
    opYields P o a w (fun u w' => Only (fun k => Bd ≤ k) w0 w' ∧ (Sp.own base e size m ys).holds u w' ∧ (Only (fun _ => False) w w' ∨ E)) := by
  obtain ⟨v', w', hr, h2, h3⟩ := run_append_pure (P := P) w base t o.type e i z size bytes ht hi hz hsize hby hzs hsz v hv.2 hv.1 y m ys hy h63 hbytes hbase
  unfold opYields execOp
  simp only [ho, resolve, invoke, builtin, Sem.run_bind, Sem.run_pure, Result.andThen_ok, List.map_toArray, List.map_cons, List.map_nil, hs, hx, hr]
  exact ⟨hB.trans (h3.mono (fun _ _ hf => hf.elim)), h2, .inl h3⟩

theorem yields_append_own (hB : Only (fun k => Bd ≤ k) w0 w) (v : Value) (n : Nat) (xs : List Value) (hs : a.eval s = v) (hv : w.ownsRow base e size v n xs) (y : Value) (m : Nat) (ys : List Value) (hx : a.eval x = y) (hy : Reads w e size y m ys)
    (h63 : n + m ≤ maxLen) (hbytes : (n + m) * bytes ≤ 140737488355328) (hbase : base ≤ w.heap.size) (hbd : Bd ≤ base) (hE : E) :
    opYields P o a w (fun u w' => Only (fun k => Bd ≤ k) w0 w' ∧ (Sp.own base e size (n + m) (xs ++ ys)).holds u w' ∧ (Only (fun _ => False) w w' ∨ E)) := by
  obtain ⟨v', w', hr, h2, h3, -⟩ := run_append_reads (P := P) w base t o.type e i z size bytes ht hi hz hsize hby hzs hsz v n xs hv y m ys hy h63 hbytes hbase
  unfold opYields execOp
  simp only [ho, resolve, invoke, builtin, Sem.run_bind, Sem.run_pure, Result.andThen_ok, List.map_toArray, List.map_cons, List.map_nil, hs, hx, hr]
  exact ⟨hB.grown h3 (fun k hk => .inr (Nat.le_trans hbd (hv.lt k hk).1)), h2, .inr hE⟩
end
end
end Go.Proofs.Ytlieklclckenoaa
