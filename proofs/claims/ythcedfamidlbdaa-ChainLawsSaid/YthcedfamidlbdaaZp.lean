/-
The abstract layer, sixteenth part: a region that draws its order does what the text's order does. No program in sight. Conditions: a closed test of the region.
-/
import Derived.Test.YthcedfamidlbdaaZo
namespace Go.Proofs.Ythcedfamidlbdaa
set_option linter.unusedSimpArgs false
set_option linter.unusedVariables false
set_option linter.unusedSectionVars false
open Go.RowKit

def zdst (ops : Array Oper) (i : Nat) : Option Nat := (ops[i]?).bind (·.dst)
def zdeps (ops : Array Oper) (n i : Nat) : List Nat := ((ops[i]?).map fun o => (o.after.toList.filter (fun e => Region.binds .any e && decide (e.on < n))).map (·.on)).getD []
/-- Where the loads ahead look that need not be done before. -/
def zfloat (ops : Array Oper) (n j : Nat) : List LArg :=
  (List.range j).filterMap fun i => match ops[i]? with
    | some o => match o.op with
      | .load _ (.tmp t) => if (zdeps ops n j).contains i then none else some (LArg.slot t)
      | _ => none
    | none => none
def LOp.widen (w : Bool) (fl : List LArg) : LOp → LOp
  | .call f args => if w then .callw f args fl else .call f args
  | o => o
def LOper.widen (w : Bool) (fl : List LArg) (o : LOper) : LOper := ⟨o.dst, o.g, o.op.widen w fl⟩
theorem LOp.base_widen {w : Bool} {fl : List LArg} {l : LOp} (h : ∀ f a b, l ≠ .callw f a b) : (l.widen w fl).base = l := by
  cases l with
  | callw f a b => exact absurd rfl (h f a b)
  | call f args => cases w <;> rfl
  | _ => rfl
theorem lowerOp_nocw {P : Program} {o : Oper} {l : LOp} (h : lowerOp P o = some l) : ∀ f a b, l ≠ .callw f a b := by
  rintro f a b rfl
  have hs : ∀ (K : Ker) (sl : List V) (act : Act), (∀ t, VR K (sl.getD t V.undef) (act.tmps.getD t Go.undef)) → True := fun _ _ _ _ => trivial
  rcases lowerOp_kind h with ⟨x, _, e⟩ | ⟨f', args, ts, ls, _, _, e⟩ | ⟨n, args, ts, ls, _, _, e⟩ | e
  · cases e
  · cases e
  · cases e
  · cases e

def lowerHead (P : Program) (ops : Array Oper) (n : Nat) (w : Bool) : Nat → List Oper → Option (List (LOper × List Nat))
  | _, [] => some []
  | i, o :: r => (lowerOper P ops o).bind fun l => (lowerHead P ops n w (i + 1) r).map ((l.widen w (zfloat ops n i), zdeps ops n i) :: ·)

def LOp.isLd : LOp → Option LArg
  | .val (.load _ x) => some x
  | _ => none
def LOp.isCl : LOp → Bool
  | .call _ _ => true
  | .callv _ _ => true
  | .callw _ _ _ => true
  | _ => false
def sameSlot : LArg → LArg → Bool
  | .slot a, .slot b => a == b
  | _, _ => false
/-- May an operation ahead, of index i, stand behind this one, which takes blocks? -/
def ahead (lj : LOp) (deps : List Nat) (i : Nat) (li : LOp) : Bool :=
  deps.contains i || match lj with
    | .store _ _ _ => li.isLd.isNone && !li.isCl
    | .callw _ _ fl => !li.isCl && match li.isLd with
      | some x => fl.any (sameSlot x)
      | none => true
    | _ => true

def headB (ops : Array Oper) (n : Nat) (l : List (LOper × List Nat)) : Bool :=
  Region.noSelect ops && (decide (n = ops.size) || (decide (n < ops.size) && Region.sinkB .any ops n && Region.chainB .any ops n)) &&
  Region.seqB .any ops (ops.size - n) n ((List.range ops.size).map (fun i => decide (i < n))).toArray &&
  (List.range n).all (fun i => match ops[i]?, l[i]? with
    | some o, some (lo, deps) => (o.after.toList.all fun e => !Region.binds .any e || decide (e.on < i)) && (lo.slots.all fun t => (List.range n).all fun j => zdst ops j != some t || deps.contains j) && deps.all (fun d => decide (d < i)) &&
        (List.range i).all fun q => match l[q]? with
          | some (lq, _) => ahead lo.op deps q lq.op
          | none => false
    | _, _ => false) &&
  (List.range n).all (fun i => (List.range n).all fun j => i == j || (zdst ops i).isNone || zdst ops i != zdst ops j)

theorem lowerHead_get {P : Program} {ops : Array Oper} {n : Nat} {w : Bool} : ∀ (r : List Oper) (i : Nat) (l : List (LOper × List Nat)), lowerHead P ops n w i r = some l → l.length = r.length ∧
    ∀ j o, r[j]? = some o → ∃ lo, l[j]? = some (lo.widen w (zfloat ops n (i + j)), zdeps ops n (i + j)) ∧ lowerOper P ops o = some lo
  | [], i, l, h => by simp [lowerHead] at h; subst h; exact ⟨rfl, fun j o hj => by simp at hj⟩
  | o :: r, i, l, h => by
    unfold lowerHead at h
    obtain ⟨lo, h1, h⟩ := Option.bind_eq_some_iff.1 h
    obtain ⟨lr, h2, rfl⟩ := Option.map_eq_some_iff.1 h
    obtain ⟨q1, q2⟩ := lowerHead_get r (i + 1) lr h2
    refine ⟨by simp [q1], fun j o' hj => ?_⟩
    cases j with
    | zero => simp at hj; subst hj; exact ⟨lo, by simp, h1⟩
    | succ j =>
      obtain ⟨lo', e1, e2⟩ := q2 j o' (by simpa using hj)
      exact ⟨lo', by simpa [Nat.add_assoc, Nat.add_comm 1 j] using e1, e2⟩

/-- Which operations take a block that is no token. -/
theorem dsem_con {P : Program} {sl : List V} {h0 : Hp} {a : Nat} {d : DRes} {l : LOp} {c : Con} (hs : l.dsem P sl h0 a (· = d)) (hc : d.con = some c) :
    c.old = .tip ∨ (∃ t x v, l = .store t x v) ∨ ∃ f args fl, l = .callw f args fl ∧ ∀ x ∈ fl, ∀ m k i o, x.ev sl = .ptr m k i o → m ≠ c.n := by
  cases l with
  | val x =>
    obtain ⟨v, _, h2⟩ := LVal.sem_det (show x.sem sl h0 (fun v => (⟨v, none, none⟩ : DRes) = d) from hs)
    subst h2; cases hc
  | box k x => obtain ⟨_, rfl⟩ := hs; cases hc
  | bslice k es => rcases hs with ⟨_, rfl | rfl⟩ <;> cases hc
  | append k b x y =>
    simp only [LOp.dsem] at hs
    split at hs
    · obtain ⟨_, _, _, hs⟩ := hs
      split at hs
      · subst hs; cases hc
      · subst hs; cases hc
      · subst hs; injection hc with hc; subst hc; exact .inl rfl
      · exact hs.elim
    · exact hs.elim
  | store t x v => exact .inr (.inl ⟨t, x, v, rfl⟩)
  | mkz k b x z =>
    simp only [LOp.dsem] at hs
    split at hs
    · rcases hs with ⟨_, _, rfl | rfl⟩ <;> cases hc
    · exact hs.elim
  | appz k b x y z =>
    simp only [LOp.dsem] at hs
    split at hs
    · obtain ⟨_, _, _, rfl⟩ := hs; cases hc
    · exact hs.elim
  | clear k x z => exact hs.elim
  | call f args => rcases hs with ⟨v, _, rfl⟩ | ⟨k, es, _, rfl⟩ | ⟨v, k, es, _, rfl⟩ <;> cases hc
  | callv x args =>
    simp only [LOp.dsem] at hs
    split at hs
    · rcases hs with ⟨v, _, rfl⟩ | ⟨k, es, _, rfl⟩ <;> cases hc
    · exact hs.elim
  | callw f args fl =>
    rcases hs with ⟨v, _, rfl⟩ | ⟨k, es, _, rfl⟩ | ⟨c', v, k, es, _, h2, rfl⟩
    · cases hc
    · cases hc
    · exact .inr (.inr ⟨f, args, fl, rfl, h2 c hc⟩)
theorem doper_con {P : Program} {sl : List V} {h0 : Hp} {a : Nat} {d : DRes} {o : LOper} {c : Con} (hs : doper P h0 a o sl (· = d)) (hc : d.con = some c) : o.op.dsem P sl h0 a (· = d) := by
  unfold doper at hs
  split at hs
  · exact hs
  · split at hs
    · split at hs
      · exact hs
      · subst hs; cases hc
    · subst hs; cases hc
    · exact hs.elim
theorem touch_isLd {sl : List V} {m : Nat} {l : LOp} (h : l.touch sl m) : l.isCl = true ∨ ∃ x k i o, l.isLd = some x ∧ x.ev sl = .ptr m k i o := by
  cases l with
  | call f args => exact .inl rfl
  | callv x args => exact .inl rfl
  | callw f args fl => exact .inl rfl
  | val x =>
    cases x with
    | load t x => obtain ⟨k, i, o, e⟩ := h; exact .inr ⟨x, k, i, o, rfl, e⟩
    | _ => exact h.elim
  | _ => exact h.elim
theorem isLd_slots {l : LOp} {x : LArg} (h : l.isLd = some x) : l.slots = x.slots := by
  cases l with
  | val y =>
    cases y with
    | load t y => injection h with h; subst h; rfl
    | _ => cases h
  | _ => cases h

def DRes.none : DRes := ⟨V.undef, Option.none, Option.none⟩

/-- The slots behind some of the operations. -/
structure SlotsAt (ops : Array Oper) (n : Nat) (sl0 : List V) (res : List DRes) (D : Nat → Prop) (sl : List V) : Prop where
  len : sl.length = sl0.length
  val : ∀ j t, j < n → D j → zdst ops j = some t → sl.getD t V.undef = (res.getD j .none).v
  frame : ∀ t, (∀ j, j < n → D j → zdst ops j ≠ some t) → sl.getD t V.undef = sl0.getD t V.undef

theorem putV_get (sl : List V) (t : Nat) (v : V) (ht : t < sl.length) (u : Nat) : (putV sl (some t) v).getD u V.undef = if u = t then v else sl.getD u V.undef := by
  simp only [putV, List.getD_eq_getElem?_getD]
  by_cases e : u = t
  · subst e; rw [List.getElem?_set_self ht, if_pos rfl]; rfl
  · rw [List.getElem?_set_ne (fun h => e h.symm), if_neg e]
theorem putV_dst {sl : List V} {dst : Option Nat} {v : V} (h : ∀ t, dst = some t → t < sl.length) (u : Nat) : (putV sl dst v).getD u V.undef = if dst = some u then v else sl.getD u V.undef := by
  cases dst with
  | none => simp [putV]
  | some t =>
    rw [putV_get _ _ _ (h t rfl)]
    by_cases e : u = t
    · subst e; simp
    · rw [if_neg e, if_neg (fun h => e (Option.some.inj h).symm)]

/-- The text's order. -/
theorem text_slots {ops : Array Oper} {n : Nat} {l : List (LOper × List Nat)} {sl0 : List V} {res : List DRes} (hlen : l.length = n) (hres : res.length = n) (hdst : ∀ j lo deps, l[j]? = some (lo, deps) → lo.dst = zdst ops j) (hin : ∀ j t, j < n → zdst ops j = some t → t < sl0.length)
    (hdis : ∀ i j t, i < n → j < n → zdst ops i = some t → zdst ops j = some t → i = j) : ∀ i, i ≤ n → SlotsAt ops n sl0 res (· < i) (((l.zip res).take i).foldl (fun sl p => putV sl p.1.1.dst p.2.v) sl0)
  | 0, _ => ⟨by simp, fun j t _ h => by omega, fun t _ => by simp⟩
  | i + 1, hi => by
    have ih := text_slots hlen hres hdst hin hdis i (by omega)
    have hl : i < (l.zip res).length := by simp; omega
    rw [List.take_succ_eq_append_getElem hl, List.foldl_append]
    simp only [List.foldl_cons, List.foldl_nil, List.getElem_zip]
    generalize ((l.zip res).take i).foldl (fun sl p => putV sl p.1.1.dst p.2.v) sl0 = sl at ih
    have hd : (l[i]'(by omega)).1.dst = zdst ops i := hdst i _ (l[i]'(by omega)).2 (by rw [List.getElem?_eq_getElem (by omega)])
    rw [hd]
    have hs : ∀ t, zdst ops i = some t → t < sl.length := fun t ht => by rw [ih.len]; exact hin i t (by omega) ht
    have hr : res.getD i .none = res[i]'(by omega) := by rw [List.getD_eq_getElem?_getD, List.getElem?_eq_getElem (by omega)]; rfl
    refine ⟨?_, fun j t hj hji ht => ?_, fun t ht => ?_⟩
    · cases zdst ops i <;> simp [putV, ih.len]
    · rw [putV_dst hs]
      by_cases e : j = i
      · subst e; rw [if_pos ht, hr]
      · rw [if_neg (fun h => e (hdis j i t hj (by omega) ht h))]
        exact ih.val j t hj (by omega) ht
    · rw [putV_dst hs, if_neg (fun h => ht i (by omega) (by omega) h)]
      exact ih.frame t fun j hj hji => ht j hj (by omega)

/-- Memory behind some of the operations. -/
structure HeapAt (n nx0 : Nat) (h0 : Hp) (res : List DRes) (D : Nat → Prop) (h : Hp) : Prop where
  old : ∀ m, m < nx0 → (∀ j c, j < n → D j → (res.getD j .none).con = some c → c.n ≠ m) → h m = h0 m
  new : ∀ i, i < n → D i → (∀ j c, j < n → D j → (res.getD j .none).con = some c → c.n ≠ nx0 + i) → h (nx0 + i) = (res.getD i .none).add
  wrt : ∀ j c, j < n → D j → (res.getD j .none).con = some c → h c.n = c.new

structure DInv (ops : Array Oper) (n : Nat) (res : List DRes) (s : St) (K0 : Ker) (ds : List Deferred) (listed : Array Bool) (a : Act) (w : World) : Prop where
  head : HeadInv .any ops n listed
  size : a.tmps.size = s.sl.length
  ex : ∃ K sl h, K.w = w ∧ K0.le K ∧ Slots K sl a ∧ Rel K h ∧ (∀ m, K.live m → K0.live m ∨ ∃ i, i < n ∧ m = s.nx + i ∧ listed.getD i false = true) ∧
    SlotsAt ops n s.sl res (fun j => listed.getD j false = true) sl ∧ HeapAt n s.nx s.h res (fun j => listed.getD j false = true) h
  defers : a.defers = ds

theorem filter_one' (p q : Nat → Bool) (i : Nat) (hp : p i = true) (hq : q i = false) (hpq : ∀ x, x ≠ i → q x = p x) : ∀ l : List Nat, l.Nodup → i ∈ l → (l.filter p).length = (l.filter q).length + 1
  | [], _, h => by cases h
  | x :: l, hnd, h => by
    rw [List.nodup_cons] at hnd
    have same : ∀ l : List Nat, i ∉ l → l.filter q = l.filter p := by
      intro l
      induction l with
      | nil => intro _; rfl
      | cons y l ih =>
        intro h
        simp only [List.mem_cons, not_or] at h
        rw [List.filter_cons, List.filter_cons, ih h.2, hpq y (fun e => h.1 e.symm)]
    by_cases hx : x = i
    · subst hx
      rw [List.filter_cons, List.filter_cons, hp, hq, same l hnd.1]
      simp
    · have hm : i ∈ l := by
        rcases List.mem_cons.1 h with h | h
        · exact absurd h.symm hx
        · exact h
      have ih := filter_one' p q i hp hq hpq l hnd.2 hm
      rw [List.filter_cons, List.filter_cons, hpq x hx]
      cases p x <;> simp [ih]

section
variable {P : Program} {ops : Array Oper} {n : Nat} {w0 : Bool} {l : List (LOper × List Nat)} {s : St} {res : List DRes} {K0 : Ker}

theorem head_dst (hnle : n ≤ ops.size) (hl : lowerHead P ops n w0 0 (ops.toList.take n) = some l) : ∀ j lo deps, l[j]? = some (lo, deps) → lo.dst = zdst ops j ∧ deps = zdeps ops n j := by
  obtain ⟨hll, hlg⟩ := lowerHead_get _ _ _ hl
  intro j lo' deps hj
  have hjn : j < n := by
    have := (List.getElem?_eq_some_iff.1 hj).1
    rw [hll] at this
    simp at this
    omega
  have hoj : ops[j]? = some (ops[j]'(by omega)) := Array.getElem?_eq_getElem (by omega)
  obtain ⟨lo2, e1, e2⟩ := hlg j (ops[j]'(by omega)) (by rw [List.getElem?_take, if_pos hjn]; simp)
  rw [hj, Nat.zero_add] at e1
  injection e1 with e1
  injection e1 with e1 e3
  subst e1
  obtain ⟨g, _, e4⟩ := Option.bind_eq_some_iff.1 e2
  obtain ⟨l2, _, rfl⟩ := Option.map_eq_some_iff.1 e4
  refine ⟨?_, e3⟩
  show (ops[j]'(by omega)).dst = _
  simp [zdst, hoj]

/-- One step of the head, whichever it is. -/
theorem dinv_step (hB : headB ops n l = true) (hl : lowerHead P ops n w0 0 (ops.toList.take n) = some l) (hslots : ∀ j t, j < n → zdst ops j = some t → t < s.sl.length) (ht : Table P s.h s.nx l s.sl res)
    {ds : List Deferred} {listed : Array Bool} {a : Act} {w : World} (inv : DInv ops n res s K0 ds listed a w) (hlv0 : ∀ m, K0.live m → m < s.nx) (hdom : ∀ m b, s.h m = some b → m < s.nx) {i : Nat} (hin : i < n) (hi : i ∈ Region.ready .any ops listed) {Kn : Act → World → Prop} {Q : Exit → Act → World → Prop}
    (hK : ∀ a' w', DInv ops n res s K0 ds (listed.setIfInBounds i true) a' w' → Kn a' w') {rd : Option Nat} {m : Nat} : wpOpIn (FR rd) m P ops Q i Kn a w := by
  simp only [headB, Bool.and_eq_true, List.all_eq_true, List.mem_range, Bool.or_eq_true, decide_eq_true_eq] at hB
  obtain ⟨⟨⟨⟨hsel, hshape⟩, hseq⟩, hops⟩, hdist⟩ := hB
  have hnle : n ≤ ops.size := by rcases hshape with h | ⟨⟨h, _⟩, _⟩ <;> omega
  obtain ⟨hun, o, ho, hall⟩ := mem_ready.1 hi
  obtain ⟨hll, hlg⟩ := lowerHead_get _ _ _ hl
  have hln : l.length = n := by rw [hll]; simp; omega
  have hrn : res.length = n := by rw [ht.len, hln]
  have hot : (ops.toList.take n)[i]? = some o := by rw [List.getElem?_take, if_pos hin]; simpa using ho
  obtain ⟨lo, hlo, hlow⟩ := hlg i o hot
  rw [Nat.zero_add] at hlo
  have hdd := head_dst hnle hl
  have hlj : ∀ j, j < n → ∃ lo deps, l[j]? = some (lo, deps) := fun j hj => ⟨(l[j]'(by omega)).1, (l[j]'(by omega)).2, List.getElem?_eq_getElem (by omega)⟩
  have hrj : ∀ j, j < n → res[j]? = some (res.getD j .none) := fun j hj => by rw [List.getD_eq_getElem?_getD, List.getElem?_eq_getElem (by omega)]; rfl
  -- what the closed test says of each
  have hopsj : ∀ j lo deps, l[j]? = some (lo, deps) → (∀ t ∈ lo.slots, ∀ q, q < n → zdst ops q = some t → q ∈ deps) ∧ (∀ d ∈ deps, d < j) ∧ (∀ q lq dq, q < j → l[q]? = some (lq, dq) → ahead lo.op deps q lq.op = true) := by
    intro j lo deps hj
    have hjn : j < n := by have := (List.getElem?_eq_some_iff.1 hj).1; omega
    have h2 := hops j hjn
    have hoj : ops[j]? = some (ops[j]'(by omega)) := Array.getElem?_eq_getElem (by omega)
    simp only [hoj, hj, Bool.and_eq_true, List.all_eq_true, List.mem_range, Bool.or_eq_true, bne_iff_ne, ne_eq, List.contains_iff_mem, decide_eq_true_eq] at h2
    obtain ⟨⟨⟨_, h3⟩, h4⟩, h5⟩ := h2
    refine ⟨fun t ht q hq e => (h3 t ht q hq).resolve_left (fun h => h e), h4, fun q lq dq hq e => ?_⟩
    have := h5 q hq
    rw [e] at this
    exact this
  obtain ⟨hlook, hdlt, _⟩ := hopsj i _ _ hlo
  have hdis : ∀ i j t, i < n → j < n → zdst ops i = some t → zdst ops j = some t → i = j := fun i j t hi hj e e' => by
    rcases hdist i hi j hj with h | h
    · rcases h with h | h
      · simpa using h
      · rw [e] at h; cases h
    · rw [e, e'] at h; simp at h
  have hdepsj : ∀ j, j < n → listed.getD j false = true → ∀ d, d ∈ zdeps ops n j → d < n ∧ listed.getD d false = true := by
    intro j hj hlj' d hd
    have hoj : ops[j]? = some (ops[j]'(by omega)) := Array.getElem?_eq_getElem (by omega)
    simp only [zdeps, hoj, Option.map_some, Option.getD_some, List.mem_map, List.mem_filter, Bool.and_eq_true, decide_eq_true_eq] at hd
    obtain ⟨e, ⟨he, hb, hn⟩, rfl⟩ := hd
    exact ⟨hn, inv.head.closed j _ hoj hlj' e (Array.mem_toList_iff.1 he) hb⟩
  have hdepsl : ∀ d, d ∈ zdeps ops n i → d < n ∧ listed.getD d false = true := by
    intro d hd
    simp only [zdeps, ho, Option.map_some, Option.getD_some, List.mem_map, List.mem_filter, Bool.and_eq_true, decide_eq_true_eq] at hd
    obtain ⟨e, ⟨he, hb, hn⟩, rfl⟩ := hd
    exact ⟨hn, hall e (Array.mem_toList_iff.1 he) hb⟩
  have huni : ¬ listed.getD i false = true := fun h => by rw [getD_both hun] at h; cases h
  obtain ⟨K, sl, h, rfl, hle, hsl, hrel, hlive, hsa, hha⟩ := inv.ex
  have htextj := text_slots (ops := ops) (sl0 := s.sl) hln hrn (fun j lo deps hj => (hdd j lo deps hj).1) hslots hdis
  have htext := htextj i (by omega)
  have hri := hrj i hin
  have hok := ht.ok i _ _ _ hlo hri
  have hslt : ∀ j, j ≤ n → ∃ slt, slt = ((l.zip res).take j).foldl (fun sl p => putV sl p.1.1.dst p.2.v) s.sl := fun j _ => ⟨_, rfl⟩
  -- what it looks at is as in the text's order
  have halike : Alike (((l.zip res).take i).foldl (fun sl p => putV sl p.1.1.dst p.2.v) s.sl) sl (lo.widen w0 (zfloat ops n i)).slots := by
    intro u hu
    by_cases hex : ∃ j, j < n ∧ zdst ops j = some u
    · obtain ⟨j, hj, hju⟩ := hex
      have hdep : j ∈ zdeps ops n i := hlook _ hu j hj hju
      rw [htext.val j u hj (hdlt j hdep) hju, hsa.val j u hj (hdepsl j hdep).2 hju]
    · rw [htext.frame u (fun j hj _ e => hex ⟨j, hj, e⟩), hsa.frame u (fun j hj _ e => hex ⟨j, hj, e⟩)]
  have hok' := (doper_congr halike).1 hok
  have hfresh : ¬ K.live (s.nx + i) := by
    intro hl
    rcases hlive _ hl with h | ⟨i', hi', e, hl'⟩
    · have := hlv0 _ h; omega
    · have : i' = i := by omega
      subst this
      exact huni hl'
  -- what is taken is there, and is taken once
  have hcon : ∀ j, j < n → ∀ c, (res.getD j .none).con = some c → (∀ q, q < j → ∀ c', (res.getD q .none).con = some c' → c'.n ≠ c.n) ∧ ((c.n < s.nx ∧ s.h c.n = some c.old) ∨ ∃ d ∈ zdeps ops n j, d < j ∧ c.n = s.nx + d ∧ (res.getD d .none).add = some c.old) := by
    intro j hj c hc
    obtain ⟨loj, dpj, hlj⟩ := hlj j hj
    have hk := ht.tok j _ _ _ c hlj (hrj j hj) hc
    have hd2 := (hdd j _ _ hlj).2
    obtain ⟨h1, h2⟩ := hk
    refine ⟨fun q hq c' hc' e => ?_, ?_⟩
    · refine untaken_iff.1 h1 c' (List.mem_map.2 ⟨res.getD q .none, ?_, hc'⟩) e.symm
      rw [List.getD_eq_getElem?_getD, List.getElem?_eq_getElem (by omega)]
      exact List.mem_take_iff_getElem.2 ⟨q, by omega, rfl⟩
    · rcases h2 with h2 | ⟨d, hd, h3, h4⟩
      · exact .inl h2
      · rw [hd2] at hd
        have hdj : d < j := (hopsj j _ _ hlj).2.1 d (by rw [hd2]; exact hd)
        refine .inr ⟨d, hd, hdj, h3, ?_⟩
        simp only [List.getD_eq_getElem?_getD, List.getElem?_map, List.getElem?_take, if_pos hdj] at h4
        rw [hrj d (by omega)] at h4
        exact h4
  have honce : ∀ j, j < n → listed.getD j false = true → ∀ c c', (res.getD j .none).con = some c → (res.getD i .none).con = some c' → c.n ≠ c'.n := by
    intro j hj hlj' c c' hc hc' e
    rcases Nat.lt_trichotomy j i with h | h | h
    · exact (hcon i hin c' hc').1 j h c hc e
    · subst h; exact huni hlj'
    · exact (hcon j hj c hc).1 i h c' hc' e.symm
  have hconOK : ∀ c, (res.getD i .none).con = some c → h c.n = some c.old := by
    intro c hc
    rcases (hcon i hin c hc).2 with ⟨h1, h2⟩ | ⟨d, h1, h2, h3, h4⟩
    · rw [hha.old c.n h1 (fun j c' hj hlj' hc' => honce j hj hlj' c' c hc' hc)]; exact h2
    · rw [h3, hha.new d (hdepsl d h1).1 (hdepsl d h1).2 (fun j c' hj hlj' hc' => by rw [← h3]; exact honce j hj hlj' c' c hc' hc)]
      exact h4
  -- what it looks at in memory is as it was
  have hvis : ∀ m k es, delHp s.h ((res.take i).map (·.con)) m = some (.arr k es) → (lo.widen w0 (zfloat ops n i)).op.touch sl m → h m = some (.arr k es) := by
    intro m k es hm htc
    obtain ⟨h1, h2⟩ := delHp_some hm
    have hlt := hdom m _ h2
    rw [hha.old m hlt (fun j c hj hlj' hc e => ?_)]
    · exact h2
    · rcases Nat.lt_trichotomy j i with hji | hji | hji
      · refine untaken_iff.1 h1 c (List.mem_map.2 ⟨res.getD j .none, ?_, hc⟩) e.symm
        rw [List.getD_eq_getElem?_getD, List.getElem?_eq_getElem (by omega)]
        exact List.mem_take_iff_getElem.2 ⟨j, by omega, rfl⟩
      · subst hji; exact huni hlj'
      · have hold : c.old = .arr k es := by
          rcases (hcon j hj c hc).2 with ⟨_, h4⟩ | ⟨d, _, _, h4, _⟩
          · rw [e, h2] at h4; injection h4 with h4; exact h4.symm
          · omega
        have hnd : i ∉ zdeps ops n j := fun hd => huni (hdepsj j hj hlj' i hd).2
        obtain ⟨loj, dpj, hlj⟩ := hlj j hj
        have hd2 := (hdd j _ _ hlj).2
        have hah := (hopsj j _ _ hlj).2.2 i _ _ hji hlo
        have hokj := ht.ok j _ _ _ hlj (hrj j hj)
        have hds := doper_con hokj hc
        have hcnt : dpj.contains i = false := by
          rw [hd2]
          cases hcc : (zdeps ops n j).contains i with
          | false => rfl
          | true => exact absurd (List.contains_iff_mem.1 hcc) hnd
        rcases dsem_con hds hc with h5 | ⟨t, x, v, h5⟩ | ⟨f, args, fl, h5, h6⟩
        · rw [hold] at h5; cases h5
        · simp only [ahead, hcnt, Bool.false_or, h5, Bool.and_eq_true, Bool.not_eq_true', Option.isNone_iff_eq_none] at hah
          rcases touch_isLd htc with h7 | ⟨x, _, _, _, h7, _⟩
          · rw [hah.2] at h7; cases h7
          · rw [hah.1] at h7; cases h7
        · simp only [ahead, hcnt, Bool.false_or, h5, Bool.and_eq_true, Bool.not_eq_true'] at hah
          rcases touch_isLd htc with h7 | ⟨x, kk, ii, oo, h7, h8⟩
          · rw [hah.1] at h7; cases h7
          · rw [h7] at hah
            simp only [List.any_eq_true] at hah
            obtain ⟨_, y, hy, hxy⟩ := hah
            obtain ⟨p, rfl, rfl⟩ : ∃ p, x = .slot p ∧ y = .slot p := by
              unfold sameSlot at hxy
              split at hxy
              · rename_i p q; exact ⟨p, rfl, by rw [eq_of_beq hxy]⟩
              · cases hxy
            have hps : p ∈ (lo.widen w0 (zfloat ops n i)).slots := by
              unfold LOper.slots
              rw [isLd_slots h7]
              exact List.mem_append.2 (.inr (by simp [LArg.slots]))
            have hpj : (((l.zip res).take j).foldl (fun sl p => putV sl p.1.1.dst p.2.v) s.sl).getD p V.undef = sl.getD p V.undef := by
              rw [← halike p hps]
              have htj := htextj j (by omega)
              by_cases hex : ∃ q, q < n ∧ zdst ops q = some p
              · obtain ⟨q, hq, hqp⟩ := hex
                have hqi := hdlt q (hlook p hps q hq hqp)
                rw [htj.val q p hq (by omega) hqp, htext.val q p hq hqi hqp]
              · rw [htj.frame p (fun q hq _ e => hex ⟨q, hq, e⟩), htext.frame p (fun q hq _ e => hex ⟨q, hq, e⟩)]
            have h8' : (LArg.slot p).ev (((l.zip res).take j).foldl (fun sl p => putV sl p.1.1.dst p.2.v) s.sl) = .ptr m kk ii oo := by
              show List.getD _ p V.undef = _
              rw [hpj]; exact h8
            exact h6 _ hy m kk ii oo h8' e.symm
  have hils : i < listed.size := by rw [inv.head.size]; exact (Array.getElem?_eq_some_iff.1 ho).1
  have hset : ∀ j, (listed.setIfInBounds i true).getD j false = true ↔ j = i ∨ listed.getD j false = true := by
    intro j
    by_cases e : j = i
    · subst e
      simp only [true_or, iff_true, Array.getD_eq_getD_getElem?, Array.getElem?_setIfInBounds_self, hils, if_true, Option.getD_some]
    · rw [getD_set_ne false (fun h => e h.symm)]
      simp [e]
  have hzi : zdst ops i = o.dst := by simp [zdst, ho]
  have adv : ∀ (K' : Ker) (cv : Value) (h' : Hp), K.le K' → VR K' (res.getD i .none).v cv → Rel K' h' → (∀ m, K'.live m → K.live m ∨ m = s.nx + i) →
      (∀ m, m ≠ s.nx + i → (∀ c, (res.getD i .none).con = some c → m ≠ c.n) → h' m = h m) → h' (s.nx + i) = (res.getD i .none).add → (∀ c, (res.getD i .none).con = some c → c.n ≠ s.nx + i → h' c.n = c.new) →
      DInv ops n res s K0 ds (listed.setIfInBounds i true) (a.put o.dst cv) K'.w := by
    intro K' cv h' q1 q2 q3 q4 q6 q7 q8
    have hput : (a.put o.dst cv).tmps.size = a.tmps.size := by cases o.dst <;> simp [Act.put]
    have hputd : (a.put o.dst cv).defers = a.defers := by cases o.dst <;> rfl
    refine ⟨inv.head.set hi hin, by rw [hput]; exact inv.size, ⟨K', putV sl o.dst (res.getD i .none).v, h', rfl, hle.trans q1, (hsl.mono q1).put q2 o.dst, q3, ?_, ?_, ?_⟩, by rw [hputd]; exact inv.defers⟩
    · intro m hm
      rcases q4 m hm with e2 | e2
      · rcases hlive m e2 with h | ⟨i', a1, a2, a3⟩
        · exact .inl h
        · exact .inr ⟨i', a1, a2, (hset i').2 (.inr a3)⟩
      · exact .inr ⟨i, hin, e2, (hset i).2 (.inl rfl)⟩
    · have hts' : ∀ t, o.dst = some t → t < sl.length := fun t ht => by rw [hsa.len]; exact hslots i t hin (by rw [hzi]; exact ht)
      refine ⟨?_, fun j t hj hlj' hjt => ?_, fun u hu => ?_⟩
      · cases o.dst <;> simp [putV, hsa.len]
      · rw [putV_dst hts']
        by_cases e : j = i
        · subst e; rw [if_pos (by rw [← hzi]; exact hjt)]
        · rw [if_neg (fun h => e (hdis j i t hj hin hjt (by rw [hzi]; exact h)))]
          rcases (hset j).1 hlj' with h | h
          · exact absurd h e
          · exact hsa.val j t hj h hjt
      · rw [putV_dst hts', if_neg (fun h => hu i hin ((hset i).2 (.inl rfl)) (by rw [hzi]; exact h))]
        exact hsa.frame u fun j hj hlj' => hu j hj ((hset j).2 (.inr hlj'))
    · refine ⟨fun m hm hc => ?_, fun i' hi' hl' hc => ?_, fun j c hj hlj' hc => ?_⟩
      · rw [q6 m (by omega) (fun c hq e => hc i c hin ((hset i).2 (.inl rfl)) hq e.symm)]
        exact hha.old m hm fun j c hj hlj' => hc j c hj ((hset j).2 (.inr hlj'))
      · by_cases e : i' = i
        · subst e; exact q7
        · rw [q6 (s.nx + i') (by omega) (fun c hq e => hc i c hin ((hset i).2 (.inl rfl)) hq e.symm)]
          rcases (hset i').1 hl' with h | h
          · exact absurd h e
          · exact hha.new i' hi' h fun j c hj hlj' => hc j c hj ((hset j).2 (.inr hlj'))
      · by_cases e : j = i
        · subst e
          refine q8 c hc fun e => ?_
          rcases (hcon j hj c hc).2 with ⟨h1, _⟩ | ⟨d, _, h2, h3, _⟩ <;> omega
        · have hlj2 := ((hset j).1 hlj').resolve_left e
          have hne : c.n ≠ s.nx + i := fun e2 => by
            rcases (hcon j hj c hc).2 with ⟨h1, _⟩ | ⟨d, h1, h2, h3, _⟩
            · omega
            · have : d = i := by omega
              subst this
              exact huni (hdepsj j hj hlj2 d h1).2
          rw [q6 c.n hne (fun c' hc' => honce j hj hlj2 c c' hc hc')]
          exact hha.wrt j c hj hlj2 hc
  obtain ⟨g, hg, hlow⟩ := Option.bind_eq_some_iff.1 hlow
  obtain ⟨l', hl', rfl⟩ := Option.map_eq_some_iff.1 hlow
  have go : (l'.widen w0 (zfloat ops n i)).dsem P sl (delHp s.h ((res.take i).map (·.con))) (s.nx + i) (· = res.getD i .none) → o.wpIn (FR rd) m P a K.w Kn Q := fun hsem =>
    (dstep (nx := s.nx + n) (by show lowerOp P o = some (l'.widen w0 (zfloat ops n i)).base; rw [LOp.base_widen (lowerOp_nocw hl')]; exact hl') hsl.2 hrel hfresh (fun m hm => by
      rcases hlive m hm with h | ⟨i', a1, a2, _⟩
      · have := hlv0 m h; omega
      · omega) (by omega) hvis hconOK hsem).go rd m Kn Q fun K' cv h' q1 q2 q3 q4 q6 q7 q8 => hK _ _ (adv K' cv h' q1 q2 q3 q4 q6 q7 q8)
  have skip : (⟨V.undef, none, none⟩ : DRes) = res.getD i .none → Kn (a.put o.dst Go.undef) K.w := fun hd =>
    hK _ _ (adv K Go.undef h (.refl K) (by rw [← hd]; exact .undef K) hrel (fun m hm => .inl hm) (fun _ _ _ => rfl) (by
      rw [← hd]
      show h (s.nx + i) = none
      cases e : h (s.nx + i) with
      | none => rfl
      | some b => exact absurd (hrel.lt _ _ e) hfresh) (fun q hq => by rw [← hd] at hq; cases hq))
  unfold wpOpIn
  simp only [ho]
  unfold guardSlot at hg
  unfold doper at hok'
  simp only [LOper.widen] at hok'
  cases hgd : o.guard with
  | none =>
    rw [hgd] at hg
    injection hg with hg
    subst hg
    rw [if_pos (by simp [Region.wanted, hgd])]
    exact (go hok')
  | some p =>
    obtain ⟨j, want⟩ := p
    rw [hgd] at hg
    simp only at hg
    cases htg : (ops[j]?).bind (·.dst) with
    | none => simp [htg] at hg
    | some tg =>
      rw [htg] at hg
      injection hg with hg
      subst hg
      simp only at hok'
      have hvr := hsl.2 tg
      have hy : yielded ops a.tmps j = match a.tmps.getD tg Go.undef with | .bool b => some b | _ => none := by
        unfold yielded
        rw [htg]
        simp only [Option.bind_some, Array.getD_eq_getD_getElem?]
        cases a.tmps[tg]? with
        | none => rfl
        | some x => cases x <;> rfl
      by_cases hw : Region.wanted o (yielded ops a.tmps) = true
      · rw [if_pos hw]
        simp only [Region.wanted, hgd, hy] at hw
        split at hok'
        · rename_i b hb
          rw [hb] at hvr
          generalize a.tmps.getD tg Go.undef = cv at hvr hw
          cases hvr
          simp at hw
          rw [if_pos hw] at hok'
          exact (go hok')
        · rename_i vs hb
          exfalso
          rw [hb] at hvr
          generalize a.tmps.getD tg Go.undef = cv at hvr hw
          cases hvr
          simp at hw
        · exact hok'.elim
      · rw [if_neg hw]
        simp only [Region.wanted, hgd, hy] at hw
        split at hok'
        · rename_i b hb
          rw [hb] at hvr
          generalize a.tmps.getD tg Go.undef = cv at hvr hw
          cases hvr
          simp at hw
          rw [if_neg (by simpa using hw)] at hok'
          exact ⟨fun _ _ => trivial, skip hok'⟩
        · exact ⟨fun _ _ => trivial, skip hok'⟩
        · exact hok'.elim

end
end Go.Proofs.Ythcedfamidlbdaa
