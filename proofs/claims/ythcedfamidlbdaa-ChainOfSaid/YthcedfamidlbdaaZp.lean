/-
The abstract layer, sixteenth part: a region that draws its order does what the text's order does. No program in sight. Conditions: a closed test of the region.
-/
import Derived.Test.YthcedfamidlbdaaZo
namespace Go.Proofs.Ythcedfamidlbdaa
set_option linter.unusedSimpArgs false
set_option linter.unusedVariables false
set_option linter.unusedSectionVars false
open Go.RowKit

def zslot (ops : Array Oper) (i : Nat) : Nat := ((ops[i]?).bind (·.dst)).getD 0
def zdeps (ops : Array Oper) (n i : Nat) : List Nat := ((ops[i]?).map fun o => (o.after.toList.filter (fun e => Region.binds .any e && decide (e.on < n))).map (·.on)).getD []

def lowerHead (P : Program) (ops : Array Oper) (n : Nat) : Nat → List Oper → Option (List (LOper × List Nat))
  | _, [] => some []
  | i, o :: r => (lowerOper P ops o).bind fun l => (lowerHead P ops n (i + 1) r).map ((l, zdeps ops n i) :: ·)

def headB (ops : Array Oper) (n : Nat) (l : List (LOper × List Nat)) : Bool :=
  Region.noSelect ops && (decide (n = ops.size) || (decide (n < ops.size) && Region.sinkB .any ops n && Region.chainB .any ops n)) &&
  Region.seqB .any ops (ops.size - n) n ((List.range ops.size).map (fun i => decide (i < n))).toArray &&
  (List.range n).all (fun i => match ops[i]?, l[i]? with
    | some o, some (lo, deps) => o.dst.isSome && (o.after.toList.all fun e => !Region.binds .any e || decide (e.on < i)) && (lo.slots.all fun t => (List.range n).all fun j => zslot ops j != t || deps.contains j) && deps.all fun d => decide (d < i)
    | _, _ => false) &&
  (List.range n).all (fun i => (List.range n).all fun j => i == j || zslot ops i != zslot ops j)

theorem lowerHead_get {P : Program} {ops : Array Oper} {n : Nat} : ∀ (r : List Oper) (i : Nat) (l : List (LOper × List Nat)), lowerHead P ops n i r = some l → l.length = r.length ∧
    ∀ j o, r[j]? = some o → ∃ lo, l[j]? = some (lo, zdeps ops n (i + j)) ∧ lowerOper P ops o = some lo
  | [], i, l, h => by simp [lowerHead] at h; subst h; exact ⟨rfl, fun j o hj => by simp at hj⟩
  | o :: r, i, l, h => by
    unfold lowerHead at h
    obtain ⟨lo, h1, h⟩ := Option.bind_eq_some_iff.1 h
    obtain ⟨lr, h2, rfl⟩ := Option.map_eq_some_iff.1 h
    obtain ⟨q1, q2⟩ := lowerHead_get r (i + 1) lr h2
    refine ⟨by simp [q1], fun j o' hj => ?_⟩
    cases j with
    | zero => simp at hj; subst hj; exact ⟨lo, by simp, h1⟩
    | succ j =>
      obtain ⟨lo', e1, e2⟩ := q2 j o' (by simpa using hj)
      exact ⟨lo', by simpa [Nat.add_assoc, Nat.add_comm 1 j] using e1, e2⟩

def DRes.none : DRes := ⟨V.undef, Option.none, Option.none⟩

/-- The slots behind some of the operations. -/
structure SlotsAt (ops : Array Oper) (n : Nat) (sl0 : List V) (res : List DRes) (D : Nat → Prop) (sl : List V) : Prop where
  len : sl.length = sl0.length
  val : ∀ j, j < n → D j → sl.getD (zslot ops j) V.undef = (res.getD j .none).v
  frame : ∀ t, (∀ j, j < n → D j → zslot ops j ≠ t) → sl.getD t V.undef = sl0.getD t V.undef

theorem putV_get (sl : List V) (t : Nat) (v : V) (ht : t < sl.length) (u : Nat) : (putV sl (some t) v).getD u V.undef = if u = t then v else sl.getD u V.undef := by
  simp only [putV, List.getD_eq_getElem?_getD]
  by_cases e : u = t
  · subst e; rw [List.getElem?_set_self ht, if_pos rfl]; rfl
  · rw [List.getElem?_set_ne (fun h => e h.symm), if_neg e]

/-- The text's order. -/
theorem text_slots {ops : Array Oper} {n : Nat} {l : List (LOper × List Nat)} {sl0 : List V} {res : List DRes} (hlen : l.length = n) (hres : res.length = n) (hdst : ∀ j lo deps, l[j]? = some (lo, deps) → lo.dst = some (zslot ops j)) (hin : ∀ j, j < n → zslot ops j < sl0.length)
    (hdis : ∀ i j, i < n → j < n → zslot ops i = zslot ops j → i = j) : ∀ i, i ≤ n → SlotsAt ops n sl0 res (· < i) (((l.zip res).take i).foldl (fun sl p => putV sl p.1.1.dst p.2.v) sl0)
  | 0, _ => ⟨by simp, fun j _ h => by omega, fun t _ => by simp⟩
  | i + 1, hi => by
    have ih := text_slots hlen hres hdst hin hdis i (by omega)
    have hl : i < (l.zip res).length := by simp; omega
    rw [List.take_succ_eq_append_getElem hl, List.foldl_append]
    simp only [List.foldl_cons, List.foldl_nil, List.getElem_zip]
    generalize ((l.zip res).take i).foldl (fun sl p => putV sl p.1.1.dst p.2.v) sl0 = sl at ih
    have hd : (l[i]'(by omega)).1.dst = some (zslot ops i) := hdst i _ (l[i]'(by omega)).2 (by rw [List.getElem?_eq_getElem (by omega)])
    rw [hd]
    have hs : zslot ops i < sl.length := by rw [ih.len]; exact hin i (by omega)
    have hr : res.getD i .none = res[i]'(by omega) := by rw [List.getD_eq_getElem?_getD, List.getElem?_eq_getElem (by omega)]; rfl
    refine ⟨by simp [putV, ih.len], fun j hj hji => ?_, fun t ht => ?_⟩
    · rw [putV_get _ _ _ hs]
      by_cases e : j = i
      · subst e; rw [if_pos rfl, hr]
      · rw [if_neg (fun h => e (hdis j i hj (by omega) h))]
        exact ih.val j hj (by omega)
    · rw [putV_get _ _ _ hs, if_neg (fun h => ht i (by omega) (by omega) h.symm)]
      exact ih.frame t fun j hj hji => ht j hj (by omega)

/-- Memory behind some of the operations. -/
structure HeapAt (n nx0 : Nat) (h0 : Hp) (res : List DRes) (D : Nat → Prop) (h : Hp) : Prop where
  old : ∀ m, m < nx0 → (∀ j, j < n → D j → (res.getD j .none).con ≠ some m) → h m = h0 m
  new : ∀ i, i < n → D i → (∀ j, j < n → D j → (res.getD j .none).con ≠ some (nx0 + i)) → h (nx0 + i) = (res.getD i .none).add
  only : ∀ m b, h m = some b → (m < nx0 ∨ ∃ i, i < n ∧ m = nx0 + i ∧ D i) ∧ ∀ j, j < n → D j → (res.getD j .none).con ≠ some m

structure DInv (ops : Array Oper) (n : Nat) (res : List DRes) (s : St) (K0 : Ker) (ds : List Deferred) (listed : Array Bool) (a : Act) (w : World) : Prop where
  head : HeadInv .any ops n listed
  size : a.tmps.size = s.sl.length
  ex : ∃ K sl h, K.w = w ∧ K0.le K ∧ Slots K sl a ∧ Rel K h ∧ (∀ m, K.live m → K0.live m ∨ ∃ i, i < n ∧ m = s.nx + i ∧ listed.getD i false = true) ∧
    SlotsAt ops n s.sl res (fun j => listed.getD j false = true) sl ∧ HeapAt n s.nx s.h res (fun j => listed.getD j false = true) h
  defers : a.defers = ds

theorem filter_one' (p q : Nat → Bool) (i : Nat) (hp : p i = true) (hq : q i = false) (hpq : ∀ x, x ≠ i → q x = p x) : ∀ l : List Nat, l.Nodup → i ∈ l → (l.filter p).length = (l.filter q).length + 1
  | [], _, h => by cases h
  | x :: l, hnd, h => by
    rw [List.nodup_cons] at hnd
    have same : ∀ l : List Nat, i ∉ l → l.filter q = l.filter p := by
      intro l
      induction l with
      | nil => intro _; rfl
      | cons y l ih =>
        intro h
        simp only [List.mem_cons, not_or] at h
        rw [List.filter_cons, List.filter_cons, ih h.2, hpq y (fun e => h.1 e.symm)]
    by_cases hx : x = i
    · subst hx
      rw [List.filter_cons, List.filter_cons, hp, hq, same l hnd.1]
      simp
    · have hm : i ∈ l := by
        rcases List.mem_cons.1 h with h | h
        · exact absurd h.symm hx
        · exact h
      have ih := filter_one' p q i hp hq hpq l hnd.2 hm
      rw [List.filter_cons, List.filter_cons, hpq x hx]
      cases p x <;> simp [ih]

section
variable {P : Program} {ops : Array Oper} {n : Nat} {l : List (LOper × List Nat)} {s : St} {res : List DRes} {K0 : Ker}

/-- One step of the head, whichever it is. -/
theorem dinv_step (hB : headB ops n l = true) (hl : lowerHead P ops n 0 (ops.toList.take n) = some l) (hslots : ∀ j, j < n → zslot ops j < s.sl.length) (ht : Table P s.h s.nx l s.sl res)
    {ds : List Deferred} {listed : Array Bool} {a : Act} {w : World} (inv : DInv ops n res s K0 ds listed a w) (hlv0 : ∀ m, K0.live m → m < s.nx) (hdom : ∀ m b, s.h m = some b → m < s.nx) {i : Nat} (hin : i < n) (hi : i ∈ Region.ready .any ops listed) {Kn : Act → World → Prop} {Q : Exit → Act → World → Prop}
    (hK : ∀ a' w', DInv ops n res s K0 ds (listed.setIfInBounds i true) a' w' → Kn a' w') {rd : Option Nat} {m : Nat} : wpOpIn (FR rd) m P ops Q i Kn a w := by
  simp only [headB, Bool.and_eq_true, List.all_eq_true, List.mem_range, Bool.or_eq_true, decide_eq_true_eq] at hB
  obtain ⟨⟨⟨⟨hsel, hshape⟩, hseq⟩, hops⟩, hdist⟩ := hB
  have hnle : n ≤ ops.size := by rcases hshape with h | ⟨⟨h, _⟩, _⟩ <;> omega
  obtain ⟨hun, o, ho, hall⟩ := mem_ready.1 hi
  obtain ⟨hll, hlg⟩ := lowerHead_get _ _ _ hl
  have hln : l.length = n := by rw [hll]; simp; omega
  have hrn : res.length = n := by rw [ht.len, hln]
  have hot : (ops.toList.take n)[i]? = some o := by rw [List.getElem?_take, if_pos hin]; simpa using ho
  obtain ⟨lo, hlo, hlow⟩ := hlg i o hot
  rw [Nat.zero_add] at hlo
  have hopi := hops i hin
  simp only [ho, hlo, Bool.and_eq_true, List.all_eq_true, Option.isSome_iff_exists, List.mem_range, Bool.or_eq_true, bne_iff_ne, ne_eq, List.contains_iff_mem, decide_eq_true_eq] at hopi
  obtain ⟨⟨⟨⟨t, hdst⟩, hlt⟩, hlook⟩, hdlt⟩ := hopi
  have hslot : zslot ops i = t := by simp [zslot, ho, hdst]
  have hdis : ∀ i j, i < n → j < n → zslot ops i = zslot ops j → i = j := fun i j hi hj e => by
    rcases hdist i hi j hj with h | h
    · simpa using h
    · exact absurd e (by simpa using h)
  have hldst : ∀ j lo deps, l[j]? = some (lo, deps) → lo.dst = some (zslot ops j) := by
    intro j lo' deps hj
    have hjn : j < n := by have := (List.getElem?_eq_some_iff.1 hj).1; omega
    have hoj : ops[j]? = some (ops[j]'(by omega)) := Array.getElem?_eq_getElem (by omega)
    obtain ⟨lo2, e1, e2⟩ := hlg j (ops[j]'(by omega)) (by rw [List.getElem?_take, if_pos hjn]; simp)
    rw [hj] at e1
    injection e1 with e1
    injection e1 with e1 _
    subst e1
    obtain ⟨g, _, e3⟩ := Option.bind_eq_some_iff.1 e2
    obtain ⟨l2, _, rfl⟩ := Option.map_eq_some_iff.1 e3
    have h2 := hops j hjn
    rw [hoj, hj] at h2
    simp only [Bool.and_eq_true, Option.isSome_iff_exists] at h2
    obtain ⟨⟨⟨⟨t', ht'⟩, _⟩, _⟩, _⟩ := h2
    show (ops[j]'(by omega)).dst = _
    simp [zslot, hoj, ht']
  have hdepsl : ∀ d, d ∈ zdeps ops n i → d < n ∧ listed.getD d false = true := by
    intro d hd
    simp only [zdeps, ho, Option.map_some, Option.getD_some, List.mem_map, List.mem_filter, Bool.and_eq_true, decide_eq_true_eq] at hd
    obtain ⟨e, ⟨he, hb, hn⟩, rfl⟩ := hd
    exact ⟨hn, hall e (Array.mem_toList_iff.1 he) hb⟩
  obtain ⟨K, sl, h, rfl, hle, hsl, hrel, hlive, hsa, hha⟩ := inv.ex
  have htext := text_slots (ops := ops) (sl0 := s.sl) hln hrn hldst hslots hdis i (by omega)
  generalize hst : ((l.zip res).take i).foldl (fun sl p => putV sl p.1.1.dst p.2.v) s.sl = slt at htext
  have hri : res[i]? = some (res.getD i .none) := by
    rw [List.getD_eq_getElem?_getD, List.getElem?_eq_getElem (by omega)]; rfl
  have hok := ht.ok i lo _ _ hlo hri
  rw [hst] at hok
  -- what it looks at is as in the text's order
  have halike : Alike slt sl lo.slots := by
    intro u hu
    by_cases hex : ∃ j, j < n ∧ zslot ops j = u
    · obtain ⟨j, hj, rfl⟩ := hex
      have hdep : j ∈ zdeps ops n i := by
        rcases hlook _ hu j hj with h | h
        · exact absurd rfl h
        · exact h
      rw [htext.val j hj (hdlt j hdep), hsa.val j hj (hdepsl j hdep).2]
    · rw [htext.frame u (fun j hj _ e => hex ⟨j, hj, e⟩), hsa.frame u (fun j hj _ e => hex ⟨j, hj, e⟩)]
  have hok' := (doper_congr halike).1 hok
  have hfresh : ¬ K.live (s.nx + i) := by
    intro hl
    rcases hlive _ hl with h | ⟨i', hi', e, hl'⟩
    · have := hlv0 _ h; omega
    · have : i' = i := by omega
      subst this
      rw [getD_both hun] at hl'
      cases hl'
  -- consumed tokens are of tokens
  have hconT : ∀ j, j < n → ∀ m, (res.getD j .none).con = some m → m < s.nx → s.h m = some .tip := by
    intro j hj m hm hlt
    have hlj : l[j]? = some (l[j]'(by omega)) := List.getElem?_eq_getElem (by omega)
    have hrj : res[j]? = some (res.getD j .none) := by rw [List.getD_eq_getElem?_getD, List.getElem?_eq_getElem (by omega)]; rfl
    have := ht.tok j _ _ _ m hlj hrj hm
    rcases this.2 with h | ⟨d, _, e, _⟩
    · exact h.2
    · omega
  have hhas : s.h.has h := by
    intro m k es hm
    have hlt := hdom m _ hm
    rw [hha.old m hlt (fun j hj _ hc => by have := hconT j hj m hc hlt; rw [hm] at this; cases this)]
    exact hm
  have hils : i < listed.size := by rw [inv.head.size]; exact (Array.getElem?_eq_some_iff.1 ho).1
  have hset : ∀ j, (listed.setIfInBounds i true).getD j false = true ↔ j = i ∨ listed.getD j false = true := by
    intro j
    by_cases e : j = i
    · subst e
      simp only [true_or, iff_true, Array.getD_eq_getD_getElem?, Array.getElem?_setIfInBounds_self, hils, if_true, Option.getD_some]
    · rw [getD_set_ne false (fun h => e h.symm)]
      simp [e]
  have hts : t < a.tmps.size := by rw [inv.size, ← hslot]; exact hslots i hin
  -- consumed tokens are there, and taken once
  have hconOK : ∀ m, (res.getD i .none).con = some m → h m = some .tip := by
    intro m hm
    have hk := ht.tok i lo _ _ m hlo hri hm
    obtain ⟨hno, hk⟩ := hk
    have hnodone : ∀ j, j < n → listed.getD j false = true → (res.getD j .none).con ≠ some m := by
      intro j hj hlj hc
      by_cases e : j < i
      · apply hno
        have : (res.take i).map (·.con) = (res.take i).map (·.con) := rfl
        refine List.mem_map.2 ⟨res.getD j .none, ?_, hc⟩
        rw [List.getD_eq_getElem?_getD, List.getElem?_eq_getElem (by omega)]
        exact List.mem_take_iff_getElem.2 ⟨j, by omega, rfl⟩
      · have hji : j ≠ i := fun e => by subst e; rw [getD_both hun] at hlj; cases hlj
        have hlj' : l[j]? = some (l[j]'(by omega)) := List.getElem?_eq_getElem (by omega)
        have hrj : res[j]? = some (res.getD j .none) := by rw [List.getD_eq_getElem?_getD, List.getElem?_eq_getElem (by omega)]; rfl
        have := (ht.tok j _ _ _ m hlj' hrj hc).1
        apply this
        refine List.mem_map.2 ⟨res.getD i .none, ?_, hm⟩
        rw [List.getD_eq_getElem?_getD, List.getElem?_eq_getElem (by omega)]
        exact List.mem_take_iff_getElem.2 ⟨i, by omega, rfl⟩
    rcases hk with ⟨h1, h2⟩ | ⟨d, h1, rfl, h3⟩
    · rw [hha.old m h1 hnodone]; exact h2
    · have hd := hdepsl d h1
      have hdi := hdlt d h1
      rw [hha.new d hd.1 hd.2 hnodone]
      simp only [List.getD_eq_getElem?_getD, List.getElem?_map, List.getElem?_take, if_pos hdi] at h3 ⊢
      rw [List.getElem?_eq_getElem (by omega)] at h3 ⊢
      exact h3
  have adv : ∀ (K' : Ker) (cv : Value) (h' : Hp), K.le K' → VR K' (res.getD i .none).v cv → Rel K' h' → (∀ m, K'.live m → K.live m ∨ m = s.nx + i) →
      (∀ m, m ≠ s.nx + i → (∀ q, (res.getD i .none).con = some q → m ≠ q) → h' m = h m) → h' (s.nx + i) = (res.getD i .none).add → (∀ q, (res.getD i .none).con = some q → q ≠ s.nx + i → h' q = none) →
      DInv ops n res s K0 ds (listed.setIfInBounds i true) (a.put o.dst cv) K'.w := by
    intro K' cv h' q1 q2 q3 q4 q6 q7 q8
    have hput : a.put o.dst cv = { a with tmps := a.tmps.setIfInBounds t cv } := by rw [hdst]; rfl
    rw [hput]
    refine ⟨inv.head.set hi hin, by simp [inv.size], ⟨K', putV sl (some t) (res.getD i .none).v, h', rfl, hle.trans q1, ?_, q3, ?_, ?_, ?_⟩, inv.defers⟩
    · have := (hsl.mono q1).put q2 (some t)
      exact this
    · intro m hm
      rcases q4 m hm with e2 | e2
      · rcases hlive m e2 with h | ⟨i', a1, a2, a3⟩
        · exact .inl h
        · exact .inr ⟨i', a1, a2, (hset i').2 (.inr a3)⟩
      · exact .inr ⟨i, hin, e2, (hset i).2 (.inl rfl)⟩
    · have hts' : t < sl.length := by rw [hsl.1]; exact hts
      refine ⟨by simp [putV, hsa.len], fun j hj hlj => ?_, fun u hu => ?_⟩
      · rw [putV_get _ _ _ hts']
        by_cases e : j = i
        · subst e; rw [if_pos hslot]
        · rw [if_neg (fun h => e (hdis j i hj hin (by rw [hslot]; exact h)))]
          rcases (hset j).1 hlj with h | h
          · exact absurd h e
          · exact hsa.val j hj h
      · rw [putV_get _ _ _ hts', if_neg (fun h => hu i hin ((hset i).2 (.inl rfl)) (by rw [hslot, h]))]
        exact hsa.frame u fun j hj hlj => hu j hj ((hset j).2 (.inr hlj))
    · refine ⟨fun m hm hc => ?_, fun i' hi' hl' hc => ?_, fun m b hm => ?_⟩
      · rw [q6 m (by omega) (fun q hq => by rintro rfl; exact hc i hin ((hset i).2 (.inl rfl)) hq)]
        exact hha.old m hm fun j hj hlj => hc j hj ((hset j).2 (.inr hlj))
      · by_cases e : i' = i
        · subst e; exact q7
        · rw [q6 (s.nx + i') (by omega) (fun q hq => by rintro rfl; exact hc i hin ((hset i).2 (.inl rfl)) hq)]
          rcases (hset i').1 hl' with h | h
          · exact absurd h e
          · exact hha.new i' hi' h fun j hj hlj => hc j hj ((hset j).2 (.inr hlj))
      · by_cases e : m = s.nx + i
        · subst e
          refine ⟨.inr ⟨i, hin, rfl, (hset i).2 (.inl rfl)⟩, fun j hj hlj hc => ?_⟩
          -- a token that this operation makes was not taken before
          have hlj' : l[j]? = some (l[j]'(by omega)) := List.getElem?_eq_getElem (by omega)
          have hrj : res[j]? = some (res.getD j .none) := by rw [List.getD_eq_getElem?_getD, List.getElem?_eq_getElem (by omega)]; rfl
          rcases (ht.tok j _ _ _ _ hlj' hrj hc).2 with h | ⟨d, h1, h2, _⟩
          · omega
          · have hdi : d = i := by omega
            subst hdi
            have hjn := hops j hj
            have hoj : ops[j]? = some (ops[j]'(by omega)) := Array.getElem?_eq_getElem (by omega)
            obtain ⟨lo2, e1, _⟩ := hlg j (ops[j]'(by omega)) (by rw [List.getElem?_take, if_pos hj]; simp)
            rw [Nat.zero_add] at e1
            have e2 : l[j]'(by omega) = (lo2, zdeps ops n j) := by rw [hlj'] at e1; injection e1
            have h1 : d ∈ zdeps ops n j := by
              have := congrArg Prod.snd e2
              simp only at this
              rw [← this]
              exact h1
            have hdj : d < j := by
              rw [hoj, e1] at hjn
              simp only [Bool.and_eq_true, List.all_eq_true, decide_eq_true_eq] at hjn
              exact hjn.2 d h1
            rcases (hset j).1 hlj with h | h
            · omega
            · simp only [zdeps, hoj, Option.map_some, Option.getD_some, List.mem_map, List.mem_filter, Bool.and_eq_true, decide_eq_true_eq] at h1
              obtain ⟨ed, ⟨he, hb, _⟩, hon⟩ := h1
              have := inv.head.closed j _ hoj h ed (Array.mem_toList_iff.1 he) hb
              rw [hon, getD_both hun] at this
              cases this
        · by_cases hc : ∃ q, (res.getD i .none).con = some q ∧ m = q
          · obtain ⟨q, hq, rfl⟩ := hc
            rw [q8 m hq e] at hm
            cases hm
          · rw [q6 m e (fun q hq hmq => hc ⟨q, hq, hmq⟩)] at hm
            obtain ⟨e1, e2⟩ := hha.only m b hm
            refine ⟨?_, fun j hj hlj hcj => ?_⟩
            · rcases e1 with e1 | ⟨i', a1, a2, a3⟩
              · exact .inl e1
              · exact .inr ⟨i', a1, a2, (hset i').2 (.inr a3)⟩
            · rcases (hset j).1 hlj with h | h
              · subst h; exact hc ⟨m, hcj, rfl⟩
              · exact e2 j hj h hcj
  obtain ⟨g, hg, hlow⟩ := Option.bind_eq_some_iff.1 hlow
  obtain ⟨l', hl', rfl⟩ := Option.map_eq_some_iff.1 hlow
  have go : l'.dsem P sl s.h (s.nx + i) (· = res.getD i .none) → o.wpIn (FR rd) m P a K.w Kn Q := fun hsem =>
    (dstep (h0 := s.h) (nx := s.nx + n) hl' hsl.2 hrel hfresh (fun m hm => by
      rcases hlive m hm with h | ⟨i', a1, a2, _⟩
      · have := hlv0 m h; omega
      · omega) (by omega) hhas hconOK hsem).go rd m Kn Q fun K' cv h' q1 q2 q3 q4 q6 q7 q8 => hK _ _ (adv K' cv h' q1 q2 q3 q4 q6 q7 q8)
  have skip : (⟨V.undef, none, none⟩ : DRes) = res.getD i .none → Kn (a.put o.dst Go.undef) K.w := fun hd =>
    hK _ _ (adv K Go.undef h (.refl K) (by rw [← hd]; exact .undef K) hrel (fun m hm => .inl hm) (fun _ _ _ => rfl) (by
      rw [← hd]
      show h (s.nx + i) = none
      cases e : h (s.nx + i) with
      | none => rfl
      | some b => exact absurd (hrel.lt _ _ e) hfresh) (fun q hq => by rw [← hd] at hq; cases hq))
  unfold wpOpIn
  simp only [ho]
  unfold guardSlot at hg
  unfold doper at hok'
  cases hgd : o.guard with
  | none =>
    rw [hgd] at hg
    injection hg with hg
    subst hg
    rw [if_pos (by simp [Region.wanted, hgd])]
    exact (go hok')
  | some p =>
    obtain ⟨j, want⟩ := p
    rw [hgd] at hg
    simp only at hg
    cases htg : (ops[j]?).bind (·.dst) with
    | none => simp [htg] at hg
    | some tg =>
      rw [htg] at hg
      injection hg with hg
      subst hg
      simp only at hok'
      have hvr := hsl.2 tg
      have hy : yielded ops a.tmps j = match a.tmps.getD tg Go.undef with | .bool b => some b | _ => none := by
        unfold yielded
        rw [htg]
        simp only [Option.bind_some, Array.getD_eq_getD_getElem?]
        cases a.tmps[tg]? with
        | none => rfl
        | some x => cases x <;> rfl
      by_cases hw : Region.wanted o (yielded ops a.tmps) = true
      · rw [if_pos hw]
        simp only [Region.wanted, hgd, hy] at hw
        split at hok'
        · rename_i b hb
          rw [hb] at hvr
          generalize a.tmps.getD tg Go.undef = cv at hvr hw
          cases hvr
          simp at hw
          rw [if_pos hw] at hok'
          exact (go hok')
        · rename_i vs hb
          exfalso
          rw [hb] at hvr
          generalize a.tmps.getD tg Go.undef = cv at hvr hw
          cases hvr
          simp at hw
        · exact hok'.elim
      · rw [if_neg hw]
        simp only [Region.wanted, hgd, hy] at hw
        split at hok'
        · rename_i b hb
          rw [hb] at hvr
          generalize a.tmps.getD tg Go.undef = cv at hvr hw
          cases hvr
          simp at hw
          rw [if_neg (by simpa using hw)] at hok'
          exact ⟨fun _ _ => trivial, skip hok'⟩
        · exact ⟨fun _ _ => trivial, skip hok'⟩
        · exact hok'.elim

end
end Go.Proofs.Ythcedfamidlbdaa
