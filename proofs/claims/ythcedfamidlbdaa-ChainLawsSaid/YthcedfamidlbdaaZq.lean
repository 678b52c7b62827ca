/-
The abstract layer, seventeenth part: a region that draws its order, whole; code and functions. Conditions: closed tests of the code; the program draws its orders (mixedOrders).
-/
import Derived.Test.YthcedfamidlbdaaZp
namespace Go.Proofs.Ythcedfamidlbdaa
set_option linter.unusedSimpArgs false
set_option linter.unusedVariables false
set_option linter.unusedSectionVars false
open Go.RowKit

section
variable {P : Program} {ops : Array Oper} {n : Nat} {w0 : Bool} {l : List (LOper × List Nat)} {s : St} {res : List DRes} {K0 : Ker}

/-- Behind the head: the tail in its one order. -/
theorem wpAnyIn_seq {rd : Option Nat} {mm : Nat} {md : Region.Mode} {Q' : Exit → Act → World → Prop} : ∀ (l : List Oper) (k : Nat) (listed : Array Bool) (a : Act) (w : World), (∀ j, l[j]? = ops[k + j]?) →
    Region.seqB md ops l.length k listed = true → wpListIn (FR rd) mm P ops Q' l a w → wpAnyIn (FR rd) mm P md ops Q' l.length listed a w
  | [], _, _, _, _, _, hB, h => ⟨by simpa [Region.seqB] using hB, h⟩
  | o :: l, k, listed, a, w, hl, hB, h => by
    have h0 : ops[k]? = some o := by simpa using (hl 0).symm
    simp only [List.length_cons, Region.seqB, Bool.and_eq_true, decide_eq_true_eq] at hB
    refine ⟨fun h1 => (by rw [hB.1] at h1; cases h1), fun i hi => ?_⟩
    rw [hB.1] at hi
    have hik : i = k := by simpa using hi
    subst hik
    have hw : wpOpIn (FR rd) mm P ops Q' i (wpListIn (FR rd) mm P ops Q' l) a w := by unfold wpOpIn; simp only [h0]; exact h
    exact wpOpIn_mono (fun a' w' h' => wpAnyIn_seq l (i + 1) _ a' w' (fun j => by have := hl (j + 1); simpa [Nat.add_assoc, Nat.add_comm 1 j] using this) hB.2 h') hw

theorem head_all (hB : headB ops n l = true) (hl : lowerHead P ops n w0 0 (ops.toList.take n) = some l) (hslots : ∀ j t, j < n → zdst ops j = some t → t < s.sl.length) (ht : Table P s.h s.nx l s.sl res) (hlv0 : ∀ m, K0.live m → m < s.nx) (hdom : ∀ m b, s.h m = some b → m < s.nx)
    {ds : List Deferred} {rd : Option Nat} {mm : Nat} {Q : Exit → Act → World → Prop} (hend : ∀ listed a w, DInv ops n res s K0 ds listed a w → (∀ j, j < n → listed.getD j false = true) → wpListIn (FR rd) mm P ops Q (ops.toList.drop n) a w) :
    ∀ (f : Nat) (listed : Array Bool) (a : Act) (w : World), f = ((List.range n).filter fun i => !listed.getD i true).length → DInv ops n res s K0 ds listed a w → wpAnyIn (FR rd) mm P .any ops Q (f + (ops.size - n)) listed a w := by
  have hB' := hB
  simp only [headB, Bool.and_eq_true, List.all_eq_true, List.mem_range, Bool.or_eq_true, decide_eq_true_eq] at hB'
  obtain ⟨⟨⟨⟨hsel, hshape⟩, hseq⟩, hops⟩, hdist⟩ := hB'
  have hnle : n ≤ ops.size := by rcases hshape with h | ⟨⟨h, _⟩, _⟩ <;> omega
  intro f
  induction f with
  | zero =>
    intro listed a w hf inv
    have hall : ∀ i, i < n → listed.getD i true = true := by
      intro i hi
      have hz := List.eq_nil_of_length_eq_zero hf.symm
      rw [List.filter_eq_nil_iff] at hz
      have := hz i (List.mem_range.2 hi)
      simpa using this
    have hallf : ∀ j, j < n → listed.getD j false = true := by
      intro j hj
      have := hall j hj
      have hjs : j < listed.size := by rw [inv.head.size]; omega
      simp only [Array.getD, hjs, dif_pos] at this ⊢
      exact this
    have hlist : listed = ((List.range ops.size).map (fun i => decide (i < n))).toArray := by
      apply Array.ext
      · simp [inv.head.size]
      · intro i h1 h2
        have hi : i < ops.size := by simpa [inv.head.size] using h1
        by_cases hin : i < n
        · have := hall i hin
          rw [Array.getD_eq_getD_getElem?, Array.getElem?_eq_getElem h1] at this
          simpa [hin] using this
        · have := inv.head.tail i (by omega) hi
          rw [Array.getD_eq_getD_getElem?, Array.getElem?_eq_getElem h1] at this
          simpa [hin] using this
    have h := hend listed a w inv hallf
    have hl : (ops.toList.drop n).length = ops.size - n := by simp
    rw [Nat.zero_add]
    have := wpAnyIn_seq (rd := rd) (mm := mm) (P := P) (md := .any) (Q' := Q) (ops.toList.drop n) n listed a w (fun j => by simp [List.getElem?_drop]) (by rw [hl, hlist]; exact hseq) h
    rwa [hl] at this
  | succ f ih =>
    intro listed a w hf inv
    have hex : ∃ i, i < n ∧ listed.getD i true = false := by
      have hne : ((List.range n).filter fun i => !listed.getD i true) ≠ [] := by intro h; rw [h] at hf; simp at hf
      obtain ⟨i, hi⟩ := List.exists_mem_of_ne_nil _ hne
      rw [List.mem_filter, List.mem_range] at hi
      exact ⟨i, hi.1, by simpa using hi.2⟩
    obtain ⟨i0, hi0, hun0⟩ := hex
    have hhead : ∀ j ∈ Region.ready .any ops listed, j < n := by
      intro j hj
      rcases hshape with h | ⟨⟨h, hs⟩, hc⟩
      · obtain ⟨_, o, ho, _⟩ := mem_ready.1 hj
        have := (Array.getElem?_eq_some_iff.1 ho).1
        omega
      · rcases Nat.lt_or_ge j n with h' | h'
        · exact h'
        · exact absurd hj (tail_waits hs hc h inv.head _ i0 rfl hi0 hun0 j h')
    have readyOf : ∀ k, k < n → listed.getD k true = false → (∀ j, j < k → listed.getD j true = true) → k ∈ Region.ready .any ops listed := by
      intro k hk hun hlt
      have ho := hops k hk
      have hok : ops[k]? = some (ops[k]'(by omega)) := Array.getElem?_eq_getElem (by omega)
      rw [hok] at ho
      refine mem_ready.2 ⟨hun, _, hok, fun e he hb => ?_⟩
      cases hlk : l[k]? with
      | none => simp [hlk] at ho
      | some q =>
        obtain ⟨lo, deps⟩ := q
        simp only [hlk, Bool.and_eq_true, List.all_eq_true] at ho
        have h := ho.1.1.1 e (Array.mem_toList_iff.2 he)
        simp only [hb, Bool.not_true, Bool.false_or, decide_eq_true_eq] at h
        have h2 := hlt e.on h
        have hs : e.on < listed.size := by rw [inv.head.size]; omega
        rw [Array.getD_eq_getD_getElem?, Array.getElem?_eq_getElem hs] at h2 ⊢
        exact h2
    have hready : Region.ready .any ops listed ≠ [] := by
      have least : ∀ k, k ≤ i0 → (∀ j, j < k → listed.getD j true = true) → ∃ i, i < n ∧ i ∈ Region.ready .any ops listed := by
        intro k hk
        induction hd : i0 - k generalizing k with
        | zero =>
          intro hl
          have hki : k = i0 := by omega
          subst hki
          exact ⟨k, hi0, readyOf k hi0 hun0 hl⟩
        | succ d ihd =>
          intro hl
          by_cases hu : listed.getD k true = true
          · exact ihd (k + 1) (by omega) (by omega) (fun j hj => by
              by_cases hjk : j = k
              · subst hjk; exact hu
              · exact hl j (by omega))
          · exact ⟨k, by omega, readyOf k (by omega) (by simpa using hu) hl⟩
      obtain ⟨i, _, hi⟩ := least 0 (by omega) (fun j hj => by omega)
      intro h
      rw [h] at hi
      cases hi
    rw [show f + 1 + (ops.size - n) = (f + (ops.size - n)) + 1 by omega]
    refine ⟨fun h => absurd h hready, fun i hi => ?_⟩
    have hin := hhead i hi
    obtain ⟨hun, o, ho, _⟩ := mem_ready.1 hi
    refine dinv_step hB hl hslots ht inv hlv0 hdom hin hi fun a' w' inv' => ih _ a' w' ?_ inv'
    have hils : i < listed.size := by rw [inv.head.size]; exact (Array.getElem?_eq_some_iff.1 ho).1
    have := filter_one' (fun x => !listed.getD x true) (fun x => !(listed.setIfInBounds i true).getD x true) i (by simpa using hun) (by simp [Array.getD, hils]) (fun x hx => by rw [getD_set_ne true (fun e => hx e.symm)]) (List.range n) List.nodup_range (List.mem_range.2 hin)
    omega
end

theorem wpList_of {P : Program} {ops : Array Oper} {K0 : Ker} {nx0 : Nat} {Q : Exit → Act → World → Prop} {Qs : St → Prop} (hQ : ∀ K s a, RelS K0 K nx0 s a → Qs s → Q .normal a K.w) {rd : Option Nat} {mm : Nat} :
    ∀ (l : List Oper) (ls : List LOper) (k : Nat), lowerOpers P ops l = some ls → (∀ j, l[j]? = ops[k + j]?) → ∀ (K : Ker) (s : St) (a : Act), RelS K0 K nx0 s a → lops P ls Qs s → wpListIn (FR rd) mm P ops Q l a K.w
  | [], ls, k, hl, hi, K, s, a, hr, h => by
    simp [lowerOpers] at hl
    subst hl
    exact hQ K s a hr h
  | o :: l, ls, k, hl, hi, K, s, a, hr, h => by
    unfold lowerOpers at hl
    obtain ⟨lo, h1, hl⟩ := Option.bind_eq_some_iff.1 hl
    obtain ⟨lr, h2, rfl⟩ := Option.map_eq_some_iff.1 hl
    have h0 : ops[k]? = some o := by simpa using (hi 0).symm
    have hw : wpOpIn (FR rd) mm P ops Q k (wpListIn (FR rd) mm P ops Q l) a K.w := by
      refine oper_sound h0 h1 hr (lops P lr Qs) (fun K' s' a' hr' hq => wpList_of hQ l lr (k + 1) h2 (fun j => by have := hi (j + 1); simpa [Nat.add_assoc, Nat.add_comm 1 j] using this) K' s' a' hr' hq) ?_
      unfold lops at h
      exact h
    unfold wpOpIn at hw
    simp only [h0] at hw
    exact hw

theorem wrHp_some : ∀ (cons : List (Option Con)) (h : Hp) (m : Nat) (b : Blk), wrHp h cons m = some b → (∃ c, some c ∈ cons ∧ c.n = m ∧ c.new = some b) ∨ ((∀ c, some c ∈ cons → c.n ≠ m) ∧ h m = some b)
  | [], h, m, b, e => .inr ⟨by simp, e⟩
  | none :: r, h, m, b, e => by
    rcases wrHp_some r h m b e with ⟨c, h1, h2⟩ | ⟨h1, h2⟩
    · exact .inl ⟨c, by simp [h1], h2⟩
    · exact .inr ⟨fun c hc => h1 c (by simpa using hc), h2⟩
  | some c0 :: r, h, m, b, e => by
    rcases wrHp_some r (h.turn (some c0)) m b e with ⟨c, h1, h2⟩ | ⟨h1, h2⟩
    · exact .inl ⟨c, by simp [h1], h2⟩
    · by_cases hm : m = c0.n
      · subst hm
        refine .inl ⟨c0, by simp, rfl, ?_⟩
        unfold Hp.turn at h2
        cases hn : c0.new with
        | none => simp [hn, Hp.del] at h2
        | some b' => simpa [hn, Hp.set] using h2
      · refine .inr ⟨fun c hc => ?_, ?_⟩
        · rcases List.mem_cons.1 hc with e1 | e1
          · injection e1 with e1; subst e1; exact fun e => hm e.symm
          · exact h1 c e1
        · unfold Hp.turn at h2
          cases hn : c0.new with
          | none => simpa [hn, Hp.del, hm] using h2
          | some b' => simpa [hn, Hp.set, hm] using h2
theorem addHp_some : ∀ (adds : List (Option Blk)) (h : Hp) (a m : Nat) (b : Blk), addHp h a adds m = some b → (∃ i, m = a + i ∧ adds.getD i none = some b) ∨ h m = some b
  | [], h, a, m, b, e => .inr e
  | none :: r, h, a, m, b, e => by
    rcases addHp_some r h (a + 1) m b e with ⟨i, e1, e2⟩ | h1
    · exact .inl ⟨i + 1, by omega, by simpa using e2⟩
    · exact .inr h1
  | some c :: r, h, a, m, b, e => by
    rcases addHp_some r (h.set a c) (a + 1) m b e with ⟨i, e1, e2⟩ | h1
    · exact .inl ⟨i + 1, by omega, by simpa using e2⟩
    · unfold Hp.set at h1
      split at h1
      · rename_i hm; exact .inl ⟨0, by omega, by simpa using h1⟩
      · exact .inr h1
/-- The region. -/
theorem draw_sound {P : Program} {id : Nat} {ops : Array Oper} {n : Nat} {w0 : Bool} {l : List (LOper × List Nat)} {tl : List LOper} (hm : P.follows .mixedOrders = true) (hB : headB ops n l = true) (hl : lowerHead P ops n w0 0 (ops.toList.take n) = some l) (htl : lowerOpers P ops (ops.toList.drop n) = some tl)
    {K0 K : Ker} {nx0 : Nat} {s : St} {a : Act} (hr : RelS K0 K nx0 s a) {Q : Exit → Act → World → Prop} {Qs : St → Prop} (hQ : ∀ K s a, RelS K0 K nx0 s a → Qs s → Q .normal a K.w)
    (hslots : (l.all fun p => match p.1.dst with | some d => decide (d < s.sl.length) | none => true) = true)
    (h : dops P s.h s.nx l s.sl [] [] fun sl adds cons => lops P tl Qs ⟨sl, wrHp (addHp s.h s.nx adds) cons, s.nx + n⟩) {rd : Option Nat} {mm : Nat} : (Code.region id ops true).wpIn (FR rd) mm P Q a K.w := by
  obtain ⟨res, ht, hfin⟩ := dops_table [] l s.sl [] ⟨rfl, fun i o deps d hi => by simp at hi, fun i o deps d n hi => by simp at hi⟩ (by simpa using h)
  simp only [List.nil_append] at ht hfin
  have hB' := hB
  simp only [headB, Bool.and_eq_true, List.all_eq_true, List.mem_range, Bool.or_eq_true, decide_eq_true_eq] at hB'
  obtain ⟨⟨⟨⟨hsel, hshape⟩, hseq⟩, hops⟩, hdist⟩ := hB'
  have hnle : n ≤ ops.size := by rcases hshape with h | ⟨⟨h, _⟩, _⟩ <;> omega
  obtain ⟨hll, hlg⟩ := lowerHead_get _ _ _ hl
  have hln : l.length = n := by rw [hll]; simp; omega
  have hrn : res.length = n := by rw [ht.len, hln]
  have hdis : ∀ i j t, i < n → j < n → zdst ops i = some t → zdst ops j = some t → i = j := fun i j t hi hj e e' => by
    rcases hdist i hi j hj with h | h
    · rcases h with h | h
      · simpa using h
      · rw [e] at h; cases h
    · rw [e, e'] at h; simp at h
  have hldst : ∀ j lo deps, l[j]? = some (lo, deps) → lo.dst = zdst ops j := fun j lo deps hj => (head_dst hnle hl j lo deps hj).1
  have hsl : ∀ j t, j < n → zdst ops j = some t → t < s.sl.length := by
    intro j t hj hjt
    have hlj : l[j]? = some (l[j]'(by omega)) := List.getElem?_eq_getElem (by omega)
    have h1 := hldst j (l[j]'(by omega)).1 (l[j]'(by omega)).2 hlj
    have h2 := List.all_eq_true.1 hslots (l[j]'(by omega)) (List.getElem_mem _)
    rw [h1, hjt] at h2
    simpa using h2
  refine wpIn_region_any hm ?_
  have hdr := K.le_drew
  have inv : DInv ops n res s K.drew a.defers (Array.replicate ops.size false) a K.drew.w := by
    refine ⟨⟨by simp, fun j oj _ hl => (by rw [getD_replicate_false] at hl; cases hl), fun t _ ht => getD_in (by simpa using ht) (getD_replicate_false _ _)⟩, hr.slots.1.symm, ⟨K.drew, s.sl, s.h, rfl, .refl _, hr.slots.mono hdr, hr.rel.drew, fun m hm => .inl hm, ?_, ?_⟩, rfl⟩
    · exact ⟨rfl, (fun j t _ hl => by rw [getD_replicate_false] at hl; cases hl), fun t _ => rfl⟩
    · exact ⟨fun m _ _ => rfl, (fun i _ hl => by rw [getD_replicate_false] at hl; cases hl), (fun j c _ hl => by rw [getD_replicate_false] at hl; cases hl)⟩
  have h := head_all (rd := rd) (mm := mm) (Q := Q) hB hl hsl ht (K0 := K.drew) (fun m hm => (hr.live m hm).1) (fun m b hm => (hr.live m (hr.rel.lt m b hm)).1) ?_ n (Array.replicate ops.size false) a K.drew.w ?_ inv
  · rw [show n + (ops.size - n) = ops.size by omega] at h
    exact h
  · -- behind the head
    intro listed a' w' inv' hall
    obtain ⟨K', sl, hh, rfl, hle, hsl', hrel, hlive, hsa, hha⟩ := inv'.ex
    have htext := text_slots (ops := ops) (sl0 := s.sl) hln hrn hldst hsl hdis n (Nat.le_refl _)
    have hzl : (l.zip res).length = n := by simp [hln, hrn]
    rw [List.take_of_length_le (by omega)] at htext
    have hslEq : sl = (l.zip res).foldl (fun sl p => putV sl p.1.1.dst p.2.v) s.sl := by
      have hlen : sl.length = ((l.zip res).foldl (fun sl p => putV sl p.1.1.dst p.2.v) s.sl).length := by rw [hsa.len, htext.len]
      apply List.ext_getElem hlen
      intro t h1 h2
      have : sl.getD t V.undef = ((l.zip res).foldl (fun sl p => putV sl p.1.1.dst p.2.v) s.sl).getD t V.undef := by
        by_cases hex : ∃ j, j < n ∧ zdst ops j = some t
        · obtain ⟨j, hj, hjt⟩ := hex
          rw [hsa.val j t hj (hall j hj) hjt, htext.val j t hj hj hjt]
        · rw [hsa.frame t (fun j hj _ e => hex ⟨j, hj, e⟩), htext.frame t (fun j hj _ e => hex ⟨j, hj, e⟩)]
      rw [List.getD_eq_getElem?_getD, List.getD_eq_getElem?_getD, List.getElem?_eq_getElem h1, List.getElem?_eq_getElem h2] at this
      exact this
    have hdomS : ∀ m b, s.h m = some b → m < s.nx := fun m b hm => (hr.live m (hr.rel.lt m b hm)).1
    have hmemc : ∀ c, some c ∈ res.map (·.con) ↔ ∃ j, j < n ∧ (res.getD j .none).con = some c := by
      intro c
      constructor
      · intro hc
        obtain ⟨d, hd, hdc⟩ := List.mem_map.1 hc
        obtain ⟨j, hj, rfl⟩ := List.getElem_of_mem hd
        refine ⟨j, by omega, ?_⟩
        rw [List.getD_eq_getElem?_getD, List.getElem?_eq_getElem hj]
        exact hdc
      · rintro ⟨j, hj, hc⟩
        refine List.mem_map.2 ⟨res.getD j .none, ?_, hc⟩
        rw [List.getD_eq_getElem?_getD, List.getElem?_eq_getElem (by omega)]
        exact List.getElem_mem _
    have hhp : (wrHp (addHp s.h s.nx (res.map (·.add))) (res.map (·.con))).le hh := by
      intro m b hm
      rcases wrHp_some _ _ _ _ hm with ⟨c, hc, rfl, hnew⟩ | ⟨hnc, hm⟩
      · obtain ⟨j, hj, hjc⟩ := (hmemc c).1 hc
        rw [hha.wrt j c hj (hall j hj) hjc]
        exact hnew
      · have hno : ∀ j c, j < n → listed.getD j false = true → (res.getD j .none).con = some c → c.n ≠ m := fun j c hj _ hc => hnc c ((hmemc c).2 ⟨j, hj, hc⟩)
        rcases addHp_some _ _ _ _ _ hm with ⟨i, rfl, h3⟩ | h3
        · have hidx : i < n := by
            rcases Nat.lt_or_ge i n with h | h
            · exact h
            · rw [List.getD_eq_getElem?_getD, List.getElem?_eq_none (by simp [hrn]; exact h)] at h3
              cases h3
          rw [hha.new i hidx (hall _ hidx) hno]
          simp only [List.getD_eq_getElem?_getD, List.getElem?_map] at h3 ⊢
          rw [List.getElem?_eq_getElem (by omega)] at h3 ⊢
          exact h3
        · rw [hha.old m (hdomS m b h3) hno]; exact h3
    refine wpList_of hQ (ops.toList.drop n) tl n htl (fun j => by simp [List.getElem?_drop]) K' ⟨_, _, s.nx + n⟩ a' ⟨hr.le.trans (hdr.trans hle), ?_, hrel.weaken hhp, ?_, ?_, (by show Marks _ _ a'.defers; rw [inv'.defers]; exact hr.defers.kept (hdr.trans hle).below)⟩ hfin
    · show Slots K' _ a'
      rw [← hslEq]
      exact hsl'
    · intro m hm
      show m < s.nx + n ∧ _
      rcases hlive m hm with e2 | ⟨i, hi, e3, _⟩
      · have := hr.live m e2
        exact ⟨by omega, this.2⟩
      · exact ⟨by omega, .inr (by have := hr.nx; omega)⟩
    · show nx0 ≤ s.nx + n
      have := hr.nx; omega
  · have e : (List.range n).filter (fun i => !(Array.replicate ops.size false).getD i true) = List.range n := by
      rw [List.filter_eq_self]
      intro x hx
      have : x < ops.size := by have := List.mem_range.1 hx; omega
      simp [Array.getD, this]
    rw [e]; simp

end Go.Proofs.Ythcedfamidlbdaa
