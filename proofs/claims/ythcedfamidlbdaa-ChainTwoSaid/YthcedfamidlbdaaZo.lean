/-
The abstract layer, fifteenth part: which slots an operation looks at. No program in sight. No conditions.
-/
import Derived.Test.YthcedfamidlbdaaZn
namespace Go.Proofs.Ythcedfamidlbdaa
set_option linter.unusedSimpArgs false
set_option linter.unusedVariables false
set_option linter.unusedSectionVars false
open Go.RowKit

def LArg.slots : LArg → List Nat
  | .slot t => [t]
  | .const _ => []
def oslots : Option LArg → List Nat
  | none => []
  | some l => l.slots
def LVal.slots : LVal → List Nat
  | .move x => x.slots
  | .pick c a b => c.slots ++ (a.slots ++ b.slots)
  | .load _ x => x.slots
  | .nilCheck x => x.slots
  | .bin _ x y => x.slots ++ y.slots
  | .eq _ _ x y => x.slots ++ y.slots
  | .not x => x.slots
  | .neg x => x.slots
  | .conv _ x => x.slots
  | .mkif _ x => x.slots
  | .mkfn _ a b => a.flatMap LArg.slots ++ b.flatMap LArg.slots
  | .fldA _ x => x.slots
  | .fld _ _ x => x.slots
  | .idxA _ x i => x.slots ++ i.slots
  | .idxP _ _ x i => x.slots ++ i.slots
  | .len x => x.slots
  | .slen x => x.slots
  | .ext x _ => x.slots
  | .build _ ps => ps.flatMap fun p => p.2.2.slots
  | .slc _ x lo hi mx => x.slots ++ (oslots lo ++ (oslots hi ++ oslots mx))
  | .slcs x lo hi => x.slots ++ (oslots lo ++ oslots hi)
  | .never => []
  | .capv x => x.slots
  | .mnx _ x y => x.slots ++ y.slots
  | .asrt _ _ x => x.slots
  | .asrq _ x => x.slots
def LOp.slots : LOp → List Nat
  | .val x => x.slots
  | .box _ x => x.slots
  | .bslice _ es => es.flatMap LArg.slots
  | .append _ _ x y => x.slots ++ y.slots
  | .store _ x v => x.slots ++ v.slots
  | .call _ args => args.flatMap LArg.slots
  | .callv x args => x.slots ++ args.flatMap LArg.slots
  | .mkz _ _ x _ => x.slots
  | .appz _ _ x y _ => x.slots ++ y.slots
  | .clear _ x _ => x.slots
  | .callw _ args fl => args.flatMap LArg.slots ++ fl.flatMap LArg.slots
def LOper.slots (o : LOper) : List Nat :=
  (match o.g with
   | some (t, _) => [t]
   | none => []) ++ o.op.slots

def Alike (sl sl' : List V) (ts : List Nat) : Prop := ∀ t ∈ ts, sl.getD t V.undef = sl'.getD t V.undef
theorem Alike.left {sl sl' : List V} {a b : List Nat} (h : Alike sl sl' (a ++ b)) : Alike sl sl' a := fun t ht => h t (List.mem_append.2 (.inl ht))
theorem Alike.right {sl sl' : List V} {a b : List Nat} (h : Alike sl sl' (a ++ b)) : Alike sl sl' b := fun t ht => h t (List.mem_append.2 (.inr ht))
theorem LArg.ev_congr {sl sl' : List V} {x : LArg} (h : Alike sl sl' x.slots) : x.ev sl = x.ev sl' := by
  cases x with
  | slot t => exact h t (by simp [LArg.slots])
  | const v => rfl
theorem evs_congr {sl sl' : List V} {xs : List LArg} (h : Alike sl sl' (xs.flatMap LArg.slots)) : xs.map (LArg.ev sl) = xs.map (LArg.ev sl') :=
  List.map_congr_left fun x hx => LArg.ev_congr fun t ht => h t (List.mem_flatMap.2 ⟨x, hx, ht⟩)

theorem bval_congr {sl sl' : List V} {d : Int} {o : Option LArg} (h : Alike sl sl' (oslots o)) : bval sl d o = bval sl' d o := by
  cases o with
  | none => rfl
  | some l => simp only [bval, LArg.ev_congr (x := l) h]
theorem ogive_congr {sl sl' : List V} {o : Option LArg} (h : Alike sl sl' (oslots o)) : ogive sl o = ogive sl' o := by
  cases o with
  | none => rfl
  | some l => simp only [ogive, LArg.ev_congr (x := l) h]

theorem LVal.sem_congr {sl sl' : List V} {h : Hp} {R : V → Prop} {l : LVal} (ha : Alike sl sl' l.slots) : l.sem sl h R ↔ l.sem sl' h R := by
  cases l with
  | move x => simp only [LVal.sem, LArg.ev_congr (x := x) ha]
  | pick c a b => simp only [LVal.sem, LArg.ev_congr (x := c) ha.left, LArg.ev_congr (x := a) (Alike.left ha.right), LArg.ev_congr (x := b) (Alike.right ha.right)]
  | load t x => simp only [LVal.sem, LArg.ev_congr (x := x) ha]
  | nilCheck x => simp only [LVal.sem, LArg.ev_congr (x := x) ha]
  | bin op x y => simp only [LVal.sem, LArg.ev_congr (x := x) ha.left, LArg.ev_congr (x := y) ha.right]
  | eq n t x y => simp only [LVal.sem, LArg.ev_congr (x := x) ha.left, LArg.ev_congr (x := y) ha.right]
  | not x => simp only [LVal.sem, LArg.ev_congr (x := x) ha]
  | neg x => simp only [LVal.sem, LArg.ev_congr (x := x) ha]
  | conv k x => simp only [LVal.sem, LArg.ev_congr (x := x) ha]
  | mkif t x => simp only [LVal.sem, LArg.ev_congr (x := x) ha]
  | mkfn f a b => simp only [LVal.sem, evs_congr (xs := a) ha.left, evs_congr (xs := b) ha.right]
  | fldA o x => simp only [LVal.sem, LArg.ev_congr (x := x) ha]
  | fld t o x => simp only [LVal.sem, LArg.ev_congr (x := x) ha]
  | idxA k x i => simp only [LVal.sem, LArg.ev_congr (x := x) ha.left, LArg.ev_congr (x := i) ha.right]
  | idxP n k x i => simp only [LVal.sem, LArg.ev_congr (x := x) ha.left, LArg.ev_congr (x := i) ha.right]
  | len x => simp only [LVal.sem, LArg.ev_congr (x := x) ha]
  | slen x => simp only [LVal.sem, LArg.ev_congr (x := x) ha]
  | ext x i => simp only [LVal.sem, LArg.ev_congr (x := x) ha]
  | slc k x lo hi mx =>
    have h1 := Alike.left ha.right
    have h2 := Alike.left (Alike.right ha.right)
    have h3 := Alike.right (Alike.right ha.right)
    simp only [LVal.sem, LArg.ev_congr (x := x) ha.left, bval_congr h1, bval_congr h2, bval_congr h3, ogive_congr h2, ogive_congr h3]
  | slcs x lo hi =>
    simp only [LVal.sem, LArg.ev_congr (x := x) ha.left, bval_congr (Alike.left ha.right), bval_congr (Alike.right ha.right)]
  | never => exact Iff.rfl
  | capv x => simp only [LVal.sem, LArg.ev_congr (x := x) ha]
  | mnx b x y => simp only [LVal.sem, LArg.ev_congr (x := x) ha.left, LArg.ev_congr (x := y) ha.right]
  | asrt t z x => simp only [LVal.sem, LArg.ev_congr (x := x) ha]
  | asrq t x => simp only [LVal.sem, LArg.ev_congr (x := x) ha]
  | build z ps =>
    have e : ∀ p ∈ ps, p.2.2.ev sl = p.2.2.ev sl' := fun p hp => LArg.ev_congr fun t ht => ha t (List.mem_flatMap.2 ⟨p, hp, ht⟩)
    have e1 : (ps.map fun p => (p.1, (p.2.2.ev sl).cells)) = ps.map fun p => (p.1, (p.2.2.ev sl').cells) := List.map_congr_left fun p hp => by rw [e p hp]
    have e2 : (∀ p ∈ ps, (p.2.2.ev sl).fits p.2.1 = true ∧ p.1 + p.2.1.size ≤ z.length) ↔ ∀ p ∈ ps, (p.2.2.ev sl').fits p.2.1 = true ∧ p.1 + p.2.1.size ≤ z.length :=
      ⟨fun h p hp => by rw [← e p hp]; exact h p hp, fun h p hp => by rw [e p hp]; exact h p hp⟩
    simp only [LVal.sem, e1, e2]

theorem LOp.dsem_congr {P : Program} {sl sl' : List V} {h : Hp} {a : Nat} {R : DRes → Prop} {l : LOp} (ha : Alike sl sl' l.slots) : l.dsem P sl h a R ↔ l.dsem P sl' h a R := by
  cases l with
  | val x => exact LVal.sem_congr (R := fun v => R ⟨v, none, none⟩) ha
  | box k x => simp only [LOp.dsem, LArg.ev_congr (x := x) ha]
  | bslice k es =>
    have e : ∀ p ∈ es, p.ev sl = p.ev sl' := fun p hp => LArg.ev_congr fun t ht => ha t (List.mem_flatMap.2 ⟨p, hp, ht⟩)
    have e2 : (∀ p ∈ es, (p.ev sl).fits k = true) ↔ ∀ p ∈ es, (p.ev sl').fits k = true :=
      ⟨fun h p hp => by rw [← e p hp]; exact h p hp, fun h p hp => by rw [e p hp]; exact h p hp⟩
    simp only [LOp.dsem, evs_congr (xs := es) ha, e2]
  | append k b x y => simp only [LOp.dsem, LArg.ev_congr (x := x) ha.left, LArg.ev_congr (x := y) ha.right]
  | store t x v => simp only [LOp.dsem, LArg.ev_congr (x := x) ha.left, LArg.ev_congr (x := v) ha.right]
  | mkz k b x z => simp only [LOp.dsem, LArg.ev_congr (x := x) ha]
  | appz k b x y z => simp only [LOp.dsem, LArg.ev_congr (x := x) ha.left, LArg.ev_congr (x := y) ha.right]
  | clear k x z => exact Iff.rfl
  | callw f args fl =>
    have e : ∀ p ∈ fl, p.ev sl = p.ev sl' := fun p hp => LArg.ev_congr fun t ht => ha.right t (List.mem_flatMap.2 ⟨p, hp, ht⟩)
    have e2 : ∀ c : Option Con, (∀ c', c = some c' → ∀ x ∈ fl, ∀ m k i o, x.ev sl = .ptr m k i o → m ≠ c'.n) ↔ ∀ c', c = some c' → ∀ x ∈ fl, ∀ m k i o, x.ev sl' = .ptr m k i o → m ≠ c'.n := fun c =>
      ⟨fun h c' hc x hx m k i o he => h c' hc x hx m k i o (by rw [e x hx]; exact he), fun h c' hc x hx m k i o he => h c' hc x hx m k i o (by rw [← e x hx]; exact he)⟩
    simp only [LOp.dsem, evs_congr (xs := args) ha.left, e2]
  | call f args => simp only [LOp.dsem, evs_congr (xs := args) ha]
  | callv x args => simp only [LOp.dsem, LArg.ev_congr (x := x) ha.left, evs_congr (xs := args) ha.right]

theorem doper_congr {P : Program} {sl sl' : List V} {h : Hp} {a : Nat} {R : DRes → Prop} {o : LOper} (ha : Alike sl sl' o.slots) : doper P h a o sl R ↔ doper P h a o sl' R := by
  unfold doper
  unfold LOper.slots at ha
  cases hg : o.g with
  | none => rw [hg] at ha; exact LOp.dsem_congr ha.right
  | some p =>
    obtain ⟨t, want⟩ := p
    rw [hg] at ha
    have e : sl.getD t V.undef = sl'.getD t V.undef := ha t (by simp)
    simp only [e]
    have := LOp.dsem_congr (P := P) (h := h) (a := a) (R := R) ha.right
    split
    · split
      · exact this
      · exact Iff.rfl
    · exact Iff.rfl
    · exact Iff.rfl

/-- What an operation looks at in memory. -/
def LOp.touch (sl : List V) (m : Nat) : LOp → Prop
  | .val (.load _ x) => ∃ k i o, x.ev sl = .ptr m k i o
  | .call _ _ => True
  | .callv _ _ => True
  | .callw _ _ _ => True
  | _ => False
theorem LVal.sem_at {sl : List V} {h h' : Hp} {R : V → Prop} {l : LVal} (hh : ∀ n k es, h n = some (.arr k es) → (LOp.val l).touch sl n → h' n = some (.arr k es)) (hs : l.sem sl h R) : l.sem sl h' R := by
  cases l with
  | load t x =>
    simp only [LVal.sem] at hs ⊢
    revert hs
    split
    · rename_i n k i o he
      split
      · rename_i k' es hn
        rintro ⟨a, b, c, d⟩
        rw [hh _ _ _ hn ⟨k, i, o, he⟩]
        exact ⟨a, b, c, d⟩
      · exact False.elim
    · exact id
    · exact id
  | _ => exact hs
/-- As it was lowered. -/
def LOp.base : LOp → LOp
  | .callw f args _ => .call f args
  | o => o

/-- One operation of the head, at whatever is there when its turn comes. -/
structure DStep (P : Program) (K : Ker) (h : Hp) (a : Nat) (d : DRes) (o : Oper) (act : Act) : Prop where
  go : ∀ (rd : Option Nat) (m : Nat) (next : Act → World → Prop) (Q : Exit → Act → World → Prop),
    (∀ K' cv h', K.le K' → VR K' d.v cv → Rel K' h' → (∀ n, K'.live n → K.live n ∨ n = a) →
      (∀ m, m ≠ a → (∀ c, d.con = some c → m ≠ c.n) → h' m = h m) → (h' a = d.add) → (∀ c, d.con = some c → c.n ≠ a → h' c.n = c.new) → next (act.put o.dst cv) K'.w) → o.wpIn (FR rd) m P act K.w next Q

/-- The names of a callee's own are forgotten; what it made goes by the name a. -/
theorem only_back {K K1 : Ker} {h hx : Hp} {a : Nat} {b : Blk} (hr : Rel K h) (hle : K.le (K1.only fun n => K.live n ∨ n = a)) (hrel : Rel K1 (hx.set a b)) (hxl : ∀ n c, n ≠ a → hx n = some c → h n = some c) (hb : ∀ k es, b = .arr k es → ∀ L, namesL L es) (hob : ∀ o U, b ≠ .obj o U) : Rel (K1.only fun n => K.live n ∨ n = a) (hx.set a b) := by
  have hsplit : ∀ n c, (hx.set a b) n = some c → (n = a ∧ c = b) ∨ (n ≠ a ∧ h n = some c) := fun n c e => by
    unfold Hp.set at e
    split at e
    · rename_i hn; injection e with e; exact .inl ⟨hn, e.symm⟩
    · rename_i hn; exact .inr ⟨hn, hxl n c hn e⟩
  refine ⟨fun n c e => ?_, hrel.base, fun n c e => ?_, hrel.inj, hrel.size⟩
  · rcases hsplit n c e with ⟨h1, _⟩ | ⟨_, h1⟩
    · exact .inr h1
    · exact .inl (hr.lt n c h1)
  · have hb' := hrel.blk n c e
    rcases hsplit n c e with ⟨hna, hcb⟩ | ⟨hna, h1⟩
    · subst hna hcb
      cases hb' with
      | tip c T hh hi ht => exact .tip c T hh hi ht
      | obj o U hh ho _ hU => exact absurd rfl (hob o U)
      | arr k es c T hh hsz hi hfit hvs => exact .arr k es c T hh hsz hi hfit fun i hi j hj => (hvs i hi j hj).only _ (names_cell (namesL_get (hb k es rfl _) i) j)
    · have hb := hr.blk n _ h1
      cases hb' with
      | tip c T hh hi ht => exact .tip c T hh hi ht
      | obj o U hh ho _ hU =>
        cases hb with
        | obj _ _ _ _ hu _ => exact .obj o U hh ho (hU _ _ hle.toV hu) hU
      | arr k' es' c T hh hsz hi hfit hvs =>
        refine .arr k' es' c T hh hsz hi hfit fun i hi j hj => (hvs i hi j hj).only _ ?_
        cases hb with
        | arr _ _ c0 T0 hh0 hsz0 hi0 hfit0 hvs0 => exact names_mono (fun m hm => .inl hm) (hvs0 i hi j hj).names

theorem dstep {P : Program} {o : Oper} {l : LOp} (hl : lowerOp P o = some l.base) {act : Act} {K : Ker} {sl : List V} {h h0 : Hp} {a nx : Nat} {d : DRes} (hs : ∀ t, VR K (sl.getD t V.undef) (act.tmps.getD t Go.undef)) (hr : Rel K h) (hfresh : ¬ K.live a) (hlv : ∀ n, K.live n → n < nx) (ha : a < nx)
    (hvis : ∀ m k es, h0 m = some (.arr k es) → l.touch sl m → h m = some (.arr k es)) (htok : ∀ c, d.con = some c → h c.n = some c.old) (hsem : l.dsem P sl h0 a (· = d)) : DStep P K h a d o act := by
  have hna : h a = none := by
    cases e : h a with
    | none => rfl
    | some b => exact absurd (hr.lt a b e) hfresh
  have viaM : ∀ (v : V) (h' : Hp), YieldsM P o act K a (fun v' h'' => v' = v ∧ h'' = h') → d.v = v → (∀ m, m ≠ a → (∀ c, d.con = some c → m ≠ c.n) → h' m = h m) → (h' a = d.add) → (∀ c, d.con = some c → c.n ≠ a → h' c.n = c.new) → DStep P K h a d o act := by
    rintro v h' ⟨nx', cv, K', v', h'', h1, h2, h3, h4, h5, h6, rfl, rfl⟩ hv c1 c2 c3
    subst hv
    refine ⟨fun rd m next Q hn => ?_⟩
    have := hn K' cv _ h3 h5 h6 h4 c1 c2 c3
    rcases h2 with rfl | ⟨rfl, rfl⟩
    · exact wpIn_value h1 this
    · exact wpIn_noval h1 this
  have pureCall : ∀ (f : FuncId) (args : List V) (v : V), (∀ m, l.touch sl m) → ((∃ la, l.base = .call f la ∧ args = la.map (LArg.ev sl)) ∨ ∃ x la first cap, l.base = .callv x la ∧ x.ev sl = .fn (.func f) first cap ∧ args = first ++ la.map (LArg.ev sl) ++ cap) → Pure P f args h0 v → (⟨v, none, none⟩ : DRes) = d → DStep P K h a d o act := by
    intro f args v ht hc hp hd
    subst hd
    refine ⟨fun rd m next Q hn => ?_⟩
    refine lopC_sound hl hs hr hlv hc (hp h nx fun m k es e => hvis m k es e (ht m)) rd m next Q ?_
    rintro K' v' cv h' nx' q1 q2 q3 q4 q5 ⟨rfl, rfl, rfl⟩
    exact hn K' cv h' q1 q2 q3 (fun n hn => (q4 n hn).2.imp (fun x => x) (fun x => absurd (q4 n hn).1 (by omega))) (fun _ _ _ => rfl) hna (fun n hn => by cases hn)
  have hnn : h nx = none := by
    cases e : h nx with
    | none => rfl
    | some b => have := hlv nx (hr.lt nx b e); omega
  have freshCall : ∀ (f : FuncId) (args : List V) (k : Sh) (es : List V), (∀ m, l.touch sl m) → ((∃ la, l.base = .call f la ∧ args = la.map (LArg.ev sl)) ∨ ∃ x la first cap, l.base = .callv x la ∧ x.ev sl = .fn (.func f) first cap ∧ args = first ++ la.map (LArg.ev sl) ++ cap) → Fresh P f args h0 k es → (⟨.sl k (.tok a) es, some .tip, none⟩ : DRes) = d → DStep P K h a d o act := by
    intro f args k es ht hc hp hd
    subst hd
    refine ⟨fun rd m next Q hn => ?_⟩
    refine lopC_sound hl hs hr hlv hc (hp.2 h nx fun m k es e => hvis m k es e (ht m)) rd m next Q ?_
    rintro K' v' cv h' nx' q1 q2 q3 q4 q5 ⟨rfl, rfl, rfl⟩
    have hfr : ¬ K'.live a := fun hl => by
      rcases (q4 a hl).2 with h | h
      · exact hfresh h
      · omega
    have hset : (h.set nx .tip) nx = some .tip := by simp [Hp.set]
    have hdel : ((h.set nx .tip).del nx).set a .tip = h.set a .tip := by
      funext x
      unfold Hp.set Hp.del
      by_cases e1 : x = a
      · simp [e1]
      · by_cases e2 : x = nx
        · simp [e1, e2, hnn]
        · simp [e1, e2]
    have hbr := q3.blk nx _ hset
    have hle := K'.le_claim (b := K'.mu nx) (m := K'.imm (K'.mu nx)) hfr (Nat.le_refl _)
    have hrel := q3.claim hset (a := a) (m := K'.imm (K'.mu nx)) hfr (Nat.le_refl _) (b1 := .tip) (by
      cases hbr with
      | tip c T hh hi ht => exact .tip c T (by simpa [Ker.claim] using hh) (by simp [Ker.claim]) (by simpa [Ker.claim, hi] using ht))
    rw [hdel] at hrel
    have hvr : VR (K'.claim a (K'.mu nx) (K'.imm (K'.mu nx))) (.sl k (.tok a) es) cv := by
      cases q2 with
      | sl _ _ _ b off cap f' hb' hfit' hcell hst hv hcap hnil hfull htok =>
        refine .sl k (.tok a) es b off cap f' hb' hfit' hcell (fun j hj => hle.still hb' (hst j hj)) (fun i hi j hj => (hv i hi j hj).mono hle) hcap (by simp) (by simp) ?_
        intro m hm
        injection hm with hm
        subst hm
        obtain ⟨hln, htk⟩ := htok nx rfl
        refine ⟨.inl rfl, ?_⟩
        rcases htk with q | ⟨q1, q2, q3⟩
        · exact .inl q
        · refine .inr ⟨by simp [Ker.claim, q1], ?_, q3⟩
          cases hbr with
          | tip c T hh hi ht => simp [Ker.claim, hi, q2]
    have hle2 := q1.trans hle
    -- the callee's own names are forgotten
    have hleO : K.le ((K'.claim a (K'.mu nx) (K'.imm (K'.mu nx))).only fun n => K.live n ∨ n = a) := ⟨fun n hn => .inl hn, hle2.mu, hle2.tp, hle2.fro, hle2.imm, hle2.cell, hle2.shape, hle2.below⟩
    refine hn ((K'.claim a (K'.mu nx) (K'.imm (K'.mu nx))).only fun n => K.live n ∨ n = a) cv (h.set a .tip) hleO (hvr.only _ ⟨fun n e => by injection e with e; exact .inr e.symm, hp.1 _⟩) (only_back hr hleO hrel (fun n c hn e => e) (fun k es e => by cases e) (fun o U e => by cases e)) (fun n hn => hn) (fun m hm _ => by simp [Hp.set, hm]) (by simp [Hp.set]) (fun n hn => by cases hn)
  have turnCall : ∀ (f : FuncId) (args : List V) (c : Option Con) (v : Nat → V) (k : Sh) (es : List V), (∀ m, l.touch sl m) → ((∃ la, l.base = .call f la ∧ args = la.map (LArg.ev sl)) ∨ ∃ x la first cap, l.base = .callv x la ∧ x.ev sl = .fn (.func f) first cap ∧ args = first ++ la.map (LArg.ev sl) ++ cap) → Turn P f args h0 c v k es → (⟨v a, some (.arr k es), c⟩ : DRes) = d → DStep P K h a d o act := by
    rintro f args c v k es ht hc ⟨hmv, hnm, hcn, hp⟩ hd
    subst hd
    refine ⟨fun rd m next Q hn => ?_⟩
    refine lopC_sound hl hs hr hlv hc (hp h nx fun m k es e => hvis m k es e (ht m)) rd m next Q ?_
    rintro K' v' cv h' nx' q1 q2 q3 q4 q5 ⟨rfl, rfl, rfl⟩
    have hfr : ¬ K'.live a := fun hl => by
      rcases (q4 a hl).2 with h | h
      · exact hfresh h
      · omega
    have hset : ((h.turn c).set nx (.arr k es)) nx = some (.arr k es) := by simp [Hp.set]
    have hturn : ∀ m b, (h.turn c) m = some b → h m = some b := by
      intro m b e
      cases c with
      | none => exact e
      | some c =>
        have := (hcn c rfl).1
        simp only [Hp.turn, this, Hp.del] at e
        split at e
        · cases e
        · exact e
    have htn : (h.turn c) nx = none := by
      cases e : (h.turn c) nx with
      | none => rfl
      | some b => rw [hturn nx b e] at hnn; cases hnn
    have hta : (h.turn c) a = none := by
      cases e : (h.turn c) a with
      | none => rfl
      | some b => rw [hturn a b e] at hna; cases hna
    have hdel : (((h.turn c).set nx (.arr k es)).del nx).set a (.arr k es) = (h.turn c).set a (.arr k es) := by
      funext x
      unfold Hp.set Hp.del
      by_cases e1 : x = a
      · simp [e1]
      · by_cases e2 : x = nx
        · simp [e1, e2, htn]
        · simp [e1, e2]
    have hbr := q3.blk nx _ hset
    have hle := K'.le_claim (b := K'.mu nx) (m := K'.imm (K'.mu nx)) hfr (Nat.le_refl _)
    have hrel := q3.claim hset (a := a) (m := K'.imm (K'.mu nx)) hfr (Nat.le_refl _) (b1 := .arr k es) (by
      cases hbr with
      | arr _ _ c T hh hsz hi hfit hvs => exact .arr k es c T (by simpa [Ker.claim] using hh) hsz (by simp [Ker.claim, hi]) hfit fun i hi j hj => (hvs i hi j hj).mono hle)
    rw [hdel] at hrel
    have hle2 := q1.trans hle
    have hleO : K.le ((K'.claim a (K'.mu nx) (K'.imm (K'.mu nx))).only fun n => K.live n ∨ n = a) := ⟨fun n hn => .inl hn, hle2.mu, hle2.tp, hle2.fro, hle2.imm, hle2.cell, hle2.shape, hle2.below⟩
    refine hn ((K'.claim a (K'.mu nx) (K'.imm (K'.mu nx))).only fun n => K.live n ∨ n = a) cv ((h.turn c).set a (.arr k es)) hleO (hmv K' nx a cv _ hfr (.inr rfl) q2) (only_back hr hleO hrel (fun n c hn e => hturn n c e) (fun k' es' e L => by cases e; exact hnm L) (fun o U e => by cases e)) (fun n hn => hn) (fun m hm hmc => ?_) (by simp [Hp.set]) (fun c' hc' hne => ?_)
    · simp only [Hp.set, if_neg hm]
      cases c with
      | none => rfl
      | some c =>
        have hne := hmc c rfl
        have := (hcn c rfl).1
        simp only [Hp.turn, this, Hp.del, if_neg hne]
    · have hc' : c = some c' := hc'
      subst hc'
      have := (hcn c' rfl).1
      simp only [Hp.set, if_neg hne, Hp.turn, this, Hp.del, if_true]
  cases l with
  | val x =>
    obtain ⟨v, h1, h2⟩ := LVal.sem_det (show x.sem sl h0 (fun v => (⟨v, none, none⟩ : DRes) = d) from hsem)
    subst h2
    refine viaM v h (lopM_sound hl hs hr hfresh (show x.sem sl h (fun v' => v' = v ∧ h = h) from LVal.sem_mono (fun _ _ _ e => e) (fun v' hv => ⟨hv, rfl⟩) (LVal.sem_at hvis h1))) rfl (fun _ _ _ => rfl) hna (fun n hn => by cases hn)
  | box k x =>
    obtain ⟨h1, rfl⟩ := hsem
    exact viaM _ (h.set a (.arr k [x.ev sl])) (lopM_sound hl hs hr hfresh ⟨h1, rfl, rfl⟩) rfl (fun m hm _ => by simp [Hp.set, hm]) (by simp [Hp.set]) (fun n hn => by cases hn)
  | bslice k es =>
    rcases hsem with ⟨h1, rfl | rfl⟩
    · exact viaM _ (h.set a .tip) (lopM_sound hl hs hr hfresh ⟨h1, .inl ⟨rfl, rfl⟩⟩) rfl (fun m hm _ => by simp [Hp.set, hm]) (by simp [Hp.set]) (fun n hn => by cases hn)
    · exact viaM _ (h.set a (.arr k (es.map (LArg.ev sl)))) (lopM_sound hl hs hr hfresh ⟨h1, .inr ⟨rfl, rfl⟩⟩) rfl (fun m hm _ => by simp [Hp.set, hm]) (by simp [Hp.set]) (fun n hn => by cases hn)
  | append k bytes x y =>
    simp only [LOp.dsem] at hsem
    split at hsem
    · rename_i kx own xs ky own' ys ex ey
      obtain ⟨rfl, rfl, hb, hR⟩ := hsem
      have mk : ∀ (_ : appOK h own), YieldsM P o act K a (fun v' h'' => v' = .sl ky (appOwn a own ys) (xs ++ ys) ∧ h'' = appHp h a own ys) := fun hok =>
        lopM_sound hl hs hr hfresh (by simp only [LOp.sem, LOp.base, ex, ey, selems]; exact ⟨trivial, trivial, hb, .inl ⟨hok, trivial, trivial⟩⟩)
      cases own with
      | nil =>
        simp only at hR
        subst hR
        refine viaM _ _ (mk trivial) rfl (fun m hm _ => ?_) ?_ (fun n hn => by cases hn)
        · unfold appHp; simp only; split <;> simp [Hp.set, hm]
        · unfold appHp; simp only; split <;> simp [Hp.set, hna]
      | full =>
        simp only at hR
        subst hR
        refine viaM _ _ (mk trivial) rfl (fun m hm _ => ?_) ?_ (fun n hn => by cases hn)
        · unfold appHp; simp only; split <;> simp [Hp.set, hm]
        · unfold appHp; simp only; split <;> simp [Hp.set, hna]
      | tok n =>
        simp only at hR
        subst hR
        refine viaM _ _ (mk (htok _ rfl)) rfl (fun m hm hc => ?_) ?_ (fun c hn hne => ?_)
        · have := hc _ rfl; simp [appHp, Hp.set, Hp.del, hm]; intro e; exact absurd e this
        · simp [appHp, Hp.set]
        · injection hn with hn; subst hn; simp only at hne; simp [appHp, Hp.set, Hp.del, hne]
      | free => exact hR.elim
    · exact hsem.elim
  | store t x v =>
    simp only [LOp.dsem] at hsem
    split at hsem
    · rename_i n k i oo ex
      obtain ⟨es, h1, h2, h3, rfl⟩ := hsem
      have hn := htok _ rfl
      simp only at hn
      have hne : n ≠ a := fun e => by subst e; rw [hna] at hn; cases hn
      refine viaM V.undef (h.set n (.arr k (es.set i (storePart t oo (es.getD i V.undef) (v.ev sl))))) (lopM_sound hl hs hr hfresh (by simp only [LOp.sem, LOp.base, ex, hn]; exact ⟨trivial, h1, h2, h3, trivial, trivial⟩)) rfl (fun m hm hc => ?_) ?_ (fun c hc _ => ?_)
      · have := hc _ rfl; simp [Hp.set]; intro e; exact absurd e this
      · simp [Hp.set, Ne.symm hne, hna]
      · injection hc with hc; subst hc; simp [Hp.set]
    · exact hsem.elim
  | mkz k b x z =>
    simp only [LOp.dsem] at hsem
    split at hsem
    · rename_i km m ex
      rcases hsem with ⟨h1, h2, rfl | rfl⟩
      · exact viaM _ _ (lopM_sound hl hs hr hfresh (by simp only [LOp.sem, LOp.base, ex]; exact ⟨h1, h2, .inl ⟨trivial, rfl⟩⟩)) rfl (fun m hm _ => by simp [Hp.set, hm]) (by simp [Hp.set]) (fun n hn => by cases hn)
      · exact viaM _ _ (lopM_sound hl hs hr hfresh (by simp only [LOp.sem, LOp.base, ex]; exact ⟨h1, h2, .inr ⟨trivial, rfl⟩⟩)) rfl (fun m hm _ => by simp [Hp.set, hm]) (by simp [Hp.set]) (fun n hn => by cases hn)
    · exact hsem.elim
  | appz k b x y z =>
    simp only [LOp.dsem] at hsem
    split at hsem
    · rename_i k' ky m ex ey
      obtain ⟨rfl, h1, h2, rfl⟩ := hsem
      exact viaM _ _ (lopM_sound hl hs hr hfresh (by simp only [LOp.sem, LOp.base, ex, ey]; exact ⟨trivial, h1, h2, trivial, rfl⟩)) rfl (fun m hm _ => by simp [Hp.set, hm]) (by simp [Hp.set]) (fun n hn => by cases hn)
    · exact hsem.elim
  | clear k x z => exact hsem.elim
  | call f args =>
    rcases hsem with ⟨v, h1, h2⟩ | ⟨k, es, h1, h2⟩ | ⟨v, k, es, h1, h2⟩
    · exact pureCall f _ v (fun _ => trivial) (.inl ⟨args, rfl, rfl⟩) h1 h2
    · exact freshCall f _ k es (fun _ => trivial) (.inl ⟨args, rfl, rfl⟩) h1 h2
    · exact turnCall f _ none v k es (fun _ => trivial) (.inl ⟨args, rfl, rfl⟩) h1 h2
  | callw f args fl =>
    rcases hsem with ⟨v, h1, h2⟩ | ⟨k, es, h1, h2⟩ | ⟨c, v, k, es, h1, _, h2⟩
    · exact pureCall f _ v (fun _ => trivial) (.inl ⟨args, rfl, rfl⟩) h1 h2
    · exact freshCall f _ k es (fun _ => trivial) (.inl ⟨args, rfl, rfl⟩) h1 h2
    · exact turnCall f _ c v k es (fun _ => trivial) (.inl ⟨args, rfl, rfl⟩) h1 h2
  | callv x args =>
    simp only [LOp.dsem] at hsem
    split at hsem
    · rename_i f first cap e
      rcases hsem with ⟨v, h1, h2⟩ | ⟨k, es, h1, h2⟩
      · exact pureCall f _ v (fun _ => trivial) (.inr ⟨x, args, first, cap, rfl, e, rfl⟩) h1 h2
      · exact freshCall f _ k es (fun _ => trivial) (.inr ⟨x, args, first, cap, rfl, e, rfl⟩) h1 h2
    · exact hsem.elim

end Go.Proofs.Ythcedfamidlbdaa
