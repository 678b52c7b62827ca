/-
The abstract layer, fourteenth part: regions that draw their order: the head's operations in the order of the text, each reading only the memory that was there before the region. No program in sight. Conditions: a closed test of the region.
-/
import Derived.Test.YthcedfamidlbdaaZm
import Derived.StillTailTactics
namespace Go.Proofs.Ythcedfamidlbdaa
set_option linter.unusedSimpArgs false
set_option linter.unusedVariables false
set_option linter.unusedSectionVars false
open Go.RowKit

/-- Memory that has at least these rows. -/
def Hp.has (h h' : Hp) : Prop := ∀ n k es, h n = some (.arr k es) → h' n = some (.arr k es)
/-- A call that hands over a value and leaves memory and names as they are. -/
def Pure (P : Program) (f : FuncId) (args : List V) (h : Hp) (v : V) : Prop :=
  ∀ h' nx, h.has h' → ACalls P f args h' nx fun v' h'' nx' => v' = v ∧ h'' = h' ∧ nx' = nx
/-- A call that hands over a fresh slice, whose end may be appended to. -/
def Fresh (P : Program) (f : FuncId) (args : List V) (h : Hp) (k : Sh) (es : List V) : Prop :=
  (∀ L, namesL L es) ∧ ∀ h' nx, h.has h' → ACalls P f args h' nx fun v' h'' nx' => v' = .sl k (.tok nx) es ∧ h'' = h'.set nx .tip ∧ nx' = nx + 1

/-- What lies in a block that an operation takes: before, and from then on. -/
structure Con where
  n : Nat
  old : Blk
  new : Option Blk
def Hp.turn (h : Hp) : Option Con → Hp
  | none => h
  | some c => match c.new with
    | some b => h.set c.n b
    | none => h.del c.n
/-- A value that names one block at most may name it otherwise. -/
def Moves (v : Nat → V) : Prop := ∀ (K : Ker) (a a' : Nat) (cv : Value) (L : Nat → Prop), ¬ K.live a' → L a' → VR K (v a) cv → VR ((K.claim a' (K.mu a) (K.imm (K.mu a))).only L) (v a') cv
/-- A call that takes a block, if c says so, and makes an array. -/
def Turn (P : Program) (f : FuncId) (args : List V) (h : Hp) (c : Option Con) (v : Nat → V) (k : Sh) (es : List V) : Prop :=
  Moves v ∧ (∀ L, namesL L es) ∧ (∀ c', c = some c' → c'.new = none ∧ (∃ k es, c'.old = .arr k es) ∧ h c'.n = some c'.old) ∧
    ∀ h' nx, h.has h' → ACalls P f args h' nx fun v' h'' nx' => v' = v nx ∧ h'' = (h'.turn c).set nx (.arr k es) ∧ nx' = nx + 1

/-- What an operation of the head yields: a value, what it makes, which block it takes. -/
structure DRes where
  v : V
  add : Option Blk
  con : Option Con

def addHp : Hp → Nat → List (Option Blk) → Hp
  | h, _, [] => h
  | h, a, none :: r => addHp h (a + 1) r
  | h, a, some b :: r => addHp (h.set a b) (a + 1) r
/-- Without what is taken. -/
def delHp : Hp → List (Option Con) → Hp
  | h, [] => h
  | h, none :: r => delHp h r
  | h, some c :: r => delHp (h.del c.n) r
/-- With what is taken as it is from then on. -/
def wrHp : Hp → List (Option Con) → Hp
  | h, [] => h
  | h, c :: r => wrHp (h.turn c) r
def untaken (n : Nat) : List (Option Con) → Prop
  | [] => True
  | none :: r => untaken n r
  | some c :: r => n ≠ c.n ∧ untaken n r
theorem untaken_iff {n : Nat} : ∀ {cons : List (Option Con)}, untaken n cons ↔ ∀ c, some c ∈ cons → n ≠ c.n
  | [] => by simp [untaken]
  | none :: r => by simp [untaken, untaken_iff (cons := r)]
  | some c :: r => by
    simp only [untaken, untaken_iff (cons := r), List.mem_cons, Option.some.injEq]
    exact ⟨fun h c' hc => hc.elim (fun e => by rw [e]; exact h.1) (h.2 c'), fun h => ⟨h c (.inl rfl), fun c' hc => h c' (.inr hc)⟩⟩
theorem delHp_some : ∀ {cons : List (Option Con)} {h : Hp} {m : Nat} {b : Blk}, delHp h cons m = some b → untaken m cons ∧ h m = some b
  | [], h, m, b, e => ⟨trivial, e⟩
  | none :: r, h, m, b, e => delHp_some (cons := r) e
  | some c :: r, h, m, b, e => by
    obtain ⟨h1, h2⟩ := delHp_some (cons := r) e
    unfold Hp.del at h2
    split at h2
    · cases h2
    · rename_i hne
      exact ⟨⟨hne, h1⟩, h2⟩

def LOp.dsem (P : Program) (sl : List V) (h0 : Hp) (a : Nat) (R : DRes → Prop) : LOp → Prop
  | .val x => x.sem sl h0 fun v => R ⟨v, none, none⟩
  | .box k x => (x.ev sl).fits k = true ∧ R ⟨.ptr a k 0 0, some (.arr k [x.ev sl]), none⟩
  | .bslice k es => (∀ e ∈ es, (e.ev sl).fits k = true) ∧ (R ⟨.sl k (.tok a) (es.map (LArg.ev sl)), some .tip, none⟩ ∨ R ⟨.rs a k 0 es.length, some (.arr k (es.map (LArg.ev sl))), none⟩)
  | .append k bytes x y => match x.ev sl, y.ev sl with
    | .sl kx own xs, .sl ky _ ys => kx = k ∧ ky = k ∧ (xs.length + ys.length) * bytes ≤ 140737488355328 ∧ (match own with
      | .nil => R ⟨.sl k (appOwn a .nil ys) (xs ++ ys), if ys.isEmpty then none else some .tip, none⟩
      | .full => R ⟨.sl k (appOwn a .full ys) (xs ++ ys), if ys.isEmpty then none else some .tip, none⟩
      | .tok n => R ⟨.sl k (.tok a) (xs ++ ys), some .tip, some ⟨n, .tip, none⟩⟩
      | .free => False)
    | _, _ => False
  | .store t x v => match x.ev sl with
    | .ptr n k i o => ∃ es, i < es.length ∧ partOK k t o ∧ (v.ev sl).fits t = true ∧ R ⟨V.undef, none, some ⟨n, .arr k es, some (.arr k (es.set i (storePart t o (es.getD i V.undef) (v.ev sl))))⟩⟩
    | _ => False
  | .call f args => (∃ v, Pure P f (args.map (LArg.ev sl)) h0 v ∧ R ⟨v, none, none⟩) ∨ (∃ k es, Fresh P f (args.map (LArg.ev sl)) h0 k es ∧ R ⟨.sl k (.tok a) es, some .tip, none⟩) ∨
      ∃ v k es, Turn P f (args.map (LArg.ev sl)) h0 none v k es ∧ R ⟨v a, some (.arr k es), none⟩
  | .callv x args => match x.ev sl with
    | .fn (.func f) first cap => (∃ v, Pure P f (first ++ args.map (LArg.ev sl) ++ cap) h0 v ∧ R ⟨v, none, none⟩) ∨ ∃ k es, Fresh P f (first ++ args.map (LArg.ev sl) ++ cap) h0 k es ∧ R ⟨.sl k (.tok a) es, some .tip, none⟩
    | _ => False
  | .mkz k bytes x z => match x.ev sl with
    | .int _ m => 0 ≤ m ∧ m.toNat * bytes ≤ 140737488355328 ∧ (R ⟨.rs a k 0 m.toNat, some (.arr k (List.replicate m.toNat z)), none⟩ ∨ R ⟨.sl k (.tok a) (List.replicate m.toNat z), some .tip, none⟩)
    | _ => False
  | .appz k bytes x y z => match x.ev sl, y.ev sl with
    | .sl k' .nil [], .int _ m => k' = k ∧ 0 < m ∧ m.toNat * bytes ≤ 140737488355328 ∧ R ⟨.rs a k 0 m.toNat, some (.arr k (List.replicate m.toNat z)), none⟩
    | _, _ => False
  | .clear _ _ _ => False
  | .callw f args fl => (∃ v, Pure P f (args.map (LArg.ev sl)) h0 v ∧ R ⟨v, none, none⟩) ∨ (∃ k es, Fresh P f (args.map (LArg.ev sl)) h0 k es ∧ R ⟨.sl k (.tok a) es, some .tip, none⟩) ∨
      ∃ c v k es, Turn P f (args.map (LArg.ev sl)) h0 c v k es ∧ (∀ c', c = some c' → ∀ x ∈ fl, ∀ m k i o, x.ev sl = .ptr m k i o → m ≠ c'.n) ∧ R ⟨v a, some (.arr k es), c⟩

/-- The blocks at hand: those of before, and of what stands ahead. -/
def conAt (h0 : Hp) (nx0 : Nat) (deps : List Nat) (adds : List (Option Blk)) (cons : List (Option Con)) (n : Nat) (b : Blk) : Prop :=
  untaken n cons ∧ ((n < nx0 ∧ h0 n = some b) ∨ ∃ d ∈ deps, n = nx0 + d ∧ adds.getD d none = some b)

def doper (P : Program) (h0 : Hp) (a : Nat) (o : LOper) (sl : List V) (R : DRes → Prop) : Prop :=
  match o.g with
  | none => o.op.dsem P sl h0 a R
  | some (t, want) => match sl.getD t V.undef with
    | .bool b => if b = want then o.op.dsem P sl h0 a R else R ⟨V.undef, none, none⟩
    | .tup _ => R ⟨V.undef, none, none⟩
    | _ => False

/-- The head, in the text's order; adds, cons: of the operations ahead. -/
def dops (P : Program) (h0 : Hp) (nx0 : Nat) : List (LOper × List Nat) → List V → List (Option Blk) → List (Option Con) → (List V → List (Option Blk) → List (Option Con) → Prop) → Prop
  | [], sl, adds, cons, Q => Q sl adds cons
  | (o, deps) :: r, sl, adds, cons, Q =>
    doper P (delHp h0 cons) (nx0 + adds.length) o sl fun d => (∀ c, d.con = some c → conAt h0 nx0 deps adds cons c.n c.old) ∧ dops P h0 nx0 r (putV sl o.dst d.v) (adds ++ [d.add]) (cons ++ [d.con]) Q

theorem LVal.sem_det {sl : List V} {h : Hp} {R : V → Prop} {l : LVal} (hs : l.sem sl h R) : ∃ v, l.sem sl h (· = v) ∧ R v := by
  cases l <;> simp only [LVal.sem] at hs ⊢
  case bin op x y =>
    revert hs
    split
    · rintro ⟨a, b⟩
      subst a
      cases op <;> simp only [ibin] at b ⊢ <;> first | exact ⟨_, ⟨trivial, rfl⟩, b⟩ | exact ⟨_, ⟨trivial, b.1, rfl⟩, b.2⟩ | exact b.elim
    · intro b
      cases op <;> simp only [sbin] at b ⊢ <;> first | exact ⟨_, rfl, b⟩ | exact ⟨_, ⟨b.1, rfl⟩, b.2⟩ | exact b.elim
    · exact False.elim
  case load t x =>
    revert hs
    split
    · split
      · rintro ⟨a, b, c, d⟩; exact ⟨_, ⟨a, b, c, rfl⟩, d⟩
      · exact False.elim
    · rintro ⟨b, c, d⟩; exact ⟨_, ⟨b, c, rfl⟩, d⟩
    · exact False.elim
  case build z parts => exact ⟨_, ⟨hs.1, rfl⟩, hs.2⟩
  case slc k x lo hi mx =>
    revert hs
    split
    · split
      · rintro ⟨a, b, c, d, e, f, g⟩; exact ⟨_, ⟨a, b, c, d, e, f, rfl⟩, g⟩
      · exact False.elim
    · split
      · rintro ⟨a, b, c, d, e⟩; exact ⟨_, ⟨a, b, c, d, rfl⟩, e⟩
      · exact False.elim
    · exact False.elim
  case slcs x lo hi =>
    revert hs
    split
    · split
      · rintro ⟨a, b, c, e⟩; exact ⟨_, ⟨a, b, c, rfl⟩, e⟩
      · exact False.elim
    · exact False.elim
  all_goals
    first
      | exact ⟨_, rfl, hs⟩
      | (revert hs; split <;> first | exact False.elim | exact fun h => ⟨_, rfl, h⟩ | (rintro ⟨a, b⟩; exact ⟨_, ⟨a, rfl⟩, b⟩) | (rintro ⟨a, c, b⟩; exact ⟨_, ⟨a, c, rfl⟩, b⟩) | (rintro ⟨a, c, d, b⟩; exact ⟨_, ⟨a, c, d, rfl⟩, b⟩))

theorem LOp.dsem_det {P : Program} {sl : List V} {h : Hp} {a : Nat} {R : DRes → Prop} {l : LOp} (hs : l.dsem P sl h a R) : ∃ d, l.dsem P sl h a (· = d) ∧ R d := by
  cases l <;> simp only [LOp.dsem] at hs ⊢
  case val x =>
    obtain ⟨v, h1, h2⟩ := LVal.sem_det hs
    exact ⟨_, LVal.sem_mono (fun _ _ _ h => h) (fun v' hv => by rw [hv]) h1, h2⟩
  case box k x => exact ⟨_, ⟨hs.1, rfl⟩, hs.2⟩
  case bslice k es =>
    rcases hs with ⟨h1, h2 | h2⟩
    · exact ⟨_, ⟨h1, .inl rfl⟩, h2⟩
    · exact ⟨_, ⟨h1, .inr rfl⟩, h2⟩
  case append k bytes x y =>
    revert hs
    split
    · rename_i kx own xs ky own' ys _ _
      rintro ⟨a, b, c, d⟩
      cases own <;> simp only at d ⊢ <;> first | exact ⟨_, ⟨a, b, c, rfl⟩, d⟩ | exact d.elim
    · exact False.elim
  case store t x v =>
    revert hs
    split
    · rintro ⟨es, a, b, c, d⟩; exact ⟨_, ⟨es, a, b, c, rfl⟩, d⟩
    · exact False.elim
  case call f args =>
    rcases hs with ⟨v, h1, h2⟩ | ⟨k, es, h1, h2⟩ | ⟨v, k, es, h1, h2⟩
    · exact ⟨_, .inl ⟨v, h1, rfl⟩, h2⟩
    · exact ⟨_, .inr (.inl ⟨k, es, h1, rfl⟩), h2⟩
    · exact ⟨_, .inr (.inr ⟨v, k, es, h1, rfl⟩), h2⟩
  case callv x args =>
    revert hs
    split
    · rintro (⟨v, h1, h2⟩ | ⟨k, es, h1, h2⟩)
      · exact ⟨_, .inl ⟨v, h1, rfl⟩, h2⟩
      · exact ⟨_, .inr ⟨k, es, h1, rfl⟩, h2⟩
    · exact False.elim
  case mkz k bytes x z =>
    revert hs
    split
    · rintro ⟨a, b, c | c⟩
      · exact ⟨_, ⟨a, b, .inl rfl⟩, c⟩
      · exact ⟨_, ⟨a, b, .inr rfl⟩, c⟩
    · exact False.elim
  case appz k bytes x y z =>
    revert hs
    split
    · rintro ⟨a, b, c, d⟩; exact ⟨_, ⟨a, b, c, rfl⟩, d⟩
    · exact False.elim
  case callw f args fl =>
    rcases hs with ⟨v, h1, h2⟩ | ⟨k, es, h1, h2⟩ | ⟨c, v, k, es, h1, h3, h2⟩
    · exact ⟨_, .inl ⟨v, h1, rfl⟩, h2⟩
    · exact ⟨_, .inr (.inl ⟨k, es, h1, rfl⟩), h2⟩
    · exact ⟨_, .inr (.inr ⟨c, v, k, es, h1, h3, rfl⟩), h2⟩

theorem LOp.dsem_of {P : Program} {sl : List V} {h0 : Hp} {a : Nat} {R : DRes → Prop} {d : DRes} {op : LOp} (hx : op.dsem P sl h0 a (· = d)) (hR : R d) : op.dsem P sl h0 a R := by
  cases op with
  | val x => exact LVal.sem_mono (R := fun v => (⟨v, none, none⟩ : DRes) = d) (R' := fun v => R ⟨v, none, none⟩) (fun _ _ _ e => e) (fun v hv => by rw [hv]; exact hR) hx
  | box k x => exact ⟨hx.1, by rw [hx.2]; exact hR⟩
  | bslice k es => exact ⟨hx.1, hx.2.imp (fun e => by rw [e]; exact hR) (fun e => by rw [e]; exact hR)⟩
  | append k b x y =>
    simp only [LOp.dsem] at hx ⊢
    revert hx
    split
    · rename_i kx own xs ky own' ys _ _
      rintro ⟨a, b, c, e⟩
      refine ⟨a, b, c, ?_⟩
      cases own <;> simp only at e ⊢ <;> first | (rw [e]; exact hR) | exact e
    · exact id
  | store t x v =>
    simp only [LOp.dsem] at hx ⊢
    revert hx
    split
    · rintro ⟨es, a, b, c, e⟩; exact ⟨es, a, b, c, by rw [e]; exact hR⟩
    · exact id
  | mkz k b x z =>
    simp only [LOp.dsem] at hx ⊢
    revert hx
    split
    · rintro ⟨a, b, e⟩; exact ⟨a, b, e.imp (fun e => by rw [e]; exact hR) (fun e => by rw [e]; exact hR)⟩
    · exact id
  | appz k b x y z =>
    simp only [LOp.dsem] at hx ⊢
    revert hx
    split
    · rintro ⟨a, b, c, e⟩; exact ⟨a, b, c, by rw [e]; exact hR⟩
    · exact id
  | clear k x z => exact hx.elim
  | call f args =>
    rcases hx with ⟨v, q1, q2⟩ | ⟨k, es, q1, q2⟩ | ⟨v, k, es, q1, q2⟩
    · exact .inl ⟨v, q1, by rw [q2]; exact hR⟩
    · exact .inr (.inl ⟨k, es, q1, by rw [q2]; exact hR⟩)
    · exact .inr (.inr ⟨v, k, es, q1, by rw [q2]; exact hR⟩)
  | callw f args fl =>
    rcases hx with ⟨v, q1, q2⟩ | ⟨k, es, q1, q2⟩ | ⟨c, v, k, es, q1, q3, q2⟩
    · exact .inl ⟨v, q1, by rw [q2]; exact hR⟩
    · exact .inr (.inl ⟨k, es, q1, by rw [q2]; exact hR⟩)
    · exact .inr (.inr ⟨c, v, k, es, q1, q3, by rw [q2]; exact hR⟩)
  | callv x args =>
    simp only [LOp.dsem] at hx ⊢
    revert hx
    split
    · rintro (⟨v, q1, q2⟩ | ⟨k, es, q1, q2⟩)
      · exact .inl ⟨v, q1, by rw [q2]; exact hR⟩
      · exact .inr ⟨k, es, q1, by rw [q2]; exact hR⟩
    · exact id
theorem doper_det {P : Program} {h0 : Hp} {a : Nat} {o : LOper} {sl : List V} {R : DRes → Prop} (hs : doper P h0 a o sl R) : ∃ d, doper P h0 a o sl (· = d) ∧ R d := by
  unfold doper at hs ⊢
  split at hs
  · exact LOp.dsem_det hs
  · split at hs
    · split at hs
      · rename_i hb
        obtain ⟨d, h1, h2⟩ := LOp.dsem_det hs
        exact ⟨d, by simpa only [hb, if_true] using h1, h2⟩
      · rename_i hb; exact ⟨_, by simp only [if_neg hb], hs⟩
    · exact ⟨_, rfl, hs⟩
    · exact hs.elim

theorem doper_of_det {P : Program} {h0 : Hp} {a : Nat} {o : LOper} {sl : List V} {R : DRes → Prop} {d : DRes} (h1 : doper P h0 a o sl (· = d)) (hR : R d) : doper P h0 a o sl R := by
  unfold doper at h1 ⊢
  revert h1
  split
  · exact fun h => LOp.dsem_of h hR
  · split
    · split
      · exact fun h => LOp.dsem_of h hR
      · intro e; rw [e]; exact hR
    · intro e; rw [e]; exact hR
    · exact id

/-- The head told as a table. -/
structure Table (P : Program) (h0 : Hp) (nx0 : Nat) (l : List (LOper × List Nat)) (sl0 : List V) (res : List DRes) : Prop where
  len : res.length = l.length
  ok : ∀ i o deps d, l[i]? = some (o, deps) → res[i]? = some d → doper P (delHp h0 ((res.take i).map (·.con))) (nx0 + i) o (((l.zip res).take i).foldl (fun sl p => putV sl p.1.1.dst p.2.v) sl0) (· = d)
  tok : ∀ i o deps d c, l[i]? = some (o, deps) → res[i]? = some d → d.con = some c → conAt h0 nx0 deps ((res.take i).map (·.add)) ((res.take i).map (·.con)) c.n c.old

theorem dops_table {P : Program} {h0 : Hp} {nx0 : Nat} {Q : List V → List (Option Blk) → List (Option Con) → Prop} : ∀ (l r : List (LOper × List Nat)) (sl0 : List V) (res : List DRes),
    Table P h0 nx0 l sl0 res → dops P h0 nx0 r ((l.zip res).foldl (fun sl p => putV sl p.1.1.dst p.2.v) sl0) (res.map (·.add)) (res.map (·.con)) Q →
    ∃ res', Table P h0 nx0 (l ++ r) sl0 res' ∧ Q (((l ++ r).zip res').foldl (fun sl p => putV sl p.1.1.dst p.2.v) sl0) (res'.map (·.add)) (res'.map (·.con))
  | l, [], sl0, res, ht, h => ⟨res, by simpa using ht, by simpa [dops] using h⟩
  | l, (o, deps) :: r, sl0, res, ht, h => by
    unfold dops at h
    obtain ⟨d, h1, h2, h3⟩ := doper_det h
    have hz : ((l ++ [(o, deps)]).zip (res ++ [d])) = l.zip res ++ [((o, deps), d)] := by rw [List.zip_append ht.len.symm]; rfl
    have hzl : (l.zip res).length = l.length := by simp [ht.len]
    have ht' : Table P h0 nx0 (l ++ [(o, deps)]) sl0 (res ++ [d]) := by
      refine ⟨by simp [ht.len], ?_, ?_⟩
      · intro i o' deps' d' hi hd
        by_cases e : i < l.length
        · rw [List.getElem?_append_left e] at hi
          rw [List.getElem?_append_left (by rw [ht.len]; exact e)] at hd
          have := ht.ok i o' deps' d' hi hd
          have e1 : (res ++ [d]).take i = res.take i := List.take_append_of_le_length (by rw [ht.len]; omega)
          have e2 : (l.zip res ++ [((o, deps), d)]).take i = (l.zip res).take i := List.take_append_of_le_length (by rw [hzl]; omega)
          rw [hz, e1, e2]
          exact this
        · have hi' : i = l.length := by
            have := (List.getElem?_eq_some_iff.1 hi).1
            simp at this
            omega
          subst hi'
          simp at hi
          rw [← ht.len] at hd
          simp at hd
          obtain ⟨rfl, rfl⟩ := hi
          subst hd
          have e1 : (res ++ [d]).take l.length = res := by rw [← ht.len, List.take_append_of_le_length (Nat.le_refl _), List.take_length]
          have e2 : (l.zip res ++ [((o, deps), d)]).take l.length = l.zip res := by rw [List.take_append_of_le_length (by omega), List.take_of_length_le (by omega)]
          rw [hz, e1, e2]
          simpa [ht.len] using h1
      · intro i o' deps' d' n hi hd hn
        by_cases e : i < l.length
        · rw [List.getElem?_append_left e] at hi
          rw [List.getElem?_append_left (by rw [ht.len]; exact e)] at hd
          have := ht.tok i o' deps' d' n hi hd hn
          rw [List.take_append_of_le_length (by rw [ht.len]; omega)]
          exact this
        · have hi' : i = l.length := by
            have := (List.getElem?_eq_some_iff.1 hi).1
            simp at this
            omega
          subst hi'
          simp at hi
          rw [← ht.len] at hd ⊢
          simp at hd
          obtain ⟨rfl, rfl⟩ := hi
          subst hd
          rw [List.take_append_of_le_length (Nat.le_refl _), List.take_length]
          exact h2 n hn
    obtain ⟨res', q1, q2⟩ := dops_table (l ++ [(o, deps)]) r sl0 (res ++ [d]) ht' (by rw [hz, List.foldl_append]; simpa using h3)
    refine ⟨res', by simpa using q1, by simpa using q2⟩

end Go.Proofs.Ythcedfamidlbdaa
