/-
The abstract layer, third part: the operations that only yield a value: what they yield of abstract values, and that the machine's operation yields the like. No program in sight: types are looked up in whatever program. No conditions.
-/
import Derived.Test.YthcedfamidlbdaaZb
namespace Go.Proofs.Ythcedfamidlbdaa
set_option linter.unusedSimpArgs false
set_option linter.unusedVariables false
set_option linter.unusedSectionVars false
open Go.RowKit

/-- The shape of a type's values. -/
def shOf (P : Program) (t : TypeId) : Option Sh :=
  match P.info? t with
  | none => none
  | some i => match P.underlying t with
    | some (.struct _) => some (.agg i.size)
    | some (.array _ _) => some (.agg i.size)
    | some _ => if i.size = 1 then some .leaf else none
    | none => none

inductive LArg where
  | slot (t : Nat)
  | const (v : V)
  deriving Inhabited
def LArg.ev (sl : List V) : LArg → V
  | .slot t => sl.getD t V.undef
  | .const v => v

def absLeaf (P : Program) (t : TypeId) : Value → Option V
  | .bool b => some (.bool b)
  | .int k n => some (.int k n)
  | .string s => some (.str s)
  | .pointer none => some .nilPtr
  | .slice none 0 0 => match P.underlying t with
    | some (.slice e) => (shOf P e).map fun k => .sl k .nil []
    | _ => some (.sl .leaf .nil [])
  | .map none => some .nilMap
  | .chan none => some .nilChan
  | .nilFunc => some .nilFn
  | .nilIface => some .nilIface
  | _ => none
def leafTys (P : Program) : Nat → TypeId → List TypeId
  | 0, t => [t]
  | d + 1, t => match P.underlying t with
    | some (.struct fs) => fs.toList.flatMap fun f => leafTys P d f.type
    | some (.array n e) => (List.replicate n (leafTys P d e)).flatten
    | _ => [t]
def absLeaves (P : Program) : List TypeId → List Value → Option (List V)
  | _, [] => some []
  | ts, v :: vs => match absLeaf P (ts.headD 0) v, absLeaves P ts.tail vs with
    | some x, some xs => some (x :: xs)
    | _, _ => none
def absV (P : Program) (t : TypeId) : Value → Option V
  | .agg cs => (absLeaves P (leafTys P 12 t) cs.toList).map .agg
  | .tuple cs => if cs.isEmpty then some (.tup []) else none
  | v => absLeaf P t v
def lowerArg (P : Program) (t : TypeId) : Operand → Option LArg
  | .tmp n => some (.slot n)
  | .const v => (absV P t v).map .const
  | .func f => some (.const (.fn (.func f) [] []))
  | .global _ => none

theorem absLeaf_sound {P : Program} {t : TypeId} {cv : Value} {v : V} (h : absLeaf P t cv = some v) (K : Ker) : VR K v cv ∧ v.leafy = true := by
  unfold absLeaf at h
  split at h
  case h_5 =>
    split at h
    · rename_i e _
      cases hs : shOf P e with
      | none => simp [hs] at h
      | some k => simp [hs] at h; subst h; exact ⟨.slnil k, rfl⟩
    · injection h with h; subst h; exact ⟨.slnil _, rfl⟩
  all_goals first
    | (injection h with h; subst h; first | exact ⟨.bool _, rfl⟩ | exact ⟨.int _ _, rfl⟩ | exact ⟨.str _, rfl⟩ | exact ⟨.nilPtr, rfl⟩ | exact ⟨.nilMap, rfl⟩ | exact ⟨.nilChan, rfl⟩ | exact ⟨.nilFn, rfl⟩ | exact ⟨.nilIface, rfl⟩)
    | simp at h

theorem absLeaves_sound {P : Program} (K : Ker) : ∀ (cs : List Value) (ts : List TypeId) (vs : List V), absLeaves P ts cs = some vs →
    vs.length = cs.length ∧ (∀ i, i < vs.length → VR K (vs.getD i V.undef) (cs.getD i Go.undef)) ∧ vs.all V.leafy = true
  | [], ts, vs, h => by
    simp [absLeaves] at h; subst h
    exact ⟨rfl, fun i hi => absurd hi (by simp), rfl⟩
  | c :: cs, ts, vs, h => by
    unfold absLeaves at h
    split at h
    · rename_i x xs h1 h2
      injection h with h; subst h
      obtain ⟨a, b, d⟩ := absLeaves_sound K cs _ xs h2
      obtain ⟨e, f⟩ := absLeaf_sound h1 K
      refine ⟨by simp [a], ?_, by simp [f, d]⟩
      intro i hi
      cases i with
      | zero => simpa using e
      | succ i => simpa using b i (by simpa using hi)
    · simp at h

theorem absV_sound {P : Program} {t : TypeId} {cv : Value} {v : V} (h : absV P t cv = some v) (K : Ker) : VR K v cv := by
  unfold absV at h
  split at h
  · rename_i cs
    cases hl : absLeaves P (leafTys P 12 t) cs.toList with
    | none => simp [hl] at h
    | some vs =>
      simp [hl] at h; subst h
      obtain ⟨a, b, _⟩ := absLeaves_sound K cs.toList _ vs hl
      refine .agg vs cs (by simpa using a) fun i hi => ?_
      have := b i hi
      simpa using this
  · split at h
    · rename_i cs hc
      injection h with h; subst h
      have : cs = #[] := by simpa using hc
      subst this
      exact .undef K
    · simp at h
  · exact (absLeaf_sound h K).1

/-- The slots stand to the machine's. -/
def Slots (K : Ker) (sl : List V) (a : Act) : Prop := sl.length = a.tmps.size ∧ ∀ t, VR K (sl.getD t V.undef) (a.tmps.getD t Go.undef)
theorem Slots.mono {K K' : Ker} (h : K.le K') {sl : List V} {a : Act} (r : Slots K sl a) : Slots K' sl a := ⟨r.1, fun t => (r.2 t).mono h⟩

theorem lowerArg_sound {P : Program} {t : TypeId} {x : Operand} {l : LArg} (h : lowerArg P t x = some l) {K : Ker} {sl : List V} {a : Act} (hs : ∀ t, VR K (sl.getD t V.undef) (a.tmps.getD t Go.undef)) : VR K (l.ev sl) (a.eval x) := by
  cases x with
  | tmp n => simp [lowerArg] at h; subst h; exact hs n
  | const cv =>
    simp only [lowerArg] at h
    cases hv : absV P t cv with
    | none => simp [hv] at h
    | some v => simp [hv] at h; subst h; exact absV_sound hv K
  | func f => simp [lowerArg] at h; subst h; exact .fn _ [] [] #[] #[] rfl rfl (fun i hi => absurd hi (by simp)) (fun i hi => absurd hi (by simp))
  | global g => simp [lowerArg] at h

/-- What is asked of a part of an element. -/
def partOK (k t : Sh) (o : Nat) : Prop :=
  match k, t with
  | .leaf, .leaf => o = 0
  | .leaf, .agg _ => False
  | .agg n, .leaf => o < n
  | .agg n, .agg m => o + m ≤ n
def loadPart (t : Sh) (o : Nat) (e : V) : V :=
  match t with
  | .leaf => e.cell o
  | .agg m => if o = 0 ∧ e.cells.length = m then e else .agg ((e.cells.drop o).take m)

theorem loadPart_cells {k t : Sh} {o : Nat} {e : V} (hp : partOK k t o) (hf : e.fits k = true) : (loadPart t o e).fits t = true ∧ o + t.size ≤ k.size ∧ ∀ j, j < t.size → (loadPart t o e).cell j = e.cell (o + j) := by
  cases k with
  | leaf =>
    cases t with
    | leaf =>
      simp only [partOK] at hp; subst hp
      simp only [V.fits] at hf
      have e1 : e.cells = [e] := by cases e <;> first | rfl | (simp [V.leafy] at hf)
      have e2 : loadPart .leaf 0 e = e := by simp [loadPart, V.cell, e1]
      refine ⟨by rw [e2]; exact hf, by simp [Sh.size], ?_⟩
      intro j hj
      have : j = 0 := by simp [Sh.size] at hj; exact hj
      subst this
      rw [e2]
    | agg m => exact hp.elim
  | agg n =>
    cases e with
    | agg cs =>
      simp only [V.fits, Bool.and_eq_true, decide_eq_true_eq, List.all_eq_true] at hf
      obtain ⟨h1, h2⟩ := hf
      cases t with
      | leaf =>
        simp only [partOK] at hp
        have hl : (loadPart .leaf o (.agg cs)).leafy = true := by
          show (cs.getD o V.undef).leafy = true
          rw [List.getD_eq_getElem?_getD, List.getElem?_eq_getElem (by omega)]
          exact h2 _ (List.getElem_mem _)
        refine ⟨hl, by simp [Sh.size]; omega, ?_⟩
        intro j hj
        have : j = 0 := by simp [Sh.size] at hj; exact hj
        subst this
        have e1 : (loadPart .leaf o (.agg cs)).cells = [loadPart .leaf o (.agg cs)] := by
          generalize loadPart .leaf o (.agg cs) = x at hl
          cases x <;> first | rfl | (simp [V.leafy] at hl)
        show (loadPart .leaf o (.agg cs)).cells.getD 0 V.undef = _
        rw [e1]
        rfl
      | agg m =>
        simp only [partOK] at hp
        unfold loadPart
        by_cases hc : o = 0 ∧ (V.agg cs).cells.length = m
        · simp only [if_pos hc]
          obtain ⟨rfl, hc⟩ := hc
          refine ⟨?_, by simp [Sh.size]; omega, fun j _ => by simp⟩
          simp only [V.fits, Bool.and_eq_true, decide_eq_true_eq, List.all_eq_true]
          exact ⟨hc, h2⟩
        · simp only [if_neg hc]
          refine ⟨?_, by simp [Sh.size]; omega, ?_⟩
          · simp only [V.fits, V.cells, Bool.and_eq_true, decide_eq_true_eq, List.all_eq_true, List.length_take, List.length_drop]
            exact ⟨by omega, fun x hx => h2 x (List.mem_of_mem_drop (List.mem_of_mem_take hx))⟩
          · intro j hj
            simp only [Sh.size] at hj
            show ((cs.drop o).take m).getD j V.undef = cs.getD (o + j) V.undef
            simp only [List.getD_eq_getElem?_getD, List.getElem?_take, List.getElem?_drop, if_pos hj]
    | _ => simp [V.fits] at hf

/-- The kinds of what is compared cell by cell. -/
inductive LK where
  | bool | int | str
  deriving DecidableEq, Inhabited
inductive EqTy where
  | plain (k : Sh) (ks : List LK) | ptr | slice | func | iface (cst : Bool) | map | chan
  deriving Inhabited
def leafEq : LK → V → V → Option Bool
  | .bool, .bool a, .bool b => some (a == b)
  | .int, .int k a, .int k' b => if k = k' then some (a == b) else none
  | .str, .str a, .str b => some (a.toList == b.toList)
  | _, _, _ => none
def veqL : List LK → List V → List V → Option Bool
  | [], [], [] => some true
  | [k], [x], [y] => leafEq k x y
  | k :: ks, x :: xs, y :: ys => match leafEq k x y, veqL ks xs ys with
    | some a, some b => some (a && b)
    | _, _ => none
  | _, _, _ => none
def veq : EqTy → V → V → Option Bool
  | .plain k ks, x, y => if (x.fits k && y.fits k) = true then veqL ks x.cells y.cells else none
  | .ptr, .nilPtr, .nilPtr => some true
  | .ptr, .nilPtr, .ptr .. => some false
  | .ptr, .ptr .., .nilPtr => some false
  | .ptr, .nilPtr, .ept .. => some false
  | .ptr, .ept .., .nilPtr => some false
  | .slice, .sl _ o _, .sl _ .nil _ => some (o == .nil)
  | .slice, .rs .., .sl _ .nil _ => some false
  | .func, .nilFn, .nilFn => some true
  | .func, .nilFn, .fn .. => some false
  | .func, .fn .., .nilFn => some false
  | .iface true, .nilIface, .nilIface => some true
  | .iface _, .nilIface, .iface .. => some false
  | .iface _, .iface .., .nilIface => some false
  | .map, .nilMap, .nilMap => some true
  | .map, .nilMap, .map _ => some false
  | .map, .map _, .nilMap => some false
  | .chan, .nilChan, .nilChan => some true
  | .chan, .nilChan, .chan _ => some false
  | .chan, .chan _, .nilChan => some false
  | _, _, _ => none

def ibin (op : BinOp) (k : IntKind) (a b : Int) (R : V → Prop) : Prop :=
  match op with
  | .add => R (.int k (k.wrap (a + b)))
  | .sub => R (.int k (k.wrap (a - b)))
  | .mul => R (.int k (k.wrap (a * b)))
  | .quo => b ≠ 0 ∧ R (.int k (k.wrap (a.tdiv b)))
  | .rem => b ≠ 0 ∧ R (.int k (a.tmod b))
  | .eql => R (.bool (a == b))
  | .neq => R (.bool (a != b))
  | .lss => R (.bool (decide (a < b)))
  | .leq => R (.bool (decide (a ≤ b)))
  | .gtr => R (.bool (decide (b < a)))
  | .geq => R (.bool (decide (b ≤ a)))
  | _ => False
def sbin (op : BinOp) (s t : ByteArray) (R : V → Prop) : Prop :=
  match op with
  | .add => ((s.size + t.size : Nat) : Int) ≤ 9223372036854775807 ∧ R (.str (s ++ t))
  | .eql => R (.bool (s.toList == t.toList))
  | .neq => R (.bool (!(s.toList == t.toList)))
  | .lss => R (.bool (Op.bytesLess s.toList t.toList))
  | .leq => R (.bool (Op.bytesLess s.toList t.toList || s.toList == t.toList))
  | .gtr => R (.bool (!(Op.bytesLess s.toList t.toList || s.toList == t.toList)))
  | .geq => R (.bool (!Op.bytesLess s.toList t.toList))
  | _ => False
def V.pick (t : Bool) : V → V → V
  | .bool x, .bool y => .bool (if t then x else y)
  | a, b => if t then a else b
def fillV (cells : List V) : List (Nat × List V) → List V
  | [] => cells
  | (off, xs) :: r => fillV (cells.take off ++ xs ++ cells.drop (off + xs.length)) r

/-- A bound of a cut; d: where none is given. -/
def bval (sl : List V) (d : Int) : Option LArg → Option Int
  | none => some d
  | some l => match l.ev sl with
    | .int _ n => some n
    | _ => none
def cutOwn (own : Own) (hi mx : Option Int) : Own :=
  match own with
  | .nil => .nil
  | o => match hi, mx with
    | none, none => o
    | some h, some m => if h = m then .full else .free
    | _, _ => .free
/-- The same; of nothing at all whose array isn't known, nothing is known. -/
def cutE : Own → List V → Option Int → Option Int → Own
  | .free, [], _, _ => .free
  | own, _, hi, mx => cutOwn own hi mx
theorem cutE_nil (es : List V) (hi mx : Option Int) : cutE .nil es hi mx = .nil := by cases es <;> rfl
theorem cutE_full (es : List V) (hi mx : Option Int) : cutE .full es hi mx = cutOwn .full hi mx := by cases es <;> rfl
theorem cutE_tok (n : Nat) (es : List V) (hi mx : Option Int) : cutE (.tok n) es hi mx = cutOwn (.tok n) hi mx := by cases es <;> rfl
theorem cutE_free_nil (hi mx : Option Int) : cutE .free [] hi mx = .free := rfl
theorem cutE_free_cons (e : V) (es : List V) (hi mx : Option Int) : cutE .free (e :: es) hi mx = cutOwn .free hi mx := rfl
theorem VR.cutE {K : Ker} {k : Sh} {own : Own} {es xs : List V} {hi mx : Option Int} {cv : Value} (ho : own ≠ .nil) (h : VR K (.sl k (cutOwn own hi mx) xs) cv) : VR K (.sl k (cutE own es hi mx) xs) cv := by
  cases own with
  | nil => exact absurd rfl ho
  | full => rw [cutE_full]; exact h
  | tok n => rw [cutE_tok]; exact h
  | free =>
    cases es with
    | nil => exact h.free (by cases hi <;> cases mx <;> simp [cutOwn]; split <;> simp)
    | cons => exact h
def ogive (sl : List V) : Option LArg → Option Int
  | none => none
  | some l => match l.ev sl with
    | .int _ n => some n
    | _ => none

/-- The greater or the less of two numbers. -/
def mnxI (mx : Bool) (a b : Int) : Int := if mx = true then (if b > a then b else a) else (if b < a then b else a)
/-- Operations that yield a value and leave memory alone. -/
inductive LVal where
  | move (x : LArg)
  | pick (c a b : LArg)
  | load (t : Sh) (x : LArg)
  | nilCheck (x : LArg)
  | bin (op : BinOp) (x y : LArg)
  | eq (ng : Bool) (ty : EqTy) (x y : LArg)
  | not (x : LArg)
  | neg (x : LArg)
  | conv (k : IntKind) (x : LArg)
  | mkif (t : Nat) (x : LArg)
  | mkfn (f : Fn) (first cap : List LArg)
  | fldA (off : Nat) (x : LArg)
  | fld (t : Sh) (off : Nat) (x : LArg)
  | idxA (k : Sh) (x i : LArg)
  | idxP (len : Nat) (k : Sh) (x i : LArg)
  | len (x : LArg)
  | slen (x : LArg)
  | ext (x : LArg) (i : Nat)
  | build (z : List V) (parts : List (Nat × Sh × LArg))
  | slc (k : Sh) (x : LArg) (lo hi mx : Option LArg)
  | slcs (x : LArg) (lo hi : Option LArg)
  | never
  | capv (x : LArg)
  | mnx (mx : Bool) (x y : LArg)
  | asrt (t : Nat) (z : V) (x : LArg)
  | asrq (t : Nat) (x : LArg)
  deriving Inhabited

def LVal.sem (sl : List V) (h : Hp) (R : V → Prop) : LVal → Prop
  | .move x => R (x.ev sl)
  | .pick c a b => match c.ev sl with
    | .bool t => R (V.pick t (a.ev sl) (b.ev sl))
    | _ => False
  | .load t x => match x.ev sl with
    | .ptr n k i o => match h n with
      | some (.arr k' es) => k' = k ∧ i < es.length ∧ partOK k t o ∧ R (loadPart t o (es.getD i V.undef))
      | _ => False
    | .ept k es i o => i < es.length ∧ partOK k t o ∧ R (loadPart t o (es.getD i V.undef))
    | _ => False
  | .nilCheck x => match x.ev sl with
    | .ptr n k i o => R (.ptr n k i o)
    | .ept k es i o => R (.ept k es i o)
    | _ => False
  | .bin op x y => match x.ev sl, y.ev sl with
    | .int k a, .int k' b => k = k' ∧ ibin op k a b R
    | .str s, .str t => sbin op s t R
    | _, _ => False
  | .eq ng ty x y => match veq ty (x.ev sl) (y.ev sl) with
    | some r => R (.bool (if ng then !r else r))
    | none => False
  | .not x => match x.ev sl with
    | .bool b => R (.bool (!b))
    | _ => False
  | .neg x => match x.ev sl with
    | .int k n => R (.int k (k.wrap (0 - n)))
    | _ => False
  | .conv k x => match x.ev sl with
    | .int _ n => R (.int k (k.wrap n))
    | _ => False
  | .mkif t x => R (.iface t (x.ev sl))
  | .mkfn f first cap => R (.fn f (first.map (LArg.ev sl)) (cap.map (LArg.ev sl)))
  | .fldA off x => match x.ev sl with
    | .ptr n k i o => R (.ptr n k i (o + off))
    | .ept k es i o => R (.ept k es i (o + off))
    | _ => False
  | .fld t off x => match x.ev sl with
    | .agg cs => partOK (.agg cs.length) t off ∧ cs.all V.leafy = true ∧ R (loadPart t off (.agg cs))
    | _ => False
  | .idxA k x i => match x.ev sl, i.ev sl with
    | .sl k' _ es, .int _ j => k' = k ∧ 0 ≤ j ∧ j < es.length ∧ R (.ept k es j.toNat 0)
    | .rs n k' off ln, .int _ j => k' = k ∧ 0 ≤ j ∧ j < ln ∧ R (.ptr n k (off + j.toNat) 0)
    | _, _ => False
  | .idxP ln k x i => match x.ev sl, i.ev sl with
    | .ptr n k' i' o, .int _ j => 0 ≤ j ∧ j < ln ∧ R (.ptr n k' i' (o + j.toNat * k.size))
    | _, _ => False
  | .len x => match x.ev sl with
    | .sl _ _ es => R (.int .i64 es.length)
    | .rs _ _ _ ln => R (.int .i64 ln)
    | _ => False
  | .slen x => match x.ev sl with
    | .str s => R (.int .i64 s.size)
    | _ => False
  | .ext x i => match x.ev sl with
    | .tup vs => i < vs.length ∧ R (vs.getD i V.undef)
    | _ => False
  | .slc k x lo hi mx => match x.ev sl with
    | .sl k' own es => match bval sl 0 lo, bval sl es.length hi, bval sl es.length mx with
      | some l, some h', some m => k' = k ∧ 0 ≤ l ∧ l ≤ h' ∧ h' ≤ m ∧ m ≤ es.length ∧ (hi.isNone = true → mx.isNone = true) ∧ R (.sl k (cutE own es (ogive sl hi) (ogive sl mx)) ((es.take h'.toNat).drop l.toNat))
      | _, _, _ => False
    | .rs n k' off ln => match bval sl 0 lo, bval sl ln hi, mx with
      | some l, some h', none => k' = k ∧ 0 ≤ l ∧ l ≤ h' ∧ h' ≤ ln ∧ R (if l.toNat = ln ∧ l.toNat ≠ 0 then .sl k .free [] else .rs n k (off + l.toNat) (h'.toNat - l.toNat))
      | _, _, _ => False
    | _ => False
  | .slcs x lo hi => match x.ev sl with
    | .str s => match bval sl 0 lo, bval sl s.size hi with
      | some l, some h' => 0 ≤ l ∧ l ≤ h' ∧ h' ≤ s.size ∧ R (.str (s.extract l.toNat h'.toNat))
      | _, _ => False
    | _ => False
  | .build z parts => (∀ p ∈ parts, (p.2.2.ev sl).fits p.2.1 = true ∧ p.1 + p.2.1.size ≤ z.length) ∧ R (.agg (fillV z (parts.map fun p => (p.1, (p.2.2.ev sl).cells))))
  | .never => False
  | .capv x => match x.ev sl with
    | .sl _ .nil _ => R (.int .i64 0)
    | .sl _ .full es => R (.int .i64 es.length)
    | _ => False
  | .mnx mx x y => match x.ev sl, y.ev sl with
    | .int k a, .int k' b => k = k' ∧ R (.int k (mnxI mx a b))
    | _, _ => False
  | .asrt t z x => match x.ev sl with
    | .iface t' v => R (.tup [if t' = t then v else z, .bool (decide (t' = t))])
    | .nilIface => R (.tup [z, .bool false])
    | _ => False
  | .asrq t x => match x.ev sl with
    | .iface t' v => t' = t ∧ R v
    | _ => False

theorem LVal.sem_mono {sl : List V} {h h' : Hp} {R R' : V → Prop} (hh : ∀ n k es, h n = some (.arr k es) → h' n = some (.arr k es)) (hR : ∀ v, R v → R' v) {l : LVal} (hs : l.sem sl h R) : l.sem sl h' R' := by
  cases l <;> simp only [LVal.sem] at hs ⊢
  case bin op x y =>
    revert hs
    split
    · rintro ⟨a, b⟩
      refine ⟨a, ?_⟩
      cases op <;> simp only [ibin] at b ⊢ <;> first | exact hR _ b | exact ⟨b.1, hR _ b.2⟩ | exact b
    · intro b
      cases op <;> simp only [sbin] at b ⊢ <;> first | exact hR _ b | exact ⟨b.1, hR _ b.2⟩ | exact b
    · exact id
  case load t x =>
    revert hs
    split
    · split
      · rename_i n k i o _ k' es he
        rintro ⟨a, b, c, d⟩
        rw [hh _ _ _ he]
        exact ⟨a, b, c, hR _ d⟩
      · exact False.elim
    · rintro ⟨b, c, d⟩
      exact ⟨b, c, hR _ d⟩
    · exact id
  case slc k x lo hi mx =>
    revert hs
    split
    · split
      · rintro ⟨a, b, c, d, e, f, g⟩; exact ⟨a, b, c, d, e, f, hR _ g⟩
      · exact id
    · split
      · rintro ⟨a, b, c, d, e⟩; exact ⟨a, b, c, d, hR _ e⟩
      · exact id
    · exact id
  case slcs x lo hi =>
    revert hs
    split
    · split
      · rintro ⟨a, b, c, e⟩; exact ⟨a, b, c, hR _ e⟩
      · exact id
    · exact id
  all_goals
    first
      | exact hR _ hs
      | exact ⟨hs.1, hR _ hs.2⟩
      | (revert hs; split <;> first | exact hR _ | exact id | (rintro ⟨a, b⟩; exact ⟨a, hR _ b⟩) | (rintro ⟨a, c, b⟩; exact ⟨a, c, hR _ b⟩) | (rintro ⟨a, c, d, b⟩; exact ⟨a, c, d, hR _ b⟩))

end Go.Proofs.Ythcedfamidlbdaa
