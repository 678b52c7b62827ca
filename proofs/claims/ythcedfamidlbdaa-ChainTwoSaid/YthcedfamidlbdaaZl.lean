/-
The abstract layer, twelfth part: operations, code and calls, lowered; what they do to abstract states. No program in sight. No conditions.
-/
import Derived.Test.YthcedfamidlbdaaZka
import Derived.Deep.LoopGhost
import Derived.Sort.LoopGhostIn
import Derived.TacticsIn
import Derived.OrdersIn
import Derived.RangeFuncSeq
import Derived.RangeFuncBound
namespace Go.Proofs.Ythcedfamidlbdaa
set_option linter.unusedSimpArgs false
set_option linter.unusedVariables false
set_option linter.unusedSectionVars false
open Go.RowKit

inductive LOp where
  | val (x : LVal)
  | box (k : Sh) (x : LArg)
  | bslice (k : Sh) (es : List LArg)
  | append (k : Sh) (bytes : Nat) (x y : LArg)
  | store (t : Sh) (x v : LArg)
  | call (f : Nat) (args : List LArg)
  | callv (x : LArg) (args : List LArg)
  | mkz (k : Sh) (bytes : Nat) (x : LArg) (z : V)
  | appz (k : Sh) (bytes : Nat) (x y : LArg) (z : V)
  | clear (k : Sh) (x : LArg) (z : V)
  | callw (f : Nat) (args fl : List LArg)
  deriving Inhabited

def appOK (h : Hp) : Own → Prop
  | .free => False
  | .tok n => h n = some .tip
  | _ => True

/-- What an operation does that calls nothing; a: the name of what it makes. -/
def LOp.sem (sl : List V) (h : Hp) (a : Nat) (R : V → Hp → Prop) : LOp → Prop
  | .val x => x.sem sl h fun v => R v h
  | .box k x => (x.ev sl).fits k = true ∧ R (.ptr a k 0 0) (h.set a (.arr k [x.ev sl]))
  | .bslice k es => (∀ e ∈ es, (e.ev sl).fits k = true) ∧ (R (.sl k (.tok a) (es.map (LArg.ev sl))) (h.set a .tip) ∨ R (.rs a k 0 es.length) (h.set a (.arr k (es.map (LArg.ev sl)))))
  | .append k bytes x y => match selems h (y.ev sl) with
    | some (ky, ys) => ky = k ∧ match x.ev sl with
      | .sl kx own xs => kx = k ∧ (xs.length + ys.length) * bytes ≤ 140737488355328 ∧ ((appOK h own ∧ R (.sl k (appOwn a own ys) (xs ++ ys)) (appHp h a own ys)) ∨ (own = .nil ∧ xs = [] ∧ ys ≠ [] ∧ R (.rs a k 0 ys.length) (h.set a (.arr k ys))))
      | .rs n kx off len => match h n with
        | some (.arr kb es) => kx = k ∧ ((ys = [] ∧ R (.rs n kx off len) h) ∨ (kb = k ∧ off = 0 ∧ len ≤ es.length ∧ ys ≠ [] ∧ (len + ys.length) * bytes ≤ 140737488355328 ∧ R (.rs a k 0 (len + ys.length)) ((h.del n).set a (.arr k (es.take len ++ ys)))))
        | _ => False
      | _ => False
    | none => False
  | .store t x v => match x.ev sl with
    | .ptr n k i o => match h n with
      | some (.arr k' es) => k' = k ∧ i < es.length ∧ partOK k t o ∧ (v.ev sl).fits t = true ∧ R V.undef (h.set n (.arr k (es.set i (storePart t o (es.getD i V.undef) (v.ev sl)))))
      | _ => False
    | _ => False
  | .call _ _ => False
  | .callv _ _ => False
  | .mkz k bytes x z => match x.ev sl with
    | .int _ m => 0 ≤ m ∧ m.toNat * bytes ≤ 140737488355328 ∧ (R (.rs a k 0 m.toNat) (h.set a (.arr k (List.replicate m.toNat z))) ∨ R (.sl k (.tok a) (List.replicate m.toNat z)) (h.set a .tip))
    | _ => False
  | .appz k bytes x y z => match x.ev sl, y.ev sl with
    | .sl k' .nil [], .int _ m => k' = k ∧ 0 < m ∧ m.toNat * bytes ≤ 140737488355328 ∧ R (.rs a k 0 m.toNat) (h.set a (.arr k (List.replicate m.toNat z)))
    | _, _ => False
  | .clear k x z => match x.ev sl with
    | .rs n k' off ln => match h n with
      | some (.arr kb es) => k' = k ∧ kb = k ∧ off + ln ≤ es.length ∧ R V.undef (h.set n (.arr k (es.take off ++ List.replicate ln z ++ es.drop (off + ln))))
      | _ => False
    | .sl _ _ [] => R V.undef h
    | _ => False
  | .callw _ _ _ => False

/-- May a function be entered? -/
def enterable (P : Program) (f : FuncId) : Bool :=
  match P.funcs[f]? with
  | some fn => !(fn.name == "runtime.NumGoroutine" || fn.body.isNone)
  | none => false

def ACalls (P : Program) (f : FuncId) (args : List V) (h : Hp) (nx : Nat) (R : V → Hp → Nat → Prop) : Prop :=
  enterable P f = true ∧ ∀ (K : Ker) (cargs : Array Value), (∀ n, K.live n → n < nx) → Rel K h → VRs K args cargs →
    Calls P f cargs K.w fun e w' => ∃ K' v cv h' nx', K'.w = w' ∧ e = .returned cv ∧ K.le K' ∧ VR K' v cv ∧ Rel K' h' ∧ (∀ n, K'.live n → n < nx' ∧ (K.live n ∨ nx ≤ n)) ∧ nx ≤ nx' ∧ R v h' nx'

theorem ACalls.mono {P : Program} {f : FuncId} {args : List V} {h : Hp} {nx : Nat} {R R' : V → Hp → Nat → Prop} (c : ACalls P f args h nx R) (hr : ∀ v h' nx', nx ≤ nx' → R v h' nx' → R' v h' nx') : ACalls P f args h nx R' :=
  ⟨c.1, fun K cargs hl hrel hv => (c.2 K cargs hl hrel hv).mono fun _ _ ⟨K', v, cv, h', nx', a, b, c, d, e, g, i, j⟩ => ⟨K', v, cv, h', nx', a, b, c, d, e, g, i, hr v h' nx' i j⟩⟩

/-- A call of yield: a round of the range over a function whose record is block n's. -/
def AYields (P : Program) (n : Nat) (args : List V) (h : Hp) (nx : Nat) (R : V → Hp → Nat → Prop) : Prop :=
  ∀ (m : Nat) (K : Ker) (cargs : Array Value), (∀ i, K.live i → i < nx) → K.live n → Rel K h → VRs K args cargs →
    YieldAt Fence.wide m P (K.mu n) cargs K.w fun e w' => ∃ K' v cv h' nx', K'.w = w' ∧ e = .returned cv ∧ K.le K' ∧ VR K' v cv ∧ Rel K' h' ∧ (∀ i, K'.live i → i < nx' ∧ (K.live i ∨ nx ≤ i)) ∧ nx ≤ nx' ∧ R v h' nx'

theorem AYields.mono {P : Program} {n : Nat} {args : List V} {h : Hp} {nx : Nat} {R R' : V → Hp → Nat → Prop} (c : AYields P n args h nx R) (hr : ∀ v h' nx', nx ≤ nx' → R v h' nx' → R' v h' nx') : AYields P n args h nx R' :=
  fun m K cargs hl hn hrel hv => (c m K cargs hl hn hrel hv).mono fun _ _ ⟨K', v, cv, h', nx', a, b, c, d, e, g, i, j⟩ => ⟨K', v, cv, h', nx', a, b, c, d, e, g, i, hr v h' nx' i j⟩

structure LOper where
  dst : Option Nat
  g : Option (Nat × Bool)
  op : LOp
  deriving Inhabited

structure St where
  sl : List V
  h : Hp
  nx : Nat

def putV (sl : List V) (dst : Option Nat) (v : V) : List V :=
  match dst with
  | some d => sl.set d v
  | none => sl

def LOp.run (P : Program) (sl : List V) (h : Hp) (nx : Nat) (R : V → Hp → Nat → Prop) : LOp → Prop
  | .val x => x.sem sl h fun v => R v h nx
  | .call f args => ACalls P f (args.map (LArg.ev sl)) h nx R
  | .callv x args => match x.ev sl with
    | .fn (.func f) first cap => ACalls P f (first ++ args.map (LArg.ev sl) ++ cap) h nx R
    | .yld n => AYields P n (args.map (LArg.ev sl)) h nx R
    | _ => False
  | o => o.sem sl h nx fun v h' => R v h' (nx + 1)

def lops (P : Program) : List LOper → (St → Prop) → St → Prop
  | [], Q, s => Q s
  | o :: r, Q, s =>
    match o.g with
    | none => o.op.run P s.sl s.h s.nx fun v h' nx' => lops P r Q ⟨putV s.sl o.dst v, h', nx'⟩
    | some (t, want) => match s.sl.getD t V.undef with
      | .bool b => if b = want then o.op.run P s.sl s.h s.nx fun v h' nx' => lops P r Q ⟨putV s.sl o.dst v, h', nx'⟩ else lops P r Q ⟨putV s.sl o.dst V.undef, s.h, s.nx⟩
      | .tup _ => lops P r Q ⟨putV s.sl o.dst V.undef, s.h, s.nx⟩
      | _ => False

def sameOp : Operand → Operand → Bool
  | .tmp a, .tmp b => a == b
  | .const (.int k a), .const (.int k' b) => decide (k = k') && a == b
  | _, _ => false
theorem sameOp_eq {x y : Operand} (h : sameOp x y = true) : x = y := by
  unfold sameOp at h
  split at h
  · rw [eq_of_beq h]
  · simp only [Bool.and_eq_true, decide_eq_true_eq] at h
    rw [h.1, eq_of_beq h.2]
  · cases h
/-- An operation, lowered. -/
def lowerOp (P : Program) (o : Oper) : Option LOp :=
  match o.op with
  | .box t x => (shOf P t).bind fun k => (lowerArg P t x).map (.box k)
  | .alloc t => (shOf P t).bind fun k => ((P.info? t).bind (·.zero)).bind fun z => (absV P t z).map fun v => .box k (.const v)
  | .buildSlice t n parts => match P.underlying t with
    | some (.slice e) => match P.info? e with
      | some i => match i.zero with
        | some _ => (shOf P e).bind fun k => if parts.toList.map (·.1) = List.range n ∧ n * k.size ≤ 16777216 then (lowerArgs P (List.replicate n e) (parts.toList.map (·.2))).map (.bslice k) else none
        | none => none
      | none => none
    | _ => none
  | .store t a x => (shOf P t).bind fun k => (lowerArg P 0 a).bind fun a => (lowerArg P t x).map (.store k a)
  | .call { callee := .builtin .append, args := args, argTypes := ts } => match args.toList, ts.toList with
    | [x, y], [t, t'] => if t' = t then match P.underlying t with
      | some (.slice e) => match P.info? e with
        | some i => match i.zero with
          | some z => (shOf P e).bind fun k => if z.cells.size = k.size ∧ 0 < k.size ∧ 0 < i.bytes then (lowerArg P t x).bind fun x => (lowerArg P t y).map fun y => .append k i.bytes x y else none
          | none => none
        | none => none
      | _ => none
      else match P.underlying t, P.underlying t' with
        | some (.slice e), some (.int _) => match P.info? e with
          | some i => match i.zero with
            | some z => (shOf P e).bind fun k => (absV P e z).bind fun zv => if zv.fits k = true ∧ 0 < k.size ∧ 0 < i.bytes then (lowerArg P t x).bind fun x => (lowerArg P t' y).map fun y => .appz k i.bytes x y zv else none
            | none => none
          | none => none
        | _, _ => none
    | _, _ => none
  | .call { callee := .value (.func f), args := args, argTypes := ts } => (lowerArgs P ts.toList args.toList).map (.call f)
  | .call { callee := .value (.tmp n), args := args, argTypes := ts } => (lowerArgs P ts.toList args.toList).map (.callv (.slot n))
  | .call { callee := .builtin .clear, args := args, argTypes := ts } => match args.toList, ts.toList with
    | [x], [t] => match P.underlying t with
      | some (.slice e) => match P.info? e with
        | some i => match i.zero with
          | some z => (shOf P e).bind fun k => (absV P e z).bind fun zv => if zv.fits k = true then (lowerArg P t x).map fun x => .clear k x zv else none
          | none => none
        | none => none
      | _ => none
    | _, _ => none
  | .makeSlice t l c => if sameOp l c = true then match P.underlying t with
    | some (.slice e) => match P.info? e with
      | some i => match i.zero with
        | some z => (shOf P e).bind fun k => (absV P e z).bind fun zv => if zv.fits k = true ∧ 0 < i.bytes then (lowerArg P 0 l).map fun l => .mkz k i.bytes l zv else none
        | none => none
      | none => none
    | _ => none
    else none
  | _ => (lowerVal P o).map .val

theorem run_callFunc {P : Program} {f : FuncId} (h : enterable P f = true) (args : Array Value) (w : World) : (callFunc f args).run P w = .ok (.enter f args) w := by
  unfold enterable at h
  cases hf : P.funcs[f]? with
  | none => simp [hf] at h
  | some fn =>
    simp only [hf, Bool.not_eq_true', Bool.or_eq_false_iff] at h
    have h1 : fn.name ≠ "runtime.NumGoroutine" := by simpa using h.1
    have h2 : fn.body ≠ none := fun e => by simp [e] at h
    simp [callFunc, hf, h1, h2]

/-- No fence; the round of a range over a function that the code stands in, if any. -/
abbrev FR (rd : Option Nat) : Fence := { Fence.wide with round := rd }
theorem callsIn_FR {rd : Option Nat} {n : Nat} {P : Program} {f : FuncId} {args : Array Value} {w : World} {R : Ending → World → Prop} (h : Calls P f args w R) : CallsIn (FR rd) n P f args w R :=
  show CallsIn Fence.wide n P f args w R from callsIn_wide.2 h

theorem semAt_run {P : Program} {o : Oper} {ρ : Operand → Value} {w w' : World} {nv : Next} (h : (execOp ρ o).run P w = .ok nv w') (hd : ∀ d, nv ≠ .defer d) (rd : Option Nat) : (o.semAt rd ρ).run P w = .ok nv w' := by
  by_cases hc : ∃ c, o.op = .defer c
  · obtain ⟨c, hc⟩ := hc
    exfalso
    simp only [execOp, hc, Sem.run_bind] at h
    generalize (resolve ρ c o.type).run P w = r at h
    cases r with
    | ok d w1 => simp only [Result.andThen_ok, Sem.run_pure] at h; injection h with h1 _; exact hd _ h1.symm
    | halt x w1 => cases h
  · rw [Oper.semAt_eq rd ρ o (fun c e => hc ⟨c, e⟩)]
    exact h

theorem wpIn_value {P : Program} {o : Oper} {act : Act} {w w' : World} {cv : Value} {rd : Option Nat} {m : Nat} {next : Act → World → Prop} {Q : Exit → Act → World → Prop} (h : (execOp act.eval o).run P w = .ok (.value cv) w') (hn : next (act.put o.dst cv) w') : o.wpIn (FR rd) m P act w next Q := by
  refine ⟨fun _ _ => trivial, ?_⟩
  rw [semAt_run h (by simp) rd]
  exact hn
theorem wpIn_noval {P : Program} {o : Oper} {act : Act} {w w' : World} {rd : Option Nat} {m : Nat} {next : Act → World → Prop} {Q : Exit → Act → World → Prop} (h : (execOp act.eval o).run P w = .ok .skip w') (hn : next (act.put o.dst Go.undef) w') : o.wpIn (FR rd) m P act w next Q := by
  refine ⟨fun _ _ => trivial, ?_⟩
  rw [semAt_run h (by simp) rd]
  exact hn
theorem wpIn_enters {P : Program} {o : Oper} {act : Act} {w w' : World} {f : FuncId} {args : Array Value} {rd : Option Nat} {m : Nat} {next : Act → World → Prop} {Q : Exit → Act → World → Prop} (h : (execOp act.eval o).run P w = .ok (.enter f args) w')
    (hn : Calls P f args w' fun e w'' => ∃ v, e = .returned v ∧ next (act.put o.dst v) w'') : o.wpIn (FR rd) m P act w next Q := by
  refine ⟨fun _ _ => trivial, ?_⟩
  rw [semAt_run h (by simp) rd]
  refine ⟨(by intro h; cases h), callsIn_FR (hn.mono ?_)⟩
  rintro e w'' ⟨v, rfl, h⟩
  exact h

/-- What an operation of the machine does that stands to an abstract one. -/
def YieldsC (P : Program) (o : Oper) (act : Act) (K : Ker) (nx : Nat) (R : V → Hp → Nat → Prop) : Prop :=
  ∀ (rd : Option Nat) (m : Nat) (next : Act → World → Prop) (Q : Exit → Act → World → Prop),
    (∀ K' v cv h' nx', K.le K' → VR K' v cv → Rel K' h' → (∀ n, K'.live n → n < nx' ∧ (K.live n ∨ nx ≤ n)) → nx ≤ nx' → R v h' nx' → next (act.put o.dst cv) K'.w) → o.wpIn (FR rd) m P act K.w next Q

theorem YieldsM.toC {P : Program} {o : Oper} {act : Act} {K : Ker} {nx : Nat} {R : V → Hp → Nat → Prop} (hl : ∀ n, K.live n → n < nx) (y : YieldsM P o act K nx fun v h' => R v h' (nx + 1)) : YieldsC P o act K nx R := by
  intro rd m next Q hn
  obtain ⟨nx', cv, K', v, h', h1, h2, h3, h4, h5, h6, h7⟩ := y
  have hlive : ∀ n, K'.live n → n < nx + 1 ∧ (K.live n ∨ nx ≤ n) := fun n hn => by
    rcases h4 n hn with h | h
    · have := hl n h; exact ⟨by omega, .inl h⟩
    · exact ⟨by omega, .inr (by omega)⟩
  have := hn K' v cv h' (nx + 1) h3 h5 h6 hlive (by omega) h7
  rcases h2 with rfl | ⟨rfl, rfl⟩
  · exact wpIn_value h1 this
  · exact wpIn_noval h1 this

theorem YieldsV.toC {P : Program} {o : Oper} {act : Act} {K : Ker} {nx : Nat} {h : Hp} {R : V → Hp → Nat → Prop} (hl : ∀ n, K.live n → n < nx) (hr : Rel K h) (y : YieldsV P o act K fun v => R v h nx) : YieldsC P o act K nx R := by
  intro rd m next Q hn
  obtain ⟨cv, v, h1, h2, h3⟩ := y
  refine wpIn_value h1 ?_
  exact hn K v cv h nx (.refl K) h2 hr (fun n hn => ⟨hl n hn, .inl hn⟩) (Nat.le_refl _) h3

theorem lowerArgs_VRs {P : Program} {K : Ker} {sl : List V} {act : Act} (hs : ∀ t, VR K (sl.getD t V.undef) (act.tmps.getD t Go.undef)) {xs : Array Operand} {ts : List TypeId} {ls : List LArg} (h : lowerArgs P ts xs.toList = some ls) : VRs K (ls.map (LArg.ev sl)) (xs.map act.eval) := by
  obtain ⟨a, b⟩ := lowerArgs_sound hs _ _ _ h
  refine ⟨by simpa using a, fun i hi => ?_⟩
  have := b i (by simpa using hi)
  simpa [Array.getD_eq_getD_getElem?, List.getD_eq_getElem?_getD] using this

theorem VRs.append {K : Ker} {a b : List V} {ca cb : Array Value} (h : VRs K a ca) (h' : VRs K b cb) : VRs K (a ++ b) (ca ++ cb) := by
  refine ⟨by simp [h.1, h'.1], fun i hi => ?_⟩
  have ha := h.1
  simp only [List.length_append] at hi
  by_cases e : i < a.length
  · have := h.2 i e
    simp only [List.getD_eq_getElem?_getD, Array.getD_eq_getD_getElem?] at this ⊢
    rw [List.getElem?_append_left e, Array.getElem?_append_left (by omega)]
    exact this
  · have := h'.2 (i - a.length) (by omega)
    simp only [List.getD_eq_getElem?_getD, Array.getD_eq_getD_getElem?] at this ⊢
    rw [List.getElem?_append_right (by omega), Array.getElem?_append_right (by omega), ← ha]
    exact this

theorem ACalls.toC {P : Program} {o : Oper} {act : Act} {K : Ker} {nx : Nat} {h : Hp} {R : V → Hp → Nat → Prop} {f : FuncId} {args : List V} {cargs : Array Value} (hrun : (execOp act.eval o).run P K.w = .ok (.enter f cargs) K.w) (hl : ∀ n, K.live n → n < nx) (hr : Rel K h) (hv : VRs K args cargs) (c : ACalls P f args h nx R) : YieldsC P o act K nx R := by
  intro rd m next Q hn
  refine wpIn_enters hrun ((c.2 K cargs hl hr hv).mono ?_)
  rintro e w' ⟨K', v, cv, h', nx', rfl, rfl, a, b, cc, d, e', g⟩
  refine ⟨cv, rfl, ?_⟩
  exact hn K' v cv h' nx' a b cc d e' g

/-- append of nothing. -/
theorem append_nothing {P : Program} {K : Ker} {k : Sh} {t e : TypeId} {i : TypeInfo} (ht : P.underlying t = some (.slice e)) (hi : P.info? e = some i) {ty : TypeId} {n off len : Nat} {cx cy : Value} (hx : VR K (.rs n k off len) cx) (hy : SlCells K k [] cy) :
    (Builtin.append_ #[t, t] ty #[cx, cy]).run P K.w = .ok cx K.w := by
  obtain ⟨ay, capy, rfl, _, _⟩ := hy
  cases hx with
  | rs _ _ _ _ cap hl hcap hm =>
    have hf : (Builtin.firstCells i.size 0 (.slice ay 0 capy)).run P K.w = .ok #[] K.w := by
      cases ay with
      | none => rfl
      | some ad => simp [Builtin.firstCells, loadCells, loadCellsFrom]
    simp [Builtin.append_, run_underlying ht, sizeOf, typeInfo, hi, Builtin.lenOf, hcap, hf, storeCells]
/-- Of an owned array less is known. -/
theorem Rel.shorten {K : Ker} {h : Hp} (r : Rel K h) {n : Nat} {k : Sh} {es : List V} (hn : h n = some (.arr k es)) (m : Nat) (hm : m ≤ es.length) : Rel K (h.set n (.arr k (es.take m))) := by
  have hd : ∀ x b, (h.set n (.arr k (es.take m))) x = some b → (x = n ∧ b = .arr k (es.take m)) ∨ (x ≠ n ∧ h x = some b) := fun x b e => by
    unfold Hp.set at e
    split at e
    · rename_i hx; injection e with e; exact .inl ⟨hx, e.symm⟩
    · rename_i hx; exact .inr ⟨hx, e⟩
  refine ⟨fun x b e => ?_, fun x b e => ?_, fun x b e => ?_, fun x y b b' e e' em => ?_, r.size⟩
  · rcases hd x b e with ⟨rfl, _⟩ | ⟨_, e⟩
    · exact r.lt _ _ hn
    · exact r.lt _ _ e
  · rcases hd x b e with ⟨rfl, _⟩ | ⟨_, e⟩
    · exact r.base _ _ hn
    · exact r.base _ _ e
  · rcases hd x b e with ⟨rfl, rfl⟩ | ⟨_, e⟩
    · have := r.blk _ _ hn
      cases this with
      | arr _ _ c T hh hsz hi hfit hv =>
        have hle : (es.take m).length * k.size ≤ es.length * k.size := Nat.mul_le_mul_right _ (by simp; omega)
        refine .arr k _ c T hh (by omega) hi (fun x hx => hfit x (List.mem_of_mem_take hx)) fun i hi j hj => ?_
        have hi' : i < m ∧ i < es.length := by simpa [Nat.lt_min] using hi
        have e1 : (es.take m).getD i V.undef = es.getD i V.undef := by simp [List.getD_eq_getElem?_getD, List.getElem?_take, hi'.1]
        rw [e1]
        exact hv i hi'.2 j hj
    · exact r.blk _ _ e
  · have g : ∀ x b, (h.set n (.arr k (es.take m))) x = some b → ∃ b', h x = some b' := fun x b e => by
      rcases hd x b e with ⟨rfl, _⟩ | ⟨_, e⟩
      · exact ⟨_, hn⟩
      · exact ⟨_, e⟩
    obtain ⟨_, e1⟩ := g x b e
    obtain ⟨_, e2⟩ := g y b' e'
    exact r.inj x y _ _ e1 e2 em

/-- An operation that calls nothing; a: a name that nobody uses. -/
theorem lopM_sound {P : Program} {o : Oper} {act : Act} {K : Ker} {sl : List V} {h : Hp} {a : Nat} {R : V → Hp → Prop} {l : LOp} (hl : lowerOp P o = some l) (hs : ∀ t, VR K (sl.getD t V.undef) (act.tmps.getD t Go.undef)) (hr : Rel K h) (hfresh : ¬ K.live a)
    (hsem : l.sem sl h a R) : YieldsM P o act K a R := by
  unfold lowerOp at hl
  split at hl
  case h_1 t x hop =>
    obtain ⟨k, hk, hl⟩ := Option.bind_eq_some_iff.1 hl
    obtain ⟨lx, hx, rfl⟩ := Option.map_eq_some_iff.1 hl
    obtain ⟨hf, hR⟩ := hsem
    obtain ⟨K', q1, q2, q3, q4, q5⟩ := newVar_yields (P := P) hr hfresh (lowerArg_sound hx hs) hf t
    refine ⟨_, _, K', _, _, ?_, .inl rfl, q2, q3, q4, q5, hR⟩
    simp only [execOp, hop, Instr.box, Sem.run_bind, q1, Result.andThen_ok, Sem.run_pure]
  case h_2 t hop =>
    obtain ⟨k, hk, hl⟩ := Option.bind_eq_some_iff.1 hl
    obtain ⟨z, hz, hl⟩ := Option.bind_eq_some_iff.1 hl
    obtain ⟨v, hv, rfl⟩ := Option.map_eq_some_iff.1 hl
    obtain ⟨i, hi, hz⟩ := Option.bind_eq_some_iff.1 hz
    obtain ⟨hf, hR⟩ := hsem
    obtain ⟨K', q1, q2, q3, q4, q5⟩ := newVar_yields (P := P) hr hfresh (absV_sound hv K) hf t
    refine ⟨_, _, K', _, _, ?_, .inl rfl, q2, q3, q4, q5, hR⟩
    have hzv : (zeroValue t).run P K.w = .ok z K.w := by simp [zeroValue, typeInfo, hi, hz]
    simp only [execOp, hop, Instr.alloc, Sem.run_bind, hzv, q1, Result.andThen_ok, Sem.run_pure]
  case h_3 t n parts hop =>
    split at hl
    · rename_i e hu
      split at hl
      · rename_i i hi
        split at hl
        · rename_i z hz
          obtain ⟨k, hk, hl⟩ := Option.bind_eq_some_iff.1 hl
          split at hl
          · rename_i hc
            obtain ⟨ls, hls, rfl⟩ := Option.map_eq_some_iff.1 hl
            obtain ⟨hf, hR⟩ := hsem
            obtain ⟨a1, a2⟩ := lowerArgs_sound hs _ _ _ hls
            obtain ⟨i', d, hi', hd, hsz, _⟩ := shOf_some hk
            rw [hi] at hi'
            injection hi' with hi'
            subst hi'
            have hlen : parts.toList.length = n := by have := congrArg List.length hc.1; simpa using this
            have hcl : ((parts.toList.map (·.2)).map act.eval).length = n := by simpa using hlen
            have hfv : ∀ v ∈ ls.map (LArg.ev sl), v.fits k = true := by
              intro v hv
              obtain ⟨e, he, rfl⟩ := List.mem_map.1 hv
              exact hf e he
            have hparts : (parts.map fun (i, x) => (i, act.eval x)) = ((((parts.toList.map (·.2)).map act.eval).zipIdx 0).map fun p => (p.2, p.1)).toArray := by
              apply Array.ext'
              simp only [Array.toList_map, List.map_map]
              have hidx : ∀ j (h1 : j < parts.toList.length), (parts.toList[j]).1 = j := by
                intro j h1
                have := congrArg (fun l => l[j]?) hc.1
                simp only [List.getElem?_map, List.getElem?_eq_getElem h1, Option.map_some] at this
                rw [List.getElem?_range (by omega)] at this
                injection this
              apply List.ext_getElem
              · simp
              · intro j h1 h2
                simp only [List.getElem_map, List.getElem_zipIdx, Function.comp]
                have := hidx j (by simpa using h1)
                simp only [Nat.zero_add]
                rw [this]
            rcases hR with hR | hR
            · obtain ⟨cv, K', q1, q2, q3, q4, q5⟩ := bslice_yields (P := P) hr hfresh (vs := ls.map (LArg.ev sl)) (cvs := (parts.toList.map (·.2)).map act.eval) hu hi hz hsz (by simp only [List.length_map]; simpa using a1) (fun i hi => a2 i (by simpa using hi)) hfv (by rw [hcl]; exact hc.2)
              refine ⟨_, cv, K', _, _, ?_, .inl rfl, q2, q3, q4, q5, hR⟩
              simp only [execOp, hop, hparts, Sem.run_bind]
              rw [hcl] at q1
              rw [q1]
              rfl
            · obtain ⟨cv, K', q1, q2, q3, q4, q5⟩ := bslice_own_yields (P := P) hr hfresh (vs := ls.map (LArg.ev sl)) (cvs := (parts.toList.map (·.2)).map act.eval) hu hi hz hsz (by simp only [List.length_map]; simpa using a1) (fun i hi => a2 i (by simpa using hi)) hfv (by rw [hcl]; exact hc.2)
              rw [List.length_map] at q4
              refine ⟨_, cv, K', _, _, ?_, .inl rfl, q2, q3, q4, q5, hR⟩
              simp only [execOp, hop, hparts, Sem.run_bind]
              rw [hcl] at q1
              rw [q1]
              rfl
          · simp at hl
        · simp at hl
      · simp at hl
    · simp at hl
  case h_4 t x v hop =>
    obtain ⟨k, hk, hl⟩ := Option.bind_eq_some_iff.1 hl
    obtain ⟨lx, hx, hl⟩ := Option.bind_eq_some_iff.1 hl
    obtain ⟨lv, hv, rfl⟩ := Option.map_eq_some_iff.1 hl
    have vx := lowerArg_sound hx hs
    simp only [LOp.sem] at hsem
    split at hsem
    · rename_i n k' i oo he
      split at hsem
      · rename_i k2 es hn
        obtain ⟨rfl, hi, hp, hf, hR⟩ := hsem
        rw [he] at vx
        generalize hcx : act.eval x = cx at vx
        cases vx with
        | ptr _ _ _ _ hlive =>
          obtain ⟨K', q1, q2, q3, q4⟩ := store_yields (P := P) hr hk hn hi hp (lowerArg_sound hv hs) hf
          refine ⟨.skip, Go.undef, K', V.undef, _, ?_, .inr ⟨rfl, rfl⟩, q2, fun n hn => .inl (q3 n hn), .undef K', q4, hR⟩
          simp only [execOp, hop, hcx, Sem.run_bind, q1, Result.andThen_ok, Sem.run_pure]
      · exact hsem.elim
    · exact hsem.elim
  case h_5 args ts hop =>
    split at hl
    · rename_i x y t t' hxs hts
      have ha : args = #[x, y] := by apply Array.ext'; simpa using hxs
      have ht : ts = #[t, t'] := by apply Array.ext'; simpa using hts
      subst ha ht
      split at hl
      · rename_i htt
        subst htt
        split at hl
        · rename_i e hu
          split at hl
          · rename_i i hi
            split at hl
            · rename_i z hz
              obtain ⟨k, hk, hl⟩ := Option.bind_eq_some_iff.1 hl
              split at hl
              · rename_i hc
                obtain ⟨lx, hx, hl⟩ := Option.bind_eq_some_iff.1 hl
                obtain ⟨ly, hy, rfl⟩ := Option.map_eq_some_iff.1 hl
                have vx := lowerArg_sound hx hs
                have vy := lowerArg_sound hy hs
                simp only [LOp.sem] at hsem
                split at hsem
                · rename_i ky ys hey
                  obtain ⟨rfl, hsem⟩ := hsem
                  have sy := selems_cells hr vy hey
                  obtain ⟨i', d, hi', hd, hsz, _⟩ := shOf_some hk
                  rw [hi] at hi'
                  injection hi' with hi'
                  subst hi'
                  split at hsem
                  · rename_i kx own xs hex
                    obtain ⟨rfl, hb, hsem⟩ := hsem
                    rw [hex] at vx
                    have hm : xs.length + ys.length ≤ 9223372036854775807 := by
                      have := Nat.le_mul_of_pos_right (xs.length + ys.length) hc.2.2
                      omega
                    rcases hsem with ⟨hok, hR⟩ | ⟨rfl, rfl, hne, hR⟩
                    · obtain ⟨cv, K', q1, q2, q3, q4, q5⟩ := append_yields (P := P) (ty := o.type) hr hfresh hu hi hz hsz hc.1 hc.2.1 vx sy (by rintro rfl; exact hok) (by rintro n rfl; exact hok) hb hm
                      refine ⟨_, cv, K', _, _, ?_, .inl rfl, q2, q3, q4, q5, hR⟩
                      simp [execOp, hop, resolve, invoke, builtin, q1]
                    · obtain ⟨cv, K', q1, q2, q3, q4, q5⟩ := append_own_yields (P := P) (ty := o.type) (xs := []) hr hfresh hu hi hz hsz hc.1 hc.2.1 vx sy hne (.inl ⟨rfl, rfl⟩) hb hm
                      refine ⟨_, cv, K', _, _, ?_, .inl rfl, q2, q3, q4, q5, by simpa using hR⟩
                      simp [execOp, hop, resolve, invoke, builtin, q1]
                  · rename_i n kx off len hex
                    split at hsem
                    · rename_i kb es hn
                      obtain ⟨rfl, hsem⟩ := hsem
                      rw [hex] at vx
                      rcases hsem with ⟨rfl, hR⟩ | ⟨rfl, rfl, hlen, hne, hb, hR⟩
                      · have hrun := append_nothing (P := P) (ty := o.type) hu hi vx sy
                        refine ⟨_, _, K, _, _, ?_, .inl rfl, .refl K, fun n hn => .inl hn, vx, hr, hR⟩
                        simp [execOp, hop, resolve, invoke, builtin, hrun]
                      · have hm : len + ys.length ≤ 9223372036854775807 := by
                          have := Nat.le_mul_of_pos_right (len + ys.length) hc.2.2
                          omega
                        have htl : (es.take len).length = len := by simp; omega
                        have hn' : (h.set n (.arr kb (es.take len))) n = some (.arr kb (es.take len)) := by simp [Hp.set]
                        have hr' : Rel K (h.set n (.arr kb (es.take len))) := hr.shorten hn len hlen
                        obtain ⟨cv, K', q1, q2, q3, q4, q5⟩ := append_own_yields (P := P) (ty := o.type) (xs := es.take len) hr' hfresh hu hi hz hsz hc.1 hc.2.1 vx sy hne (.inr ⟨n, by rw [htl], hn'⟩) (by rw [htl]; exact hb) (by rw [htl]; exact hm)
                        have hdel : (h.set n (.arr kb (es.take len))).del n = h.del n := by
                          funext x
                          unfold Hp.set Hp.del
                          by_cases e : x = n <;> simp [e]
                        rw [htl] at q4
                        simp only [hdel] at q5
                        refine ⟨_, cv, K', _, _, ?_, .inl rfl, q2, q3, q4, q5, hR⟩
                        simp [execOp, hop, resolve, invoke, builtin, q1]
                    · exact hsem.elim
                  · exact hsem.elim
                · exact hsem.elim
              · simp at hl
            · simp at hl
          · simp at hl
        · simp at hl
      · split at hl
        · rename_i e kn hu hun
          split at hl
          · rename_i i hi
            split at hl
            · rename_i z hz
              obtain ⟨k, hk, hl⟩ := Option.bind_eq_some_iff.1 hl
              obtain ⟨zv, hzv, hl⟩ := Option.bind_eq_some_iff.1 hl
              split at hl
              · rename_i hc
                obtain ⟨lx, hx, hl⟩ := Option.bind_eq_some_iff.1 hl
                obtain ⟨ly, hy, rfl⟩ := Option.map_eq_some_iff.1 hl
                have vx := lowerArg_sound hx hs
                have vy := lowerArg_sound hy hs
                obtain ⟨i', d, hi', hd, hsz, _⟩ := shOf_some hk
                rw [hi] at hi'
                injection hi' with hi'
                subst hi'
                simp only [LOp.sem] at hsem
                split at hsem
                · rename_i k' ky m hex hey
                  obtain ⟨rfl, h0, hb, hR⟩ := hsem
                  rw [hex] at vx
                  rw [hey] at vy
                  generalize hcx : act.eval x = cx at vx
                  generalize hcy : act.eval y = cy at vy
                  cases vy
                  cases vx with
                  | slnil =>
                    obtain ⟨cv, K', q1, q2, q3, q4, q5⟩ := appz_yields (P := P) hr hfresh hu hun hi hz hsz hc.2.1 hc.2.2 (absV_sound hzv K) hc.1 o.type ky h0 hb
                    refine ⟨_, cv, K', _, _, ?_, .inl rfl, q2, q3, q4, q5, hR⟩
                    simp [execOp, hop, resolve, invoke, builtin, hcx, hcy, q1]
                  | sl _ _ _ b off cap f' hb' hfit' hcell hst hv hcap hnil hfull htok => exact absurd rfl hnil
                · exact hsem.elim
              · simp at hl
            · simp at hl
          · simp at hl
        · simp at hl
    · simp at hl
  case h_6 f args ts hop =>
    obtain ⟨ls, hls, rfl⟩ := Option.map_eq_some_iff.1 hl
    exact hsem.elim
  case h_7 n args ts hop =>
    obtain ⟨ls, hls, rfl⟩ := Option.map_eq_some_iff.1 hl
    exact hsem.elim
  case h_8 args ts hop =>
    split at hl
    · rename_i x t hxs hts
      have ha : args = #[x] := by apply Array.ext'; simpa using hxs
      have ht : ts = #[t] := by apply Array.ext'; simpa using hts
      subst ha ht
      split at hl
      · rename_i e hu
        split at hl
        · rename_i i hi
          split at hl
          · rename_i z hz
            obtain ⟨k, hk, hl⟩ := Option.bind_eq_some_iff.1 hl
            obtain ⟨zv, hzv, hl⟩ := Option.bind_eq_some_iff.1 hl
            split at hl
            · rename_i hc
              obtain ⟨lx, hx, rfl⟩ := Option.map_eq_some_iff.1 hl
              have vx := lowerArg_sound hx hs
              simp only [LOp.sem] at hsem
              split at hsem
              · rename_i n k' off ln hex
                split at hsem
                · rename_i kb es hn
                  obtain ⟨rfl, rfl, hle, hR⟩ := hsem
                  rw [hex] at vx
                  obtain ⟨K', q1, q2, q3, q4⟩ := clear_yields (P := P) hr hn hle vx hu hi hz (absV_sound hzv K) hc o.type
                  refine ⟨_, _, K', _, _, ?_, .inl rfl, q2, fun n hn => .inl (q3 n hn), .undef K', q4, hR⟩
                  simp [execOp, hop, resolve, invoke, builtin, q1]
                  rfl
                · exact hsem.elim
              · rename_i k' own hex
                rw [hex] at vx
                generalize hcx : act.eval x = cx at vx
                have hrun : (Builtin.clear_ #[t] o.type #[cx]).run P K.w = .ok (.tuple #[]) K.w := by
                  cases vx <;> simp [Builtin.clear_, run_underlying hu]
                refine ⟨_, _, K, _, _, ?_, .inl rfl, .refl K, fun n hn => .inl hn, .undef K, hr, hsem⟩
                simp [execOp, hop, resolve, invoke, builtin, hcx, hrun]
                rfl
              · exact hsem.elim
            · simp at hl
          · simp at hl
        · simp at hl
      · simp at hl
    · simp at hl
  case h_9 t x c hop =>
    split at hl
    · rename_i hsame
      have := sameOp_eq hsame
      subst this
      split at hl
      · rename_i e hu
        split at hl
        · rename_i i hi
          split at hl
          · rename_i z hz
            obtain ⟨k, hk, hl⟩ := Option.bind_eq_some_iff.1 hl
            obtain ⟨zv, hzv, hl⟩ := Option.bind_eq_some_iff.1 hl
            split at hl
            · rename_i hc
              obtain ⟨lx, hx, rfl⟩ := Option.map_eq_some_iff.1 hl
              have vx := lowerArg_sound hx hs
              obtain ⟨i', d, hi', hd, hsz, _⟩ := shOf_some hk
              rw [hi] at hi'
              injection hi' with hi'
              subst hi'
              simp only [LOp.sem] at hsem
              split at hsem
              · rename_i km m hex
                obtain ⟨h0, hb, hR⟩ := hsem
                rw [hex] at vx
                generalize hcx : act.eval x = cx at vx
                cases vx
                rcases hR with hR | hR
                · obtain ⟨cv, K', q1, q2, q3, q4, q5⟩ := mkz_own_yields (P := P) hr hfresh hu hi hz hsz hc.2 (absV_sound hzv K) hc.1 km km h0 hb
                  refine ⟨_, cv, K', _, _, ?_, .inl rfl, q2, q3, q4, q5, hR⟩
                  simp [execOp, hop, hcx, q1]
                · obtain ⟨cv, K', q1, q2, q3, q4, q5⟩ := mkz_tok_yields (P := P) hr hfresh hu hi hz hsz hc.2 (absV_sound hzv K) hc.1 km km h0 hb
                  refine ⟨_, cv, K', _, _, ?_, .inl rfl, q2, q3, q4, q5, hR⟩
                  simp [execOp, hop, hcx, q1]
              · exact hsem.elim
            · simp at hl
          · simp at hl
        · simp at hl
      · simp at hl
    · simp at hl
  case h_10 =>
    obtain ⟨lv, hlow, rfl⟩ := Option.map_eq_some_iff.1 hl
    have hsem' : lv.sem sl h (fun v => R v h) := hsem
    exact (lowerVal_sound hlow hs hr hsem').toM hr

def LOp.kind : LOp → Nat
  | .val _ => 0
  | .call _ _ => 1
  | .callv _ _ => 2
  | .callw _ _ _ => 4
  | _ => 3

/-- From which operation of the machine an abstract one came. -/
theorem lowerOp_kind {P : Program} {o : Oper} {l : LOp} (hl : lowerOp P o = some l) :
    (∃ x, lowerVal P o = some x ∧ l = .val x) ∨ (∃ f args ts ls, o.op = .call { callee := .value (.func f), args := args, argTypes := ts } ∧ lowerArgs P ts.toList args.toList = some ls ∧ l = .call f ls) ∨
    (∃ n args ts ls, o.op = .call { callee := .value (.tmp n), args := args, argTypes := ts } ∧ lowerArgs P ts.toList args.toList = some ls ∧ l = .callv (.slot n) ls) ∨ l.kind = 3 := by
  unfold lowerOp at hl
  split at hl
  case h_1 =>
    obtain ⟨k, hk, hl⟩ := Option.bind_eq_some_iff.1 hl
    obtain ⟨lx, hx, rfl⟩ := Option.map_eq_some_iff.1 hl
    exact .inr (.inr (.inr rfl))
  case h_2 =>
    obtain ⟨k, hk, hl⟩ := Option.bind_eq_some_iff.1 hl
    obtain ⟨z, hz, hl⟩ := Option.bind_eq_some_iff.1 hl
    obtain ⟨v, hv, rfl⟩ := Option.map_eq_some_iff.1 hl
    exact .inr (.inr (.inr rfl))
  case h_3 =>
    split at hl
    · split at hl
      · split at hl
        · obtain ⟨k, hk, hl⟩ := Option.bind_eq_some_iff.1 hl
          split at hl
          · obtain ⟨ls, hls, rfl⟩ := Option.map_eq_some_iff.1 hl
            exact .inr (.inr (.inr rfl))
          · simp at hl
        · simp at hl
      · simp at hl
    · simp at hl
  case h_4 =>
    obtain ⟨k, hk, hl⟩ := Option.bind_eq_some_iff.1 hl
    obtain ⟨lx, hx, hl⟩ := Option.bind_eq_some_iff.1 hl
    obtain ⟨lv, hv, rfl⟩ := Option.map_eq_some_iff.1 hl
    exact .inr (.inr (.inr rfl))
  case h_5 =>
    split at hl
    · split at hl
      · split at hl
        · split at hl
          · split at hl
            · obtain ⟨k, hk, hl⟩ := Option.bind_eq_some_iff.1 hl
              split at hl
              · obtain ⟨lx, hx, hl⟩ := Option.bind_eq_some_iff.1 hl
                obtain ⟨ly, hy, rfl⟩ := Option.map_eq_some_iff.1 hl
                exact .inr (.inr (.inr rfl))
              · simp at hl
            · simp at hl
          · simp at hl
        · simp at hl
      · split at hl
        · split at hl
          · split at hl
            · obtain ⟨k, hk, hl⟩ := Option.bind_eq_some_iff.1 hl
              obtain ⟨zv, hzv, hl⟩ := Option.bind_eq_some_iff.1 hl
              split at hl
              · obtain ⟨lx, hx, hl⟩ := Option.bind_eq_some_iff.1 hl
                obtain ⟨ly, hy, rfl⟩ := Option.map_eq_some_iff.1 hl
                exact .inr (.inr (.inr rfl))
              · simp at hl
            · simp at hl
          · simp at hl
        · simp at hl
    · simp at hl
  case h_6 f args ts hop =>
    obtain ⟨ls, hls, rfl⟩ := Option.map_eq_some_iff.1 hl
    exact .inr (.inl ⟨f, args, ts, ls, hop, hls, rfl⟩)
  case h_7 n args ts hop =>
    obtain ⟨ls, hls, rfl⟩ := Option.map_eq_some_iff.1 hl
    exact .inr (.inr (.inl ⟨n, args, ts, ls, hop, hls, rfl⟩))
  case h_8 =>
    split at hl
    · split at hl
      · split at hl
        · split at hl
          · obtain ⟨k, hk, hl⟩ := Option.bind_eq_some_iff.1 hl
            obtain ⟨zv, hzv, hl⟩ := Option.bind_eq_some_iff.1 hl
            split at hl
            · obtain ⟨lx, hx, rfl⟩ := Option.map_eq_some_iff.1 hl
              exact .inr (.inr (.inr rfl))
            · simp at hl
          · simp at hl
        · simp at hl
      · simp at hl
    · simp at hl
  case h_9 =>
    split at hl
    · split at hl
      · split at hl
        · split at hl
          · obtain ⟨k, hk, hl⟩ := Option.bind_eq_some_iff.1 hl
            obtain ⟨zv, hzv, hl⟩ := Option.bind_eq_some_iff.1 hl
            split at hl
            · obtain ⟨lx, hx, rfl⟩ := Option.map_eq_some_iff.1 hl
              exact .inr (.inr (.inr rfl))
            · simp at hl
          · simp at hl
        · simp at hl
      · simp at hl
    · simp at hl
  case h_10 =>
    obtain ⟨lv, h, rfl⟩ := Option.map_eq_some_iff.1 hl
    exact .inl ⟨lv, h, rfl⟩

/-- A call. -/
theorem lopC_sound {P : Program} {o : Oper} {act : Act} {K : Ker} {sl : List V} {h : Hp} {nx : Nat} {R : V → Hp → Nat → Prop} {l : LOp} (hl : lowerOp P o = some l) (hs : ∀ t, VR K (sl.getD t V.undef) (act.tmps.getD t Go.undef)) (hr : Rel K h) (hlv : ∀ n, K.live n → n < nx) {f : FuncId} {args : List V}
    (hc : (∃ la, l = .call f la ∧ args = la.map (LArg.ev sl)) ∨ ∃ x la first cap, l = .callv x la ∧ x.ev sl = .fn (.func f) first cap ∧ args = first ++ la.map (LArg.ev sl) ++ cap) (hsem : ACalls P f args h nx R) : YieldsC P o act K nx R := by
  rcases lowerOp_kind hl with ⟨x, _, rfl⟩ | ⟨f', args', ts, ls, hop, hls, rfl⟩ | ⟨n, args', ts, ls, hop, hls, rfl⟩ | hk
  · rcases hc with ⟨la, e, _⟩ | ⟨x, la, first, cap, e, _⟩ <;> cases e
  · rcases hc with ⟨la, e, rfl⟩ | ⟨x, la, first, cap, e, _⟩
    · injection e with e1 e2
      subst e1 e2
      have hv := lowerArgs_VRs hs hls
      refine ACalls.toC ?_ hlv hr hv hsem
      have he := run_callFunc hsem.1 (args'.map act.eval) K.w
      simpa [execOp, hop, resolve, invoke, Deferred.ofValue, Act.eval] using he
    · cases e
  · rcases hc with ⟨la, e, _⟩ | ⟨x, la, first, cap, e, he, rfl⟩
    · cases e
    · injection e with e1 e2
      subst e1 e2
      have hv := lowerArgs_VRs hs hls
      have vx := hs n
      simp only [LArg.ev] at he
      rw [he] at vx
      generalize hcx : act.tmps.getD n Go.undef = cx at vx
      cases vx with
      | fn _ _ _ cf cc h1 h2 v1 v2 =>
        have hv2 : VRs K (first ++ ls.map (LArg.ev sl) ++ cap) (cf ++ args'.map act.eval ++ cc) := ((show VRs K first cf from ⟨h1, v1⟩).append hv).append ⟨h2, v2⟩
        refine ACalls.toC ?_ hlv hr hv2 hsem
        have he := run_callFunc hsem.1 (cf ++ args'.map act.eval ++ cc) K.w
        have hev : act.eval (.tmp n) = .func (.func f) cf cc := hcx
        simp only [execOp, hop, resolve, hev, Deferred.ofValue, Sem.run_bind, Sem.run_pure, Result.andThen_ok, invoke]
        exact he
  · rcases hc with ⟨la, rfl, _⟩ | ⟨x, la, first, cap, rfl, _⟩ <;> cases hk

/-- A call of yield. -/
theorem lopY_sound {P : Program} {o : Oper} {act : Act} {K : Ker} {sl : List V} {h : Hp} {nx : Nat} {R : V → Hp → Nat → Prop} {x : LArg} {la : List LArg} (hl : lowerOp P o = some (.callv x la)) (hs : ∀ t, VR K (sl.getD t V.undef) (act.tmps.getD t Go.undef)) (hr : Rel K h) (hlv : ∀ n, K.live n → n < nx) {n : Nat}
    (hx : x.ev sl = .yld n) (hsem : AYields P n (la.map (LArg.ev sl)) h nx R) : YieldsC P o act K nx R := by
  rcases lowerOp_kind hl with ⟨y, _, e⟩ | ⟨f', args', ts, ls, hop, hls, e⟩ | ⟨t, args', ts, ls, hop, hls, e⟩ | hk
  · cases e
  · cases e
  · injection e with e1 e2
    subst e1 e2
    have hv := lowerArgs_VRs hs hls
    have vx := hs t
    simp only [LArg.ev] at hx
    rw [hx] at vx
    generalize hcx : act.tmps.getD t Go.undef = cx at vx
    cases vx with
    | yld _ hn =>
      intro rd m next Q hnext
      obtain ⟨fn, tmps, assign, body, q1, q2⟩ := hsem (m - 1) K (args'.map act.eval) hlv hn hr hv
      have hev : act.eval (.tmp t) = .func (.yield (K.mu n)) #[] #[] := hcx
      have hrun : (execOp act.eval o).run P K.w = .ok (.round (K.mu n) fn tmps assign body) K.w := by
        simp only [execOp, hop, resolve, hev, Deferred.ofValue, Sem.run_bind, Sem.run_pure, Result.andThen_ok, invoke]
        simpa using q1
      refine ⟨fun _ _ => trivial, ?_⟩
      rw [semAt_run hrun (by simp) rd]
      refine ⟨(by intro h; cases h), ?_⟩
      refine RoundIn.mono (show RoundIn (FR rd) (m - 1) P (K.mu n) fn tmps assign body K.w _ from q2) ?_
      rintro e w' ⟨K', v, cv, h', nx', rfl, rfl, a, b, cc, d, e', g⟩
      exact hnext K' v cv h' nx' a b cc d e' g
  · cases hk

theorem lop_sound {P : Program} {o : Oper} {act : Act} {K : Ker} {sl : List V} {h : Hp} {nx : Nat} {R : V → Hp → Nat → Prop} {l : LOp} (hl : lowerOp P o = some l) (hs : ∀ t, VR K (sl.getD t V.undef) (act.tmps.getD t Go.undef)) (hr : Rel K h) (hlv : ∀ n, K.live n → n < nx)
    (hsem : l.run P sl h nx R) : YieldsC P o act K nx R := by
  have hfresh : ¬ K.live nx := fun hn => Nat.lt_irrefl _ (hlv nx hn)
  cases l with
  | call f args => exact lopC_sound hl hs hr hlv (.inl ⟨args, rfl, rfl⟩) hsem
  | callv x args =>
    simp only [LOp.run] at hsem
    split at hsem
    · rename_i f first cap he
      exact lopC_sound hl hs hr hlv (.inr ⟨x, args, first, cap, rfl, he, rfl⟩) hsem
    · rename_i n he
      exact lopY_sound hl hs hr hlv he hsem
    · exact hsem.elim
  | val x =>
    rcases lowerOp_kind hl with ⟨y, hy, e⟩ | ⟨f', args', ts, ls, hop, hls, e⟩ | ⟨n, args', ts, ls, hop, hls, e⟩ | hk
    · injection e with e
      subst e
      have hsem' : x.sem sl h (fun v => R v h nx) := hsem
      exact (lowerVal_sound hy hs hr hsem').toC hlv hr
    · cases e
    · cases e
    · cases hk
  | box k x => exact YieldsM.toC hlv (lopM_sound hl hs hr hfresh hsem)
  | bslice k es => exact YieldsM.toC hlv (lopM_sound hl hs hr hfresh hsem)
  | append k b x y => exact YieldsM.toC hlv (lopM_sound hl hs hr hfresh hsem)
  | store t x v => exact YieldsM.toC hlv (lopM_sound hl hs hr hfresh hsem)
  | mkz k b x z => exact YieldsM.toC hlv (lopM_sound hl hs hr hfresh hsem)
  | appz k b x y z => exact YieldsM.toC hlv (lopM_sound hl hs hr hfresh hsem)
  | clear k x z => exact YieldsM.toC hlv (lopM_sound hl hs hr hfresh hsem)
  | callw f args fl => exact hsem.elim

end Go.Proofs.Ythcedfamidlbdaa
