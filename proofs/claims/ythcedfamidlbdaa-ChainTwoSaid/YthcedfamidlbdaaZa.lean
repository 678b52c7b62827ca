/-
The abstract layer, first part: abstract values (a slice that nobody writes to is the list of its elements), abstract memory (blocks that the code owns, by name), and how they stand to the machine's values and memory. No program in sight. No conditions.
-/
import Derived.WalkKit
namespace Go.Proofs.Ythcedfamidlbdaa
set_option linter.unusedSimpArgs false
set_option linter.unusedVariables false
set_option linter.unusedSectionVars false
open Go.RowKit

/-- The shape of an element: one cell, or a struct or array of so many cells. -/
inductive Sh where
  | leaf
  | agg (n : Nat)
  deriving DecidableEq, Inhabited
def Sh.size : Sh → Nat
  | .leaf => 1
  | .agg n => n

/-- What is known of a slice's array: nil; full (its capacity is its length); its end may be appended to by whoever holds the token n; nothing. -/
inductive Own where
  | nil
  | full
  | tok (n : Nat)
  | free
  deriving DecidableEq, Inhabited

inductive V where
  | bool (b : Bool)
  | int (k : IntKind) (n : Int)
  | str (s : ByteArray)
  | nilPtr
  | ptr (n : Nat) (k : Sh) (i o : Nat)
  | ept (k : Sh) (es : List V) (i o : Nat)
  | sl (k : Sh) (own : Own) (es : List V)
  | rs (n : Nat) (k : Sh) (off len : Nat)
  | nilMap
  | map (n : Nat)
  | nilChan
  | chan (n : Nat)
  | fn (f : Fn) (first cap : List V)
  | nilFn
  | yld (n : Nat)
  | iface (t : Nat) (v : V)
  | nilIface
  | agg (cs : List V)
  | tup (vs : List V)
  | top
  deriving Inhabited

def V.undef : V := .tup []
/-- May it lie in one cell? -/
def V.leafy : V → Bool
  | .agg _ => false
  | .tup _ => false
  | .top => false
  | _ => true
def V.cells : V → List V
  | .agg cs => cs
  | v => [v]
def V.cell (e : V) (j : Nat) : V := e.cells.getD j V.undef
def V.fits : Sh → V → Bool
  | .leaf, v => v.leafy
  | .agg n, .agg cs => decide (cs.length = n) && cs.all V.leafy
  | .agg _, _ => false

/-- The machine's world beside what is known of it: where the named blocks lie, how many cells of a block never turn again, where a token's end is, the names in use, and the blocks that are frozen whole. -/
structure Ker where
  w : World
  mu : Nat → Nat
  imm : Nat → Nat
  tp : Nat → Nat
  live : Nat → Prop
  fro : Nat → Prop

def Ker.still (K : Ker) (b o : Nat) : Prop := K.fro b ∨ o < K.imm b

/-- The block in which a range over a function collects what its rounds defer: nothing. -/
def markAt (w : World) (b : Nat) : Prop := w.heap[b]? = some (.deferred (some []))
/-- Some blocks as they were; the streams as they were; no block has gone. -/
structure Kept (F : Nat → Prop) (w w' : World) : Prop where
  os : w'.os = w.os
  tape : w'.tape = w.tape
  output : w'.output = w.output
  drawn : w.drawn ≤ w'.drawn
  size : w.heap.size ≤ w'.heap.size
  block : ∀ b, b < w.heap.size → F b ∨ markAt w b → w'.heap[b]? = w.heap[b]?
theorem Kept.refl (F : Nat → Prop) (w : World) : Kept F w w := ⟨rfl, rfl, rfl, Nat.le_refl _, Nat.le_refl _, fun _ _ _ => rfl⟩
theorem Kept.trans {F : Nat → Prop} {a b c : World} (h : Kept F a b) (k : Kept F b c) : Kept F a c :=
  ⟨k.os.trans h.os, k.tape.trans h.tape, k.output.trans h.output, Nat.le_trans h.drawn k.drawn, Nat.le_trans h.size k.size, fun i hi hF => (k.block i (Nat.lt_of_lt_of_le hi h.size) (hF.imp (fun h => h) fun hm => (h.block i hi (.inr hm)).trans hm)).trans (h.block i hi hF)⟩
theorem Kept.drew {F : Nat → Prop} (w : World) : Kept F w w.drew := ⟨rfl, rfl, rfl, Nat.le_succ _, Nat.le_refl _, fun _ _ _ => rfl⟩
theorem Kept.alloc {F : Nat → Prop} (w : World) (o : Obj) : Kept F w (w.alloc o) := ⟨rfl, rfl, rfl, Nat.le_refl _, by simp, fun k hk _ => Below.heap_alloc w o k hk⟩

inductive VR (K : Ker) : V → Value → Prop where
  | bool (b : Bool) : VR K (.bool b) (.bool b)
  | int (k : IntKind) (n : Int) : VR K (.int k n) (.int k n)
  | str (s : ByteArray) : VR K (.str s) (.string s)
  | nilPtr : VR K .nilPtr (.pointer none)
  | ptr (n : Nat) (k : Sh) (i o : Nat) (h : K.live n) : VR K (.ptr n k i o) (.pointer (some ⟨K.mu n, i * k.size + o, none⟩))
  | ept (k : Sh) (es : List V) (i o b off : Nat) (f : Nat → Value) (hb : b < K.w.heap.size) (hfit : ∀ e ∈ es, e.fits k = true)
      (hcell : ∀ j, j < es.length * k.size → K.w.cell? ⟨b, off + j, none⟩ = some (f j)) (hst : ∀ j, j < es.length * k.size → K.still b (off + j))
      (hv : ∀ i, i < es.length → ∀ j, j < k.size → VR K ((es.getD i V.undef).cell j) (f (i * k.size + j))) :
      VR K (.ept k es i o) (.pointer (some ⟨b, off + (i * k.size + o), none⟩))
  | slnil (k : Sh) : VR K (.sl k .nil []) (.slice none 0 0)
  | slz (k : Sh) (a : Addr) : VR K (.sl k .free []) (.slice (some a) 0 0)
  | sl (k : Sh) (own : Own) (es : List V) (b off cap : Nat) (f : Nat → Value) (hb : b < K.w.heap.size) (hfit : ∀ e ∈ es, e.fits k = true)
      (hcell : ∀ j, j < es.length * k.size → K.w.cell? ⟨b, off + j, none⟩ = some (f j)) (hst : ∀ j, j < es.length * k.size → K.still b (off + j))
      (hv : ∀ i, i < es.length → ∀ j, j < k.size → VR K ((es.getD i V.undef).cell j) (f (i * k.size + j)))
      (hcap : es.length ≤ cap) (hnil : own ≠ .nil) (hfull : own = .full → cap = es.length)
      (htok : ∀ n, own = .tok n → K.live n ∧ (cap = es.length ∨ K.mu n = b ∧ K.tp n = off + es.length * k.size ∧ ∃ T m, K.w.shape? b = some (T, m) ∧ off + cap * k.size ≤ m)) :
      VR K (.sl k own es) (.slice (some ⟨b, off, none⟩) es.length cap)
  | rs (n : Nat) (k : Sh) (off len cap : Nat) (h : K.live n) (hcap : len ≤ cap) (hm : ∃ T m, K.w.shape? (K.mu n) = some (T, m) ∧ (off + cap) * k.size ≤ m) :
      VR K (.rs n k off len) (.slice (some ⟨K.mu n, off * k.size, none⟩) len cap)
  | nilMap : VR K .nilMap (.map none)
  | map (n : Nat) (h : K.live n) : VR K (.map n) (.map (some (K.mu n)))
  | nilChan : VR K .nilChan (.chan none)
  | chan (n : Nat) (h : K.live n) : VR K (.chan n) (.chan (some (K.mu n)))
  | fn (f : Fn) (first cap : List V) (cfirst ccap : Array Value) (h1 : first.length = cfirst.size) (h2 : cap.length = ccap.size)
      (v1 : ∀ i, i < first.length → VR K (first.getD i V.undef) (cfirst.getD i Go.undef)) (v2 : ∀ i, i < cap.length → VR K (cap.getD i V.undef) (ccap.getD i Go.undef)) :
      VR K (.fn f first cap) (.func f cfirst ccap)
  | nilFn : VR K .nilFn .nilFunc
  | yld (n : Nat) (h : K.live n) : VR K (.yld n) (.func (.yield (K.mu n)) #[] #[])
  | iface (t : Nat) (v : V) (cv : Value) (h : VR K v cv) : VR K (.iface t v) (.iface t cv)
  | nilIface : VR K .nilIface .nilIface
  | agg (cs : List V) (ccs : Array Value) (h : cs.length = ccs.size) (v : ∀ i, i < cs.length → VR K (cs.getD i V.undef) (ccs.getD i Go.undef)) : VR K (.agg cs) (.agg ccs)
  | tup (cs : List V) (ccs : Array Value) (h : cs.length = ccs.size) (v : ∀ i, i < cs.length → VR K (cs.getD i V.undef) (ccs.getD i Go.undef)) : VR K (.tup cs) (.tuple ccs)
  | top (cv : Value) : VR K .top cv

/-- What is known goes on being so. -/
structure Ker.le (K K' : Ker) : Prop where
  live : ∀ n, K.live n → K'.live n
  mu : ∀ n, K.live n → K'.mu n = K.mu n
  tp : ∀ n, K.live n → K'.tp n = K.tp n
  fro : K'.fro = K.fro
  imm : ∀ b, b < K.w.heap.size → K.imm b ≤ K'.imm b
  cell : ∀ b o, b < K.w.heap.size → K.still b o → K'.w.cell? ⟨b, o, none⟩ = K.w.cell? ⟨b, o, none⟩
  shape : ∀ b, b < K.w.heap.size → K'.w.shape? b = K.w.shape? b
  below : Kept K.fro K.w K'.w

theorem Ker.le.refl (K : Ker) : K.le K := ⟨fun _ h => h, fun _ _ => rfl, fun _ _ => rfl, rfl, fun _ _ => Nat.le_refl _, fun _ _ _ _ => rfl, fun _ _ => rfl, Kept.refl _ _⟩

theorem Ker.le.still {K K' : Ker} (h : K.le K') {b o : Nat} (hb : b < K.w.heap.size) (hs : K.still b o) : K'.still b o := by
  rcases hs with hs | hs
  · exact .inl (by rw [h.fro]; exact hs)
  · exact .inr (Nat.lt_of_lt_of_le hs (h.imm b hb))

theorem Ker.le.trans {K K' K'' : Ker} (h : K.le K') (h' : K'.le K'') : K.le K'' where
  live n hn := h'.live n (h.live n hn)
  mu n hn := (h'.mu n (h.live n hn)).trans (h.mu n hn)
  tp n hn := (h'.tp n (h.live n hn)).trans (h.tp n hn)
  fro := h'.fro.trans h.fro
  imm b hb := Nat.le_trans (h.imm b hb) (h'.imm b (Nat.lt_of_lt_of_le hb h.below.size))
  cell b o hb hs := (h'.cell b o (Nat.lt_of_lt_of_le hb h.below.size) (h.still hb hs)).trans (h.cell b o hb hs)
  shape b hb := (h'.shape b (Nat.lt_of_lt_of_le hb h.below.size)).trans (h.shape b hb)
  below := h.below.trans (h.fro ▸ h'.below)

/-- The same, without what is said of blocks that are no cells. -/
structure Ker.leV (K K' : Ker) : Prop where
  live : ∀ n, K.live n → K'.live n
  mu : ∀ n, K.live n → K'.mu n = K.mu n
  tp : ∀ n, K.live n → K'.tp n = K.tp n
  fro : K'.fro = K.fro
  imm : ∀ b, b < K.w.heap.size → K.imm b ≤ K'.imm b
  cell : ∀ b o, b < K.w.heap.size → K.still b o → K'.w.cell? ⟨b, o, none⟩ = K.w.cell? ⟨b, o, none⟩
  shape : ∀ b, b < K.w.heap.size → K'.w.shape? b = K.w.shape? b
  size : K.w.heap.size ≤ K'.w.heap.size
theorem Ker.le.toV {K K' : Ker} (h : K.le K') : K.leV K' := ⟨h.live, h.mu, h.tp, h.fro, h.imm, h.cell, h.shape, h.below.size⟩
theorem Ker.leV.refl (K : Ker) : K.leV K := (Ker.le.refl K).toV
theorem Ker.leV.still {K K' : Ker} (h : K.leV K') {b o : Nat} (hb : b < K.w.heap.size) (hs : K.still b o) : K'.still b o := by
  rcases hs with hs | hs
  · exact .inl (by rw [h.fro]; exact hs)
  · exact .inr (Nat.lt_of_lt_of_le hs (h.imm b hb))
theorem Ker.leV.trans {K K' K'' : Ker} (h : K.leV K') (h' : K'.leV K'') : K.leV K'' where
  live n hn := h'.live n (h.live n hn)
  mu n hn := (h'.mu n (h.live n hn)).trans (h.mu n hn)
  tp n hn := (h'.tp n (h.live n hn)).trans (h.tp n hn)
  fro := h'.fro.trans h.fro
  imm b hb := Nat.le_trans (h.imm b hb) (h'.imm b (Nat.lt_of_lt_of_le hb h.size))
  cell b o hb hs := (h'.cell b o (Nat.lt_of_lt_of_le hb h.size) (h.still hb hs)).trans (h.cell b o hb hs)
  shape b hb := (h'.shape b (Nat.lt_of_lt_of_le hb h.size)).trans (h.shape b hb)
  size := Nat.le_trans h.size h'.size

theorem VR.monoV {K K' : Ker} (h : K.leV K') {v : V} {cv : Value} (r : VR K v cv) : VR K' v cv := by
  induction r with
  | bool b => exact .bool b
  | int k n => exact .int k n
  | str s => exact .str s
  | nilPtr => exact .nilPtr
  | ptr n k i o hn => rw [← h.mu n hn]; exact .ptr n k i o (h.live n hn)
  | ept k es i o b off f hb hfit hcell hst hv ih =>
    exact .ept k es i o b off f (Nat.lt_of_lt_of_le hb h.size) hfit (fun j hj => (h.cell b _ hb (hst j hj)).trans (hcell j hj)) (fun j hj => h.still hb (hst j hj)) ih
  | slnil k => exact .slnil k
  | slz k a => exact .slz k a
  | sl k own es b off cap f hb hfit hcell hst hv hcap hnil hfull htok ih =>
    refine .sl k own es b off cap f (Nat.lt_of_lt_of_le hb h.size) hfit (fun j hj => (h.cell b _ hb (hst j hj)).trans (hcell j hj)) (fun j hj => h.still hb (hst j hj)) ih hcap hnil hfull ?_
    intro n hn
    obtain ⟨a, q⟩ := htok n hn
    refine ⟨h.live n a, ?_⟩
    rcases q with q | ⟨c, d, T, m, g, i⟩
    · exact .inl q
    · exact .inr ⟨(h.mu n a).trans c, (h.tp n a).trans d, T, m, (h.shape b hb).trans g, i⟩
  | rs n k off len cap hn hcap hm =>
    rw [← h.mu n hn]
    refine .rs n k off len cap (h.live n hn) hcap ?_
    obtain ⟨T, m, a, b⟩ := hm
    refine ⟨T, m, ?_, b⟩
    rw [h.mu n hn, h.shape _ ?_]
    · exact a
    · unfold World.shape? at a
      rcases Nat.lt_or_ge (K.mu n) K.w.heap.size with hlt | hge
      · exact hlt
      · rw [Array.getElem?_eq_none hge] at a; exact absurd a (by simp)
  | nilMap => exact .nilMap
  | map n hn => rw [← h.mu n hn]; exact .map n (h.live n hn)
  | nilChan => exact .nilChan
  | chan n hn => rw [← h.mu n hn]; exact .chan n (h.live n hn)
  | fn f first cap cfirst ccap h1 h2 _ _ v1 v2 => exact .fn f first cap cfirst ccap h1 h2 v1 v2
  | nilFn => exact .nilFn
  | yld n hn => rw [← h.mu n hn]; exact .yld n (h.live n hn)
  | iface t v cv _ ih => exact .iface t v cv ih
  | nilIface => exact .nilIface
  | agg cs ccs hl _ ih => exact .agg cs ccs hl ih
  | tup cs ccs hl _ ih => exact .tup cs ccs hl ih
  | top cv => exact .top cv
theorem VR.mono {K K' : Ker} (h : K.le K') {v : V} {cv : Value} (r : VR K v cv) : VR K' v cv := r.monoV h.toV

/-- A list of values beside an array of the machine's. -/
def VRs (K : Ker) (vs : List V) (cvs : Array Value) : Prop := vs.length = cvs.size ∧ ∀ i, i < vs.length → VR K (vs.getD i V.undef) (cvs.getD i Go.undef)
theorem VRs.mono {K K' : Ker} (h : K.le K') {vs : List V} {cvs : Array Value} (r : VRs K vs cvs) : VRs K' vs cvs := ⟨r.1, fun i hi => (r.2 i hi).mono h⟩
theorem VRs.monoV {K K' : Ker} (h : K.leV K') {vs : List V} {cvs : Array Value} (r : VRs K vs cvs) : VRs K' vs cvs := ⟨r.1, fun i hi => (r.2 i hi).monoV h⟩
theorem VR.undef (K : Ker) : VR K V.undef Go.undef := .tup [] #[] rfl (fun i hi => absurd hi (by simp))

theorem getD_nil (i : Nat) : ([] : List V).getD i V.undef = V.undef := by simp

/-- What lies in one cell. -/
theorem VR.oneCell {K : Ker} {v : V} {cv : Value} (r : VR K v cv) (h : v.leafy = true) : cv.oneCell' = true := by
  cases r <;> first | rfl | (simp [V.leafy] at h)

/-- The cells of a value. -/
theorem VR.cells {K : Ker} {k : Sh} {v : V} {cv : Value} (r : VR K v cv) (h : v.fits k = true) :
    v.cells.length = k.size ∧ cv.cells.size = k.size ∧ (∀ j, j < k.size → VR K (v.cell j) (cv.cells.getD j Go.undef)) ∧ (∀ j, j < k.size → (v.cell j).leafy = true) := by
  cases k with
  | leaf =>
    simp only [V.fits] at h
    have e1 : v.cells = [v] := by cases v <;> first | rfl | (simp [V.leafy] at h)
    have e2 : cv.cells = #[cv] := by cases r <;> first | rfl | (simp [V.leafy] at h)
    refine ⟨by rw [e1]; rfl, by rw [e2]; rfl, ?_, ?_⟩
    · intro j hj
      have : j = 0 := by simp [Sh.size] at hj; exact hj
      subst this
      unfold V.cell
      rw [e1, e2]
      exact r
    · intro j hj
      have : j = 0 := by simp [Sh.size] at hj; exact hj
      subst this
      unfold V.cell
      rw [e1]
      exact h
  | agg n =>
    cases r with
    | agg cs ccs hl hv =>
      simp only [V.fits, Bool.and_eq_true, decide_eq_true_eq, List.all_eq_true] at h
      obtain ⟨h1, h2⟩ := h
      refine ⟨h1, by show ccs.size = n; omega, fun j hj => hv j (by simp only [Sh.size] at hj; omega), ?_⟩
      intro j hj
      simp only [Sh.size] at hj
      have hj' : j < cs.length := by omega
      show (cs.getD j V.undef).leafy = true
      rw [List.getD_eq_getElem?_getD, List.getElem?_eq_getElem hj']
      exact h2 _ (List.getElem_mem _)
    | _ => simp [V.fits] at h

/-- Two values with the same cells are one, where their shape is known. -/
theorem VR.of_cells {K : Ker} {n : Nat} {v : V} {ccs : Array Value} (h : v.fits (.agg n) = true) (hs : ccs.size = n) (hv : ∀ j, j < n → VR K (v.cell j) (ccs.getD j Go.undef)) : VR K v (.agg ccs) := by
  cases v with
  | agg cs =>
    simp only [V.fits, Bool.and_eq_true, decide_eq_true_eq] at h
    exact .agg cs ccs (by omega) (fun i hi => hv i (by omega))
  | _ => simp [V.fits] at h

/-- An abstract block. -/
inductive Blk where
  | arr (k : Sh) (es : List V)
  | tip
  | obj (o : Obj) (U : Ker → Prop)
  deriving Inhabited
abbrev Hp := Nat → Option Blk
def Hp.set (h : Hp) (n : Nat) (b : Blk) : Hp := fun m => if m = n then some b else h m
def Hp.del (h : Hp) (n : Nat) : Hp := fun m => if m = n then none else h m
def Hp.le (h h' : Hp) : Prop := ∀ n b, h n = some b → h' n = some b
theorem Hp.le_refl (h : Hp) : h.le h := fun _ _ e => e

/-- No block of cells, and none in which calls are gathered. -/
def plainB : Obj → Bool
  | .cells .. => false
  | .deferred .. => false
  | _ => true
inductive BR (K : Ker) (n : Nat) : Blk → Prop where
  | arr (k : Sh) (es : List V) (c : Array Value) (T : Nat) (hh : K.w.heap[K.mu n]? = some (.cells c T (0, 0))) (hsz : es.length * k.size ≤ c.size) (hi : K.imm (K.mu n) = 0)
      (hfit : ∀ e ∈ es, e.fits k = true) (hv : ∀ i, i < es.length → ∀ j, j < k.size → VR K ((es.getD i V.undef).cell j) (c.getD (i * k.size + j) Go.undef)) : BR K n (.arr k es)
  | tip (c : Array Value) (T : Nat) (hh : K.w.heap[K.mu n]? = some (.cells c T (0, 0))) (hi : K.imm (K.mu n) = K.tp n) (ht : K.tp n ≤ c.size) : BR K n .tip
  | obj (o : Obj) (U : Ker → Prop) (hh : K.w.heap[K.mu n]? = some o) (ho : plainB o = true) (hu : U K) (hU : ∀ A B : Ker, A.leV B → U A → U B) : BR K n (.obj o U)

structure Rel (K : Ker) (h : Hp) : Prop where
  lt : ∀ n b, h n = some b → K.live n
  base : ∀ n b, h n = some b → ¬ K.fro (K.mu n)
  blk : ∀ n b, h n = some b → BR K n b
  inj : ∀ n n' b b', h n = some b → h n' = some b' → K.mu n = K.mu n' → n = n'
  size : ∀ b, K.fro b → b < K.w.heap.size

theorem Rel.weaken {K : Ker} {h h' : Hp} (r : Rel K h) (hl : h'.le h) : Rel K h' :=
  ⟨fun n b e => r.lt n b (hl n b e), fun n b e => r.base n b (hl n b e), fun n b e => r.blk n b (hl n b e), fun n n' b b' e e' => r.inj n n' b b' (hl n b e) (hl n' b' e'), r.size⟩

theorem BR.lt_size {K : Ker} {n : Nat} {b : Blk} (r : BR K n b) : K.mu n < K.w.heap.size := by
  have key : ∀ o, K.w.heap[K.mu n]? = some o → K.mu n < K.w.heap.size := fun o ho => by
    rcases Nat.lt_or_ge (K.mu n) K.w.heap.size with hlt | hge
    · exact hlt
    · rw [Array.getElem?_eq_none hge] at ho; exact absurd ho (by simp)
  cases r with
  | arr k es c T hh => exact key _ hh
  | tip c T hh => exact key _ hh
  | obj o U hh => exact key _ hh

theorem BR.monoV {K K' : Ker} {n : Nat} {b : Blk} (h : K.leV K') (hn : K.live n) (hh : K'.w.heap[K.mu n]? = K.w.heap[K.mu n]?) (hi : K'.imm (K.mu n) = K.imm (K.mu n)) (r : BR K n b) : BR K' n b := by
  have em := h.mu n hn
  have et := h.tp n hn
  cases r with
  | arr k es c T hc hsz hi' hfit hv => exact .arr k es c T (by rw [em, hh]; exact hc) hsz (by rw [em, hi]; exact hi') hfit (fun i hi j hj => (hv i hi j hj).monoV h)
  | tip c T hc hi' ht => exact .tip c T (by rw [em, hh]; exact hc) (by rw [em, hi, et]; exact hi') (by rw [et]; exact ht)
  | obj o U ho hc hu hU => exact .obj o U (by rw [em, hh]; exact ho) hc (hU _ _ h hu) hU

theorem BR.mono {K K' : Ker} {n : Nat} {b : Blk} (h : K.le K') (hn : K.live n) (hh : K'.w.heap[K.mu n]? = K.w.heap[K.mu n]?) (hi : K'.imm (K.mu n) = K.imm (K.mu n)) (r : BR K n b) : BR K' n b := r.monoV h.toV hn hh hi

/-- All blocks but one go on as they are. -/
theorem Rel.keepV {K K' : Ker} {h : Hp} (r : Rel K h) (hle : K.leV K') (hh : ∀ n b, h n = some b → K'.w.heap[K.mu n]? = K.w.heap[K.mu n]? ∧ K'.imm (K.mu n) = K.imm (K.mu n)) : Rel K' h where
  lt n b e := hle.live n (r.lt n b e)
  base n b e := by rw [hle.fro, hle.mu n (r.lt n b e)]; exact r.base n b e
  blk n b e := (r.blk n b e).monoV hle (r.lt n b e) (hh n b e).1 (hh n b e).2
  inj n n' b b' e e' em := by
    rw [hle.mu n (r.lt n b e), hle.mu n' (r.lt n' b' e')] at em
    exact r.inj n n' b b' e e' em
  size b hb := by rw [hle.fro] at hb; exact Nat.lt_of_lt_of_le (r.size b hb) hle.size
theorem Rel.keep {K K' : Ker} {h : Hp} (r : Rel K h) (hle : K.le K') (hh : ∀ n b, h n = some b → K'.w.heap[K.mu n]? = K.w.heap[K.mu n]? ∧ K'.imm (K.mu n) = K.imm (K.mu n)) : Rel K' h := r.keepV hle.toV hh

end Go.Proofs.Ythcedfamidlbdaa
