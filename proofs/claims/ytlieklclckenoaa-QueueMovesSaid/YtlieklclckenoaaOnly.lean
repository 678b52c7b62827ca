/-
What a step of memory keeps; a range over a function whose iterator changes memory of its own: the statement's rule and a round's rule; a queue as a value in memory. Conditions: the outermost loop; no panic within a round.
-/
import Derived.RangeFuncNested
import Derived.RangeFuncBound
import Derived.RangeFuncCalls
import Derived.RangeFuncLeaves
import Derived.Shelf.Abstract
import Derived.Shelf.RegionOpen
import Derived.WalkKit
import Derived.OwnWalkIn
import Derived.TacticsInMore
import Derived.LoopNIn
import Derived.LoopIn
import Derived.Deep.QuietTactic
import Derived.BigQuiet
import Derived.Deep.Cut
import Derived.LoopN
import Derived.Conc.LoneCalls
import Derived.Conc.LoneSelect
import Derived.Conc.LoneSelectN
import Derived.KernelRfl
import Derived.Laws.Rows
import Derived.LaidEql
import Derived.Test.YtlieklclckenoaaChecked
namespace Go.Proofs.Ytlieklclckenoaa
open Go.RowKit Go.Shelf Go.Conc
attribute [local go_sem] Oper.semAt_some
theorem wide_fn (k : FuncId) : Fence.wide.fn k = True := rfl
theorem wide_depth : Fence.wide.depth = none := rfl
attribute [local go_sem] wide_fn wide_depth

variable {F : Fence} {n : Nat} {P : Program}

/-- The record of a loop. -/
def recOf (fn : FuncId) (tmps : Array Value) (ps : Array Tmp) (assign body : Code) (D : Nat) (st : LoopState) (pe : Option Code) : Loop :=
  { state := st, pending := pe, fn, tmps, params := ps, assign, body, defers := D }

theorem wpIn_rangeFunc_at {g : Operand} {ps : Array Tmp} {assign body : Code} {Q : Exit → Act → World → Prop} {a : Act} {w : World}
    (hro : F.round = none) (h1 : 1 ≤ n) {gf : Nat} {lb : Array Value} (hg : a.eval g = .func (.func gf) #[] lb) (hFg : F.fn gf) (eg : ∀ args w, (callFunc gf args).run P w = .ok (.enter gf args) w)
    (h : ∀ fn, F.fn fn → CallsIn F (n - 1) P gf (#[.func (.yield (w.heap.size + 1)) #[] #[]] ++ lb)
        ((w.alloc (.deferred (some []))).alloc (.loop (recOf fn a.tmps ps assign body w.heap.size .ready none))) fun e W2 => (∃ v, e = .returned v) ∧
        ((W2.heap[w.heap.size + 1]? = some (.loop (recOf fn a.tmps ps assign body w.heap.size .ready none)) ∧
            Q .normal { a with defers := { target := .collected w.heap.size, args := #[] } :: a.defers } (W2.putObj (w.heap.size + 1) (.loop (recOf fn a.tmps ps assign body w.heap.size .exhausted none)))) ∨
         (∃ c, W2.heap[w.heap.size + 1]? = some (.loop (recOf fn a.tmps ps assign body w.heap.size .done (some c))) ∧
            c.wpIn F n P Q { a with defers := { target := .collected w.heap.size, args := #[] } :: a.defers } (W2.putObj (w.heap.size + 1) (.loop (recOf fn a.tmps ps assign body w.heap.size .exhausted (some c))))))) :
    (Code.rangeFunc g ps assign body).wpIn F n P Q a w := by
  refine wpIn_rangeFunc ?_
  intro fn hfn
  rw [hro]
  let W1 := (w.alloc (.deferred (some []))).alloc (.loop (recOf fn a.tmps ps assign body w.heap.size .ready none))
  refine ⟨w.heap.size + 1, [{ target := .collected w.heap.size, args := #[] }], W1, { target := .fn (.func gf) lb, args := #[.func (.yield (w.heap.size + 1)) #[] #[]] }, W1, gf,
    #[.func (.yield (w.heap.size + 1)) #[] #[]] ++ lb, W1, run_enterLoop_outer _ _ _ _ _, ?_, ?_, ?_, fun _ => h1, ?_⟩
  · simp only [resolve, hg]
    simp [go_sem]
  · intro f' hf'; simp [Target.leads] at hf'; subst hf'; exact hFg
  · simp [invoke, go_sem, eg]
  · refine (h fn hfn).mono ?_
    rintro e W2 ⟨⟨v, rfl⟩, (⟨hl, hq⟩ | ⟨c, hl, hq⟩)⟩
    · exact ⟨none, _, by have := run_endLoop (P := P) hl (by simp [recOf]); exact this, hq⟩
    · exact ⟨some c, _, by have := run_endLoop (P := P) hl (by simp [recOf]); exact this, hq⟩

/-- A function whose body holds a range over a function. -/
theorem calls_of_wp_marks {f : FuncId} {fn : Func} {c : Code} {args : Array Value} {w : World} {R : Ending → World → Prop}
    (hf : P.funcs[f]? = some fn) (hb : fn.body = some c)
    (h : c.wp P (bodyPostM Fence.wide 4 P fn R) { tmps := args ++ Array.replicate (fn.ntmps - args.size) undef, defers := [] } w) : Calls P f args w R :=
  callsIn_wide.1 (callsIn_of_wp_marks (n := 4) hf hb trivial ((wpIn_wide (n := 4)).2 h) rfl)

theorem results_cell1 {fn : Func} {p : Tmp} {ty : TypeId} (h : fn.results = #[.cell p ty]) {tmps : Array Value} {P : Program} {w : World} {ad : Addr} {v : Value} (ht : tmps.getD p undef = .pointer (some ad)) (hl : (loadVar ty ad).run P w = .ok v w) :
    (results fn tmps).run P w = .ok v w := by
  simp only [results, h]
  have ht' : tmps[p]?.getD undef = .pointer (some ad) := by simpa using ht
  simp [Sem.run_bind, ht', hl, asAddr]

/-- The end of such a function: one mark. -/
theorem post_mark {fn : Func} {R : Ending → World → Prop} {D : Nat} {a : Act} {W : World} {v : Value} (hd : a.defers = [{ target := .collected D, args := #[] }]) (hK : W.heap[D]? = some (.deferred (some [])))
    (hr : (results fn a.tmps).run P (W.putObj D (.deferred none)) = .ok v (W.putObj D (.deferred none))) (hR : R (.returned v) (W.putObj D (.deferred none))) : bodyPostM Fence.wide 4 P fn R .ret a W := by
  obtain ⟨tmps, defers⟩ := a
  simp only at hd
  subst hd
  exact ⟨by simp, .inl ⟨_, _, rfl, run_takeDeferred hK, ⟨v, hr, hR⟩⟩⟩

/-- What a round's body must leave behind. -/
def roundEnds (l : Nat) (rcd : LoopState → Option Code → Obj) (R : Ending → World → Prop) : Exit → Act → World → Prop
  | .normal, _, W => W.heap[l]? = some (rcd .busy none) ∧ R (.returned (.bool true)) (W.putObj l (rcd .ready none))
  | .ret, _, W => W.heap[l]? = some (rcd .busy none) ∧ R (.returned (.bool false)) (W.putObj l (rcd .done (some .ret)))
  | .exit id, _, W => W.heap[l]? = some (rcd .busy none) ∧ R (.returned (.bool false)) (W.putObj l (rcd .done (some (.exit id))))
  | .goto t, _, W => W.heap[l]? = some (rcd .busy none) ∧ R (.returned (.bool false)) (W.putObj l (rcd .done (some (.goto t))))
  | .panic _, _, _ => False
  | .outgrown, _, _ => False

theorem yieldAt_of {l : Nat} {fn : FuncId} {tmps : Array Value} {ps : Array Tmp} {assign body : Code} {D : Nat} {args : Array Value} {W : World} {R : Ending → World → Prop} {m : Nat}
    (hF : F.fn fn) (hl : W.heap[l]? = some (.loop (recOf fn tmps ps assign body D .ready none))) (hsz : args.size = ps.size)
    (h : assign.wpIn (F.inRound l) m P (Exit.then (fun a₁ W₁ => W₁.heap[l]? = some (.loop (recOf fn tmps ps assign body D .ready none)) ∧
        body.wpIn (F.inRound l) m P (roundEnds l (fun st pe => .loop (recOf fn tmps ps assign body D st pe)) R) a₁ (W₁.putObj l (.loop (recOf fn tmps ps assign body D .busy none)))) (fun _ _ _ => False))
      { tmps := (ps.zip args).foldl (fun t (p, v) => t.setIfInBounds p v) tmps, defers := [] } W) :
    YieldAt F m P l args W R := by
  refine ⟨fn, _, assign, body, run_yield (P := P) (args := args) hl hsz, roundIn_of_wpIn hF ?_⟩
  refine wpIn_mono h ?_
  rintro e a₁ W₁ he
  cases e with
  | normal =>
    obtain ⟨hl1, hb⟩ := he
    refine ⟨_, run_beginRound hl1 rfl, ?_⟩
    refine wpIn_mono hb ?_
    rintro e a₂ W₂ he
    cases e with
    | normal => exact ⟨_, _, run_endRound none he.1, he.2⟩
    | ret => exact ⟨_, _, run_endRound (some .ret) he.1, he.2⟩
    | exit id => exact ⟨_, _, run_endRound (some (.exit id)) he.1, he.2⟩
    | goto t => exact ⟨_, _, run_endRound (some (.goto t)) he.1, he.2⟩
    | panic ch => exact he.elim
    | outgrown => exact he.elim
  | exit id => exact he.elim
  | goto t => exact he.elim
  | ret => exact he.elim
  | panic ch => exact he.elim
  | outgrown => exact he.elim

/-- The same, in the plain walk; the record is kept behind a name. -/
theorem wp_rangeFunc_at {g : Operand} {ps : Array Tmp} {assign body : Code} {Q : Exit → Act → World → Prop} {a : Act} {w : World}
    {gf : Nat} {lb : Array Value} (hg : a.eval g = .func (.func gf) #[] lb) (eg : ∀ args w, (callFunc gf args).run P w = .ok (.enter gf args) w)
    (h : ∀ rcd : LoopState → Option Code → Obj, (∀ st pe, (rcd st pe).isCells = false) → (∀ st pe, ∃ r, rcd st pe = .loop r) →
      (∀ (m : Nat) (args : Array Value) (W : World) (R : Ending → World → Prop), args.size = ps.size → W.heap[w.heap.size + 1]? = some (rcd .ready none) →
        assign.wpIn (Fence.wide.inRound (w.heap.size + 1)) m P (Exit.then (fun a₁ W₁ => W₁.heap[w.heap.size + 1]? = some (rcd .ready none) ∧
          body.wpIn (Fence.wide.inRound (w.heap.size + 1)) m P (roundEnds (w.heap.size + 1) rcd R) a₁ (W₁.putObj (w.heap.size + 1) (rcd .busy none))) (fun _ _ _ => False))
          { tmps := (ps.zip args).foldl (fun t (p, v) => t.setIfInBounds p v) a.tmps, defers := [] } W → YieldAt Fence.wide m P (w.heap.size + 1) args W R) →
      CallsIn Fence.wide 3 P gf (#[.func (.yield (w.heap.size + 1)) #[] #[]] ++ lb)
        ((w.alloc (.deferred (some []))).alloc (rcd .ready none)) fun e W2 => (∃ v, e = .returned v) ∧
        ((W2.heap[w.heap.size + 1]? = some (rcd .ready none) ∧
            Q .normal { a with defers := { target := .collected w.heap.size, args := #[] } :: a.defers } (W2.putObj (w.heap.size + 1) (rcd .exhausted none))) ∨
         (∃ c, W2.heap[w.heap.size + 1]? = some (rcd .done (some c)) ∧
            c.wp P Q { a with defers := { target := .collected w.heap.size, args := #[] } :: a.defers } (W2.putObj (w.heap.size + 1) (rcd .exhausted (some c)))))) :
    (Code.rangeFunc g ps assign body).wp P Q a w := by
  refine (wpIn_wide (n := 4)).1 (wpIn_rangeFunc_at rfl (by omega) hg trivial eg fun fn _ => ?_)
  refine (h (fun st pe => .loop (recOf fn a.tmps ps assign body w.heap.size st pe)) (fun _ _ => rfl) (fun _ _ => ⟨_, rfl⟩) (fun m args W R hs hl hb => yieldAt_of trivial hl hs hb)).mono ?_
  rintro e W2 ⟨hv, (⟨hl, hq⟩ | ⟨c, hl, hq⟩)⟩
  · exact ⟨hv, .inl ⟨hl, hq⟩⟩
  · exact ⟨hv, .inr ⟨c, hl, (wpIn_wide (n := 4)).2 hq⟩⟩

/-- What is left in the channel of block c. -/
def chanLeft (w : World) (c : Nat) : Nat := match w.heap[c]? with | some (.chan _ buf _ _ _ _) => buf.size | _ => 0
theorem chanLeft_eq {w : World} {c cap s r : Nat} {buf : Array Value} {cl tm : Bool} (h : w.heap[c]? = some (.chan cap buf cl s r tm)) : chanLeft w c = buf.size := by simp [chanLeft, h]

/-- Of what was there in w only blocks of S have turned. -/
structure Only (S : Nat → Prop) (w w' : World) : Prop where
  os : w'.os = w.os
  tape : w'.tape = w.tape
  output : w'.output = w.output
  size : w.heap.size ≤ w'.heap.size
  block : ∀ k, k < w.heap.size → ¬ S k → w'.heap[k]? = w.heap[k]?

theorem Only.refl (S : Nat → Prop) (w : World) : Only S w w := ⟨rfl, rfl, rfl, Nat.le_refl _, fun _ _ _ => rfl⟩
theorem Only.trans {S : Nat → Prop} {a b c : World} (h : Only S a b) (k : Only S b c) : Only S a c :=
  ⟨k.os.trans h.os, k.tape.trans h.tape, k.output.trans h.output, Nat.le_trans h.size k.size, fun i hi hS => (k.block i (Nat.lt_of_lt_of_le hi h.size) hS).trans (h.block i hi hS)⟩
theorem Only.mono {S T : Nat → Prop} {a b : World} (h : Only S a b) (hST : ∀ k, k < a.heap.size → S k → T k) : Only T a b :=
  ⟨h.os, h.tape, h.output, h.size, fun i hi hT => h.block i hi (fun hS => hT (hST i hi hS))⟩
theorem Only.cell {S : Nat → Prop} {a b : World} (h : Only S a b) {p : Addr} (hp : p.block < a.heap.size) (hS : ¬ S p.block) : b.cell? p = a.cell? p := World.cell?_of_block (w := a) (h.block p.block hp hS)
theorem Only.frozen {S : Nat → Prop} {a b : World} (h : Only S a b) {p : Addr} (hp : p.block < a.heap.size) (hS : ¬ S p.block) : b.frozen? p = a.frozen? p := World.frozen?_of_block (w := a) (h.block p.block hp hS)
theorem Only.drew {S : Nat → Prop} {a w : World} (h : Only S a w) : Only S a w.drew := ⟨h.os, h.tape, h.output, h.size, h.block⟩
theorem Only.drewN {S : Nat → Prop} {a w : World} (h : Only S a w) (n : Nat) : Only S a (w.drewN n) := ⟨h.os, h.tape, h.output, h.size, h.block⟩
theorem Only.alloc {S : Nat → Prop} {a w : World} (h : Only S a w) (o : Obj) : Only S a (w.alloc o) :=
  h.trans ⟨rfl, rfl, rfl, by simp, fun k hk _ => Below.heap_alloc _ _ _ hk⟩
theorem Only.setCell {S : Nat → Prop} {a w : World} (h : Only S a w) {p : Addr} (hp : a.heap.size ≤ p.block ∨ S p.block) (u : Value) : Only S a (w.setCell p u) :=
  ⟨h.os, h.tape, h.output, by simpa [World.setCell] using h.size, fun k hk hS => by
    rw [Below.heap_setCell _ _ _ _ (by rintro rfl; rcases hp with hp | hp; omega; exact hS hp)]; exact h.block k hk hS⟩
theorem Only.setChan {S : Nat → Prop} {a w : World} (h : Only S a w) {c : Nat} (hc : a.heap.size ≤ c ∨ S c) (cap : Nat) (buf : Array Value) (cl : Bool) (s r : Nat) (tm : Bool) : Only S a (w.setChan c cap buf cl s r tm) :=
  ⟨h.os, h.tape, h.output, by simpa [World.setChan] using h.size, fun k hk hS => by
    simp only [World.setChan]; rw [Array.getElem?_setIfInBounds_ne (by rintro rfl; rcases hc with hp | hp; omega; exact hS hp)]; exact h.block k hk hS⟩
theorem Only.putObj {S : Nat → Prop} {a w : World} (h : Only S a w) {c : Nat} (hc : a.heap.size ≤ c ∨ S c) (o : Obj) : Only S a (w.putObj c o) :=
  ⟨h.os, h.tape, h.output, by simpa [World.putObj] using h.size, fun k hk hS => by
    simp only [World.putObj]; rw [Array.getElem?_setIfInBounds_ne (by rintro rfl; rcases hc with hp | hp; omega; exact hS hp)]; exact h.block k hk hS⟩
theorem Only.grown {S : Nat → Prop} {a w w' : World} {row : Option Nat} (h : Only S a w) (hg : w.grownBy w' row) (hr : ∀ k, row = some k → a.heap.size ≤ k ∨ S k) : Only S a w' :=
  ⟨hg.os.trans h.os, hg.tape.trans h.tape, hg.output.trans h.output, Nat.le_trans h.size hg.size, fun k hk hS => by
    rw [hg.block k (Nat.lt_of_lt_of_le hk h.size) (fun e => by rcases hr k e.symm with h | h; omega; exact hS h)]; exact h.block k hk hS⟩
theorem Only.below {S : Nat → Prop} {B : Nat} {a w : World} (h : Only S a w) (hB : B ≤ a.heap.size) (hS : ∀ k, S k → B ≤ k) : Below B a w :=
  ⟨h.os, h.tape, h.output, h.size, fun k hk => h.block k (by omega) (fun hs => by have := hS k hs; omega)⟩
theorem Only.of_below {a w : World} (h : Below a.heap.size a w) (S : Nat → Prop) : Only S a w := ⟨h.os, h.tape, h.output, h.size, fun k hk _ => h.block k hk⟩

theorem boxed_only {W W' : World} {S : Nat → Prop} {B : Nat} {t : TypeId} {v : Value} (h : Boxed W B t v) (k : Only S W W') (hne : ¬ S B) : Boxed W' B t v := (k.block B h.lt hne).trans h
theorem ownsRow_only {W W' : World} {S : Nat → Prop} {base : Nat} {e : TypeId} {size : Nat} {v : Value} {n : Nat} {xs : List Value} (h : W.ownsRow base e size v n xs) (k : Only S W W') (hne : ∀ g, v.ownBlock = some g → ¬ S g) : W'.ownsRow base e size v n xs := by
  obtain ⟨h1, h2⟩ := h
  refine ⟨h1, ?_⟩
  rcases h2 with h2 | ⟨g, cap, cur, hv, hg, hh, r⟩
  · exact .inl h2
  · exact .inr ⟨g, cap, cur, hv, hg, (k.block g (Array.getElem?_eq_some_iff.1 hh).1 (hne g (by rw [hv]; rfl))).trans hh, r⟩
theorem ownsRow_shape {W : World} {base : Nat} {e : TypeId} {size : Nat} {v : Value} {n : Nat} {xs : List Value} (h : W.ownsRow base e size v n xs) : ∃ a cp, v = .slice a n cp := by
  rcases h.2 with ⟨rfl, rfl⟩ | ⟨g, cap, cur, rfl, _⟩
  · exact ⟨_, _, rfl⟩
  · exact ⟨_, _, rfl⟩
/-- The cells of an owned row that is not empty. -/
theorem ownsRow_cells {W : World} {base : Nat} {e : TypeId} {size : Nat} {a : Option Addr} {cp n : Nat} {xs : List Value} (h : W.ownsRow base e size (.slice a n cp) n xs) (hn : 0 < n) :
    ∃ g, a = some ⟨g, 0, none⟩ ∧ base ≤ g ∧ n ≤ cp ∧ cp ≤ maxLen ∧ ∀ j u, xs[j]? = some u → W.cell? ⟨g, j, none⟩ = some u := by
  rcases h.2 with ⟨_, h0⟩ | ⟨g, cap, cur, he, hg, hh, hc1, hc2, hs, ht⟩
  · omega
  · cases he
    refine ⟨g, rfl, hg, hc1, hc2, fun j u hu => ?_⟩
    have hj : cur.toList[j]? = some u := by
      rw [← ht, List.getElem?_take] at hu
      split at hu
      · exact hu
      · cases hu
    simp only [World.cell?, hh]
    simpa using hj

/-- An owned row lies in no block that is no row of its element type. -/
theorem ownsRow_notChan {W : World} {base : Nat} {e : TypeId} {size : Nat} {v : Value} {n : Nat} {xs : List Value} (h : W.ownsRow base e size v n xs) {c : Nat} (hc : ∀ cur, W.heap[c]? ≠ some (.cells cur e (0, 0))) : ∀ g, v.ownBlock = some g → g ≠ c := by
  rintro g hg rfl
  rcases h.2 with ⟨rfl, _⟩ | ⟨g', cap, cur, rfl, _, hh, _⟩
  · cases hg
  · obtain rfl : g' = g := by simpa [Value.ownBlock] using hg
    exact hc _ hh
theorem addr_block (a : Addr) (n : Nat) : (a.add n).block = a.block := by unfold Addr.add; split <;> rfl
theorem lt_of_cell {W : World} {a : Addr} {v : Value} (h : W.cell? a = some v) : a.block < W.heap.size := by
  unfold World.cell? at h
  split at h
  · rename_i hh; exact (Array.getElem?_eq_some_iff.1 hh).1
  · cases h

/-- A queue in memory: the struct's block b (of type T), the channel's block c, a bound, what is in it. -/
structure IsQ (T : TypeId) (w : World) (b c cap : Nat) (l : List Value) : Prop where
  box : Boxed w b T (.chan (some c))
  chan : ∃ s r, w.heap[c]? = some (.chan cap l.toArray false s r false)

theorem IsQ.ptr {T : TypeId} {w : World} {b c cap : Nat} {l : List Value} (h : IsQ T w b c cap l) : w.cell? ⟨b, 0, none⟩ = some (.chan (some c)) := h.box.cell
theorem IsQ.blt {T : TypeId} {w : World} {b c cap : Nat} {l : List Value} (h : IsQ T w b c cap l) : b < w.heap.size := h.box.lt
theorem IsQ.clt {T : TypeId} {w : World} {b c cap : Nat} {l : List Value} (h : IsQ T w b c cap l) : c < w.heap.size := by
  obtain ⟨s, r, hh⟩ := h.chan; exact (Array.getElem?_eq_some_iff.1 hh).1

theorem IsQ.kept {T : TypeId} {w w' : World} {b c cap : Nat} {l : List Value} (h : IsQ T w b c cap l) {S : Nat → Prop} (k : Only S w w') (hb : ¬ S b) (hc : ¬ S c) : IsQ T w' b c cap l :=
  ⟨boxed_only h.box k hb, by obtain ⟨s, r, hh⟩ := h.chan; exact ⟨s, r, (k.block c h.clt hc).trans hh⟩⟩

theorem IsQ.ne {T : TypeId} {w : World} {b c cap : Nat} {l : List Value} (h : IsQ T w b c cap l) : b ≠ c := by
  rintro rfl
  obtain ⟨s, r, hh⟩ := h.chan
  have := h.ptr
  simp [World.cell?, hh] at this

theorem IsQ.set {T : TypeId} {w : World} {b c cap : Nat} {l : List Value} (h : IsQ T w b c cap l) (l' : List Value) (s r : Nat) : IsQ T (w.setChan c cap l'.toArray false s r false) b c cap l' := by
  have ho : Only (· = c) w (w.setChan c cap l'.toArray false s r false) := (Only.refl _ w).setChan (c := c) (.inr (by rfl)) _ _ _ _ _ _
  exact ⟨boxed_only h.box ho (by simpa using h.ne), ⟨s, r, heap_setChan _ _ _ _ _ _ _ _ h.clt⟩⟩

/-- '==' on pointers to something that has a size. -/
theorem run_eql_ptr_same {tp te : TypeId} {j : TypeInfo} (hp : P.underlying tp = some (.pointer te)) (hte : P.info? te = some j) (hsz : j.size ≠ 0) (a : Addr) (w : World) :
    (binOp .eql tp (.pointer (some a)) (.pointer (some a))).run P w = .ok (.bool true) w := by
  have h : ∀ d, (Op.equalIn (d + 1) tp (.pointer (some a)) (.pointer (some a))).run P w = .ok true w := fun d => by
    simp [Op.equalIn, run_underlying hp, sizeOf, typeInfo, hte, hsz, run_sameAddr_same]
  simp only [binOp]
  simp [Op.equal, Op.maxDepth, h 9999]
theorem run_eql_ptr_other {tp te : TypeId} {j : TypeInfo} (hp : P.underlying tp = some (.pointer te)) (hte : P.info? te = some j) (hsz : j.size ≠ 0) {a b : Addr} {ca cb : Array Value} {ta tb : TypeId} (w : World)
    (hne : a ≠ b) (ha : w.heap[a.block]? = some (.cells ca ta (0, 0))) (hb : w.heap[b.block]? = some (.cells cb tb (0, 0))) :
    (binOp .eql tp (.pointer (some a)) (.pointer (some b))).run P w = .ok (.bool false) w := by
  have h : ∀ d, (Op.equalIn (d + 1) tp (.pointer (some a)) (.pointer (some b))).run P w = .ok false w := fun d => by
    simp [Op.equalIn, run_underlying hp, sizeOf, typeInfo, hte, hsz, run_sameAddr_other w hne ha hb]
  simp only [binOp]
  simp [Op.equal, Op.maxDepth, h 9999]
theorem run_eql_ptr_nil {tp te : TypeId} (hp : P.underlying tp = some (.pointer te)) (b : Option Addr) (w : World) :
    (binOp .eql tp (.pointer none) (.pointer b)).run P w = .ok (.bool b.isNone) w := by
  have h : ∀ d, (Op.equalIn (d + 1) tp (.pointer none) (.pointer b)).run P w = .ok b.isNone w := fun d => by
    simp [Op.equalIn, run_underlying hp]
  simp only [binOp]
  simp [Op.equal, Op.maxDepth, h 9999]

/-- 'x.(T)', comma ok, T the integer type that is there. -/
theorem run_assert_int {P : Program} {t tx : TypeId} {k k' : IntKind} (n : Int) (h : P.underlying t = some (.int k)) (w : World) :
    (Instr.typeAssert (.iface t (.int k' n)) tx t true).run P w = .ok (.tuple #[.int k' n, .bool true]) w := by
  simp [Instr.typeAssert, run_underlying h]

end Go.Proofs.Ytlieklclckenoaa
