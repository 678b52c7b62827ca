/-
The abstract layer: the machine's side of a range over a function, and blocks that are no cells. No program in sight. No conditions.
-/
import Derived.Test.YthcedfamidlbdaaZq
import Derived.RangeFuncNested
import Derived.RangeFuncCalls
import Derived.RangeFuncLeaves
namespace Go.Proofs.Ythcedfamidlbdaa
set_option linter.unusedSimpArgs false
set_option linter.unusedVariables false
set_option linter.unusedSectionVars false
open Go.RowKit

/-! ### The machine's side -/
section
variable {F : Fence} {n : Nat} {P : Program}
def recAt (fn : FuncId) (tmps : Array Value) (ps : Array Tmp) (assign body : Code) (D : Nat) (st : LoopState) (pe : Option Code) : Loop :=
  { state := st, pending := pe, fn, tmps, params := ps, assign, body, defers := D }

theorem wpIn_range_at {g : Operand} {ps : Array Tmp} {assign body : Code} {Q : Exit → Act → World → Prop} {a : Act} {w : World}
    (hro : F.round = none) (h1 : F.depth.isSome = true → 1 ≤ n) {gf : Nat} {lb : Array Value} (hg : a.eval g = .func (.func gf) #[] lb) (hFg : F.fn gf) (eg : ∀ args w, (callFunc gf args).run P w = .ok (.enter gf args) w)
    (h : ∀ fn, F.fn fn → CallsIn F (n - 1) P gf (#[.func (.yield (w.heap.size + 1)) #[] #[]] ++ lb)
        ((w.alloc (.deferred (some []))).alloc (.loop (recAt fn a.tmps ps assign body w.heap.size .ready none))) fun e W2 => (∃ v, e = .returned v) ∧
        ((W2.heap[w.heap.size + 1]? = some (.loop (recAt fn a.tmps ps assign body w.heap.size .ready none)) ∧
            Q .normal { a with defers := { target := .collected w.heap.size, args := #[] } :: a.defers } (W2.putObj (w.heap.size + 1) (.loop (recAt fn a.tmps ps assign body w.heap.size .exhausted none)))) ∨
         (∃ c, W2.heap[w.heap.size + 1]? = some (.loop (recAt fn a.tmps ps assign body w.heap.size .done (some c))) ∧
            c.wpIn F n P Q { a with defers := { target := .collected w.heap.size, args := #[] } :: a.defers } (W2.putObj (w.heap.size + 1) (.loop (recAt fn a.tmps ps assign body w.heap.size .exhausted (some c))))))) :
    (Code.rangeFunc g ps assign body).wpIn F n P Q a w := by
  refine wpIn_rangeFunc ?_
  intro fn hfn
  rw [hro]
  let W1 := (w.alloc (.deferred (some []))).alloc (.loop (recAt fn a.tmps ps assign body w.heap.size .ready none))
  refine ⟨w.heap.size + 1, [{ target := .collected w.heap.size, args := #[] }], W1, { target := .fn (.func gf) lb, args := #[.func (.yield (w.heap.size + 1)) #[] #[]] }, W1, gf,
    #[.func (.yield (w.heap.size + 1)) #[] #[]] ++ lb, W1, run_enterLoop_outer _ _ _ _ _, ?_, ?_, ?_, h1, ?_⟩
  · simp only [resolve, hg]
    simp [go_sem]
  · intro f' hf'; simp [Target.leads] at hf'; subst hf'; exact hFg
  · simp [invoke, go_sem, eg]
  · refine (h fn hfn).mono ?_
    rintro e W2 ⟨⟨v, rfl⟩, (⟨hl, hq⟩ | ⟨c, hl, hq⟩)⟩
    · exact ⟨none, _, by have := run_endLoop (P := P) hl (by simp [recAt]); exact this, hq⟩
    · exact ⟨some c, _, by have := run_endLoop (P := P) hl (by simp [recAt]); exact this, hq⟩

/-- What a round's body must leave behind. -/
def roundEndsZ (l : Nat) (rcd : LoopState → Option Code → Obj) (R : Ending → World → Prop) : Exit → Act → World → Prop
  | .normal, _, W => W.heap[l]? = some (rcd .busy none) ∧ R (.returned (.bool true)) (W.putObj l (rcd .ready none))
  | .ret, _, W => W.heap[l]? = some (rcd .busy none) ∧ R (.returned (.bool false)) (W.putObj l (rcd .done (some .ret)))
  | .exit id, _, W => W.heap[l]? = some (rcd .busy none) ∧ R (.returned (.bool false)) (W.putObj l (rcd .done (some (.exit id))))
  | _, _, _ => False

theorem yieldAt_ofZ {l : Nat} {fn : FuncId} {tmps : Array Value} {ps : Array Tmp} {assign body : Code} {D : Nat} {args : Array Value} {W : World} {R : Ending → World → Prop} {m : Nat}
    (hF : F.fn fn) (hl : W.heap[l]? = some (.loop (recAt fn tmps ps assign body D .ready none))) (hsz : args.size = ps.size)
    (h : assign.wpIn (F.inRound l) m P (Exit.then (fun a₁ W₁ => W₁.heap[l]? = some (.loop (recAt fn tmps ps assign body D .ready none)) ∧
        body.wpIn (F.inRound l) m P (roundEndsZ l (fun st pe => .loop (recAt fn tmps ps assign body D st pe)) R) a₁ (W₁.putObj l (.loop (recAt fn tmps ps assign body D .busy none)))) (fun _ _ _ => False))
      { tmps := (ps.zip args).foldl (fun t (p, v) => t.setIfInBounds p v) tmps, defers := [] } W) :
    YieldAt F m P l args W R := by
  refine ⟨fn, _, assign, body, run_yield (P := P) (args := args) hl hsz, roundIn_of_wpIn hF ?_⟩
  refine wpIn_mono h ?_
  rintro e a₁ W₁ he
  cases e with
  | normal =>
    obtain ⟨hl1, hb⟩ := he
    refine ⟨_, run_beginRound hl1 rfl, ?_⟩
    refine wpIn_mono hb ?_
    rintro e a₂ W₂ he
    cases e with
    | normal => exact ⟨_, _, run_endRound none he.1, he.2⟩
    | ret => exact ⟨_, _, run_endRound (some .ret) he.1, he.2⟩
    | exit id => exact ⟨_, _, run_endRound (some (.exit id)) he.1, he.2⟩
    | goto t => exact he.elim
    | panic ch => exact he.elim
    | outgrown => exact he.elim
  | exit id => exact he.elim
  | goto t => exact he.elim
  | ret => exact he.elim
  | panic ch => exact he.elim
  | outgrown => exact he.elim
end

/-! ### Blocks that are no cells -/
theorem plainB_isCells {o : Obj} (h : plainB o = true) : o.isCells = false := by cases o <;> first | rfl | (simp [plainB] at h)
theorem putObj_cell {w : World} {b : Nat} {o o0 : Obj} (h0 : w.heap[b]? = some o0) (hp0 : o0.isCells = false) (hp : o.isCells = false) (b' o' : Nat) : (w.putObj b o).cell? ⟨b', o', none⟩ = w.cell? ⟨b', o', none⟩ := by
  by_cases e : b' = b
  · subst e
    have h1 : (w.putObj b' o).heap[b']? = some o := World.putObj_heap_same (Array.getElem?_eq_some_iff.1 h0).1
    simp only [World.cell?, h0, h1]
    cases o <;> cases o0 <;> first | rfl | (simp [Obj.isCells] at hp hp0)
  · exact cell_of_heap (World.putObj_heap_other e)
theorem putObj_shape {w : World} {b : Nat} {o o0 : Obj} (h0 : w.heap[b]? = some o0) (hp0 : o0.isCells = false) (hp : o.isCells = false) (b' : Nat) : (w.putObj b o).shape? b' = w.shape? b' := by
  by_cases e : b' = b
  · subst e
    have h1 : (w.putObj b' o).heap[b']? = some o := World.putObj_heap_same (Array.getElem?_eq_some_iff.1 h0).1
    simp only [World.shape?, h0, h1]
    cases o <;> cases o0 <;> first | rfl | (simp [Obj.isCells] at hp hp0)
  · exact shape_of_heap (World.putObj_heap_other e)

/-- A block without a name. -/
def Ker.more (K : Ker) (o : Obj) : Ker := { K with w := K.w.alloc o }
theorem Ker.le_more (K : Ker) (o : Obj) : K.le (K.more o) where
  live _ h := h
  mu _ _ := rfl
  tp _ _ := rfl
  fro := rfl
  imm _ _ := Nat.le_refl _
  cell b o' hlt _ := cell_of_heap (alloc_heap_ne _ _ _ hlt)
  shape b hlt := shape_of_heap (alloc_heap_ne _ _ _ hlt)
  below := Kept.alloc _ o
theorem Rel.more {K : Ker} {h : Hp} (r : Rel K h) (o : Obj) : Rel (K.more o) h := r.keep (K.le_more o) fun _ b e => ⟨alloc_heap_ne _ _ _ (r.blk _ b e).lt_size, rfl⟩

def Ker.obj (K : Ker) (b : Nat) (o : Obj) : Ker := { K with w := K.w.putObj b o }
theorem Ker.leV_obj (K : Ker) {b : Nat} {o o0 : Obj} (h0 : K.w.heap[b]? = some o0) (hp0 : o0.isCells = false) (hp : o.isCells = false) : K.leV (K.obj b o) where
  live _ h := h
  mu _ _ := rfl
  tp _ _ := rfl
  fro := rfl
  imm _ _ := Nat.le_refl _
  cell b' o' _ _ := putObj_cell h0 hp0 hp b' o'
  shape b' _ := putObj_shape h0 hp0 hp b'
  size := by show _ ≤ (K.w.putObj b o).heap.size; simp
theorem Ker.le_obj (K : Ker) {b : Nat} {o o0 : Obj} (h0 : K.w.heap[b]? = some o0) (hp0 : o0.isCells = false) (hp : o.isCells = false) (hf : ¬ K.fro b) (hm : ¬ markAt K.w b) : K.le (K.obj b o) :=
  have h := K.leV_obj h0 hp0 hp
  ⟨h.live, h.mu, h.tp, h.fro, h.imm, h.cell, h.shape, ⟨rfl, rfl, rfl, Nat.le_refl _, h.size, fun b' _ hb' => World.putObj_heap_other (fun e => by subst e; exact hb'.elim hf hm)⟩⟩

theorem BR.objAt {K : Ker} {n : Nat} {o : Obj} {U : Ker → Prop} (r : BR K n (.obj o U)) : K.w.heap[K.mu n]? = some o ∧ plainB o = true ∧ U K ∧ ∀ A B : Ker, A.leV B → U A → U B := by
  cases r with
  | obj _ _ hh ho hu hU => exact ⟨hh, ho, hu, hU⟩
theorem not_mark_of_plain {w : World} {b : Nat} {o : Obj} (h : w.heap[b]? = some o) (ho : plainB o = true) : ¬ markAt w b := fun hm => by
  unfold markAt at hm
  rw [h] at hm
  injection hm with hm
  subst hm
  cases ho

/-- A record is written anew. -/
theorem Rel.setObj {K : Ker} {h : Hp} (r : Rel K h) {n : Nat} {o o0 : Obj} {U : Ker → Prop} (hn : h n = some (.obj o0 U)) (ho : plainB o = true) : K.le (K.obj (K.mu n) o) ∧ Rel (K.obj (K.mu n) o) (h.set n (.obj o U)) := by
  obtain ⟨h1, h2, h3, h4⟩ := (r.blk n _ hn).objAt
  have hle := K.le_obj h1 (plainB_isCells h2) (plainB_isCells ho) (r.base n _ hn) (not_mark_of_plain h1 h2)
  refine ⟨hle, ?_, ?_, ?_, ?_, fun b hb => by show b < (K.w.putObj _ _).heap.size; simpa using r.size b hb⟩
  · intro m b' e
    unfold Hp.set at e
    split at e
    · rename_i hm; subst hm; exact r.lt m _ hn
    · exact r.lt m b' e
  · intro m b' e
    unfold Hp.set at e
    split at e
    · rename_i hm; subst hm; exact r.base m _ hn
    · exact r.base m b' e
  · intro m b' e
    unfold Hp.set at e
    split at e
    · rename_i hm; subst hm; injection e with e; subst e
      exact .obj o U (World.putObj_heap_same (Array.getElem?_eq_some_iff.1 h1).1) ho (h4 _ _ hle.toV h3) h4
    · rename_i hm
      refine (r.blk m b' e).mono hle (r.lt m b' e) ?_ rfl
      exact World.putObj_heap_other (fun em => hm (r.inj m n b' _ e hn em))
  · intro m m' b1' b2' e1 e2 em
    unfold Hp.set at e1 e2
    have g : ∀ x bb, (if x = n then some (Blk.obj o U) else h x) = some bb → ∃ b', h x = some b' := fun x bb hx => by
      split at hx
      · rename_i hm; subst hm; exact ⟨_, hn⟩
      · exact ⟨bb, hx⟩
    obtain ⟨c1, d1⟩ := g m b1' e1
    obtain ⟨c2, d2⟩ := g m' b2' e2
    exact r.inj m m' c1 c2 d1 d2 em
theorem del_le_set (h : Hp) (n : Nat) (b : Blk) : (h.del n).le (h.set n b) := fun m c e => by
  unfold Hp.del at e
  split at e
  · cases e
  · rename_i hm; unfold Hp.set; rw [if_neg hm]; exact e

/-- The parameters of a round. -/
def putAll (sl : List V) : List Nat → List V → List V
  | p :: ps, v :: vs => putAll (sl.set p v) ps vs
  | _, _ => sl
theorem Slots.monoV {K K' : Ker} (h : K.leV K') {sl : List V} {a : Act} (r : Slots K sl a) : Slots K' sl a := ⟨r.1, fun t => (r.2 t).monoV h⟩
theorem Slots.putAll {K : Ker} {ds : List Deferred} : ∀ (ps : List Nat) (args : List V) (cargs : List Value) (sl : List V) (tm : Array Value), Slots K sl ⟨tm, ds⟩ → args.length = cargs.length → (∀ i, i < args.length → VR K (args.getD i V.undef) (cargs.getD i Go.undef)) →
    Slots K (putAll sl ps args) ⟨(ps.zip cargs).foldl (fun t p => t.setIfInBounds p.1 p.2) tm, ds⟩
  | [], args, cargs, sl, tm, hs, _, _ => by cases args <;> simpa [Go.Proofs.Ythcedfamidlbdaa.putAll] using hs
  | p :: ps, [], cargs, sl, tm, hs, hl, _ => by
    have : cargs = [] := by cases cargs with
      | nil => rfl
      | cons => simp at hl
    subst this
    simpa [Go.Proofs.Ythcedfamidlbdaa.putAll] using hs
  | p :: ps, v :: vs, [], sl, tm, hs, hl, _ => by simp at hl
  | p :: ps, v :: vs, cv :: cvs, sl, tm, hs, hl, hv => by
    have h1 : Slots K (sl.set p v) ⟨tm.setIfInBounds p cv, ds⟩ := hs.put (dst := some p) (by simpa using hv 0 (by simp))
    have := Slots.putAll ps vs cvs (sl.set p v) (tm.setIfInBounds p cv) h1 (by simpa using hl) (fun i hi => by simpa using hv (i + 1) (by simpa using hi))
    simpa [Go.Proofs.Ythcedfamidlbdaa.putAll] using this

/-! ### The end of a function: its marks are shut -/
def shutAll : List Nat → World → World
  | [], w => w
  | D :: Ds, w => shutAll Ds (w.putObj D (.deferred none))
theorem leaves_marks {P : Program} {fn : Func} {tmps : Array Value} {R : Ending → World → Prop} : ∀ (Ds : List Nat) (w : World), Ds.Nodup → (∀ D ∈ Ds, markAt w D) → (∃ v, (results fn tmps).run P (shutAll Ds w) = .ok v (shutAll Ds w) ∧ R (.returned v) (shutAll Ds w)) →
    LeavesInM Fence.wide 4 P fn tmps R (Ds.map fun D => { target := .collected D, args := #[] }) .returning w
  | [], w, _, _, h => h
  | D :: Ds, w, hnd, hm, h => by
    have hnd' := List.nodup_cons.1 hnd
    refine ⟨by simp, .inl ⟨D, _, rfl, run_takeDeferred (hm D (by simp)), ?_⟩⟩
    refine leaves_marks Ds _ hnd'.2 (fun E hE => ?_) h
    have hne : E ≠ D := fun e => hnd'.1 (e ▸ hE)
    exact (World.putObj_heap_other hne).trans (hm E (by simp [hE]))
theorem shutAll_le {K : Ker} : ∀ (Ds : List Nat) (w : World) (K1 : Ker), K1.w = w → (∀ D ∈ Ds, markAt w D) → Ds.Nodup → K.le K1 → (∀ D ∈ Ds, K.w.heap.size ≤ D) → (∀ b, K.fro b → b < K.w.heap.size) → ∀ {h : Hp}, Rel K1 h →
    ∃ K2, K2.w = shutAll Ds w ∧ K1.leV K2 ∧ K.le K2 ∧ Rel K2 h ∧ K2.live = K1.live
  | [], w, K1, hw, _, _, hle, _, _, h, hr => ⟨K1, hw, .refl _, hle, hr, rfl⟩
  | D :: Ds, w, K1, hw, hm, hnd, hle, hB, hF, h, hr => by
    subst hw
    have hnd' := List.nodup_cons.1 hnd
    have hmD := hm D (by simp)
    have hBD := hB D (by simp)
    have hV := K1.leV_obj (o := .deferred none) hmD rfl rfl
    have hle' : K.le (K1.obj D (.deferred none)) := by
      refine ⟨fun n hn => hle.live n hn, hle.mu, hle.tp, hle.fro, hle.imm, fun b o hb hst => (hV.cell b o (Nat.lt_of_lt_of_le hb hle.below.size) (hle.still hb hst)).trans (hle.cell b o hb hst), fun b hb => (hV.shape b (Nat.lt_of_lt_of_le hb hle.below.size)).trans (hle.shape b hb), ?_⟩
      exact ⟨hle.below.os, hle.below.tape, hle.below.output, hle.below.drawn, Nat.le_trans hle.below.size hV.size, fun b hb hk => (World.putObj_heap_other (by omega)).trans (hle.below.block b hb hk)⟩
    have hr' : Rel (K1.obj D (.deferred none)) h := hr.keepV hV fun n b e => by
      refine ⟨World.putObj_heap_other ?_, rfl⟩
      intro e2
      have hb := hr.blk n b e
      unfold markAt at hmD
      rw [← e2] at hmD
      cases hb with
      | arr k es c T hh => rw [hh] at hmD; cases hmD
      | tip c T hh => rw [hh] at hmD; cases hmD
      | obj o U hh ho => rw [hh] at hmD; injection hmD with hmD; subst hmD; cases ho
    obtain ⟨K2, q1, q2, q3, q4, q5⟩ := shutAll_le (K := K) Ds _ (K1.obj D (.deferred none)) rfl (fun E hE => by
      have hne : E ≠ D := fun e => hnd'.1 (e ▸ hE)
      exact (World.putObj_heap_other hne).trans (hm E (by simp [hE]))) hnd'.2 hle' (fun E hE => hB E (by simp [hE])) hF hr'
    exact ⟨K2, q1, hV.trans q2, q3, q4, q5⟩

end Go.Proofs.Ythcedfamidlbdaa
