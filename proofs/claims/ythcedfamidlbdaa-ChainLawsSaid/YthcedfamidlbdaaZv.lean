/-
The abstract layer, twenty-second part: a walk through a region that draws its order. No conditions.
-/
import Derived.Test.YthcedfamidlbdaaZu
namespace Go.Proofs.Ythcedfamidlbdaa
set_option linter.unusedSimpArgs false
set_option linter.unusedVariables false
set_option linter.unusedSectionVars false
open Go.RowKit

def LOp.dout (sl : List V) (h0 : Hp) (a : Nat) : LOp → DRes
  | .val x => ⟨x.out sl h0, none, none⟩
  | .box k x => ⟨.ptr a k 0 0, some (.arr k [x.ev sl]), none⟩
  | .bslice k es => ⟨.sl k (.tok a) (es.map (LArg.ev sl)), some .tip, none⟩
  | .append k _ x y => match x.ev sl, y.ev sl with
    | .sl _ .nil xs, .sl _ _ ys => ⟨.sl k (appOwn a .nil ys) (xs ++ ys), if ys.isEmpty then none else some .tip, none⟩
    | .sl _ .full xs, .sl _ _ ys => ⟨.sl k (appOwn a .full ys) (xs ++ ys), if ys.isEmpty then none else some .tip, none⟩
    | .sl _ (.tok n) xs, .sl _ _ ys => ⟨.sl k (.tok a) (xs ++ ys), some .tip, some ⟨n, .tip, none⟩⟩
    | _, _ => ⟨.undef, none, none⟩
  | .mkz k _ x z => match x.ev sl with
    | .int _ m => ⟨.rs a k 0 m.toNat, some (.arr k (List.replicate m.toNat z)), none⟩
    | _ => ⟨.undef, none, none⟩
  | .appz k _ _ y z => match y.ev sl with
    | .int _ m => ⟨.rs a k 0 m.toNat, some (.arr k (List.replicate m.toNat z)), none⟩
    | _ => ⟨.undef, none, none⟩
  | _ => ⟨.undef, none, none⟩
def LOp.dok (sl : List V) (h0 : Hp) : LOp → Prop
  | .val x => x.ok sl h0
  | .box k x => (x.ev sl).fits k = true
  | .bslice k es => ∀ e ∈ es, (e.ev sl).fits k = true
  | .append k bytes x y => match x.ev sl, y.ev sl with
    | .sl kx own xs, .sl ky _ ys => kx = k ∧ ky = k ∧ (xs.length + ys.length) * bytes ≤ 140737488355328 ∧ (match own with | .free => False | _ => True)
    | _, _ => False
  | .mkz _ bytes x _ => match x.ev sl with
    | .int _ m => 0 ≤ m ∧ m.toNat * bytes ≤ 140737488355328
    | _ => False
  | .appz k bytes x y _ => match x.ev sl, y.ev sl with
    | .sl k' .nil [], .int _ m => k' = k ∧ 0 < m ∧ m.toNat * bytes ≤ 140737488355328
    | _, _ => False
  | _ => False
def conOK (h0 : Hp) (nx0 : Nat) (deps : List Nat) (adds : List (Option Blk)) (cons : List (Option Con)) : Option Con → Prop
  | none => True
  | some c => conAt h0 nx0 deps adds cons c.n c.old

structure DSt where
  sl : List V
  adds : List (Option Blk)
  cons : List (Option Con)

def LOper.dres (h0 : Hp) (nx0 : Nat) (o : LOper) (s : DSt) : DRes :=
  match o.g with
  | none => o.op.dout s.sl (delHp h0 s.cons) (nx0 + s.adds.length)
  | some (t, want) => match s.sl.getD t V.undef with
    | .bool b => if b = want then o.op.dout s.sl (delHp h0 s.cons) (nx0 + s.adds.length) else ⟨V.undef, none, none⟩
    | _ => ⟨V.undef, none, none⟩
def LOper.dok (h0 : Hp) (o : LOper) (s : DSt) : Prop :=
  match o.g with
  | none => o.op.dok s.sl (delHp h0 s.cons)
  | some (t, want) => match s.sl.getD t V.undef with
    | .bool b => b = want → o.op.dok s.sl (delHp h0 s.cons)
    | .tup _ => True
    | _ => False
def dput (dst : Option Nat) (d : DRes) (s : DSt) : DSt := ⟨putV s.sl dst d.v, s.adds ++ [d.add], s.cons ++ [d.con]⟩
def dnextAll (h0 : Hp) (nx0 : Nat) : List (LOper × List Nat) → DSt → DSt
  | [], s => s
  | (o, _) :: r, s => dnextAll h0 nx0 r (dput o.dst (o.dres h0 nx0 s) s)
def dokAll (h0 : Hp) (nx0 : Nat) : List (LOper × List Nat) → DSt → Prop
  | [], _ => True
  | (o, deps) :: r, s => o.dok h0 s ∧ conOK h0 nx0 deps s.adds s.cons (o.dres h0 nx0 s).con ∧ dokAll h0 nx0 r (dput o.dst (o.dres h0 nx0 s) s)

theorem LOp.dsem_of_ok {P : Program} {sl : List V} {h0 : Hp} {a : Nat} {R : DRes → Prop} {l : LOp} (ho : l.dok sl h0) (hR : R (l.dout sl h0 a)) : l.dsem P sl h0 a R := by
  cases l with
  | val x => exact LVal.sem_of_ok (R := fun v => R ⟨v, none, none⟩) ho hR
  | box k x => exact ⟨ho, hR⟩
  | bslice k es => exact ⟨ho, .inl hR⟩
  | append k b x y =>
    simp only [LOp.dok, LOp.dout, LOp.dsem] at ho hR ⊢
    generalize x.ev sl = v at ho hR ⊢
    generalize y.ev sl = u at ho hR ⊢
    cases v <;> try (exact ho.elim)
    cases u <;> try (exact ho.elim)
    rename_i kx own xs ky own' ys
    obtain ⟨a, b, c, d⟩ := ho
    refine ⟨a, b, c, ?_⟩
    cases own <;> simp only at d hR ⊢ <;> exact hR
  | store t x v => exact ho.elim
  | mkz k b x z =>
    simp only [LOp.dok, LOp.dout, LOp.dsem] at ho hR ⊢
    generalize x.ev sl = v at ho hR ⊢
    cases v <;> first | exact ho.elim | exact ⟨ho.1, ho.2, .inl hR⟩
  | appz k b x y z =>
    simp only [LOp.dok, LOp.dout, LOp.dsem] at ho hR ⊢
    generalize x.ev sl = v at ho hR ⊢
    generalize y.ev sl = u at ho hR ⊢
    split at ho
    · exact ⟨ho.1, ho.2.1, ho.2.2, hR⟩
    · exact ho.elim
  | clear k x z => exact ho.elim
  | callw f a b => exact ho.elim
  | call f args => exact ho.elim
  | callv x args => exact ho.elim

theorem dops_next {P : Program} {h0 : Hp} {nx0 : Nat} {o : LOper} {deps : List Nat} {r : List (LOper × List Nat)} {s : DSt} {Q : List V → List (Option Blk) → List (Option Con) → Prop} (ho : o.dok h0 s) (hc : conOK h0 nx0 deps s.adds s.cons (o.dres h0 nx0 s).con)
    (h : dops P h0 nx0 r (dput o.dst (o.dres h0 nx0 s) s).sl (dput o.dst (o.dres h0 nx0 s) s).adds (dput o.dst (o.dres h0 nx0 s) s).cons Q) : dops P h0 nx0 ((o, deps) :: r) s.sl s.adds s.cons Q := by
  have fin : ∀ {d : DRes}, d = o.dres h0 nx0 s → (∀ c, d.con = some c → conAt h0 nx0 deps s.adds s.cons c.n c.old) ∧ dops P h0 nx0 r (putV s.sl o.dst d.v) (s.adds ++ [d.add]) (s.cons ++ [d.con]) Q := by
    rintro d rfl
    refine ⟨fun n hn => ?_, h⟩
    rw [hn] at hc
    exact hc
  unfold dops doper
  unfold LOper.dok at ho
  unfold LOper.dres at fin
  cases hg : o.g with
  | none => rw [hg] at ho fin; exact LOp.dsem_of_ok ho (fin rfl)
  | some p =>
    obtain ⟨t, want⟩ := p
    rw [hg] at ho fin
    simp only at ho fin ⊢
    cases hv : s.sl.getD t V.undef <;> rw [hv] at ho fin <;> simp only at ho fin ⊢ <;> first
      | exact ho.elim
      | exact fin rfl
      | (split
         · rename_i e; exact LOp.dsem_of_ok (ho e) (fin (by rw [if_pos e]))
         · rename_i e; exact fin (by rw [if_neg e]))

theorem dops_all {P : Program} {h0 : Hp} {nx0 : Nat} {Q : List V → List (Option Blk) → List (Option Con) → Prop} {r : List (LOper × List Nat)} : ∀ (l : List (LOper × List Nat)) (s : DSt), dokAll h0 nx0 l s →
    dops P h0 nx0 r (dnextAll h0 nx0 l s).sl (dnextAll h0 nx0 l s).adds (dnextAll h0 nx0 l s).cons Q → dops P h0 nx0 (l ++ r) s.sl s.adds s.cons Q
  | [], _, _, h => h
  | (o, deps) :: l, s, ho, h => dops_next ho.1 ho.2.1 (dops_all l _ ho.2.2 h)

section
variable {P : Program} {h0 : Hp} {nx0 : Nat} {Q : List V → List (Option Blk) → List (Option Con) → Prop} {l : List (LOper × List Nat)} {r : List (LOper × List Nat)} {sl : List V} {adds : List (Option Blk)} {cons : List (Option Con)} {dst : Option Nat} {deps : List Nat}

theorem dops_take (n : Nat) (ho : dokAll h0 nx0 (l.take n) ⟨sl, adds, cons⟩)
    (h : dops P h0 nx0 (l.drop n) (dnextAll h0 nx0 (l.take n) ⟨sl, adds, cons⟩).sl (dnextAll h0 nx0 (l.take n) ⟨sl, adds, cons⟩).adds (dnextAll h0 nx0 (l.take n) ⟨sl, adds, cons⟩).cons Q) : dops P h0 nx0 l sl adds cons Q := by
  have := dops_all (l.take n) ⟨sl, adds, cons⟩ ho h
  rwa [List.take_append_drop] at this
theorem dops_nil (h : Q sl adds cons) : dops P h0 nx0 [] sl adds cons Q := h
theorem dops_pure {f : FuncId} {args : List LArg} {hp : Hp} {args' : List V} {v : V} (p : Pure P f args' hp v) (ha : args.map (LArg.ev sl) = args') (hh : Hp.has hp (delHp h0 cons)) (h : dops P h0 nx0 r (putV sl dst v) (adds ++ [none]) (cons ++ [none]) Q) : dops P h0 nx0 ((⟨dst, none, .call f args⟩, deps) :: r) sl adds cons Q := by
  unfold dops doper
  exact .inl ⟨v, by rw [ha]; exact p.mono hh, (fun n e => by cases e), h⟩
theorem dops_fresh {f : FuncId} {args : List LArg} {hp : Hp} {args' : List V} {k : Sh} {es : List V} (p : Fresh P f args' hp k es) (ha : args.map (LArg.ev sl) = args') (hh : Hp.has hp (delHp h0 cons)) (h : dops P h0 nx0 r (putV sl dst (.sl k (.tok (nx0 + adds.length)) es)) (adds ++ [some .tip]) (cons ++ [none]) Q) : dops P h0 nx0 ((⟨dst, none, .call f args⟩, deps) :: r) sl adds cons Q := by
  unfold dops doper
  exact .inr (.inl ⟨k, es, by rw [ha]; exact p.mono hh, (fun n e => by cases e), h⟩)
theorem dops_purew {f : FuncId} {args fl : List LArg} {hp : Hp} {args' : List V} {v : V} (p : Pure P f args' hp v) (ha : args.map (LArg.ev sl) = args') (hh : Hp.has hp (delHp h0 cons)) (h : dops P h0 nx0 r (putV sl dst v) (adds ++ [none]) (cons ++ [none]) Q) : dops P h0 nx0 ((⟨dst, none, .callw f args fl⟩, deps) :: r) sl adds cons Q := by
  unfold dops doper
  exact .inl ⟨v, by rw [ha]; exact p.mono hh, (fun n e => by cases e), h⟩
theorem dops_freshw {f : FuncId} {args fl : List LArg} {hp : Hp} {args' : List V} {k : Sh} {es : List V} (p : Fresh P f args' hp k es) (ha : args.map (LArg.ev sl) = args') (hh : Hp.has hp (delHp h0 cons)) (h : dops P h0 nx0 r (putV sl dst (.sl k (.tok (nx0 + adds.length)) es)) (adds ++ [some .tip]) (cons ++ [none]) Q) : dops P h0 nx0 ((⟨dst, none, .callw f args fl⟩, deps) :: r) sl adds cons Q := by
  unfold dops doper
  exact .inr (.inl ⟨k, es, by rw [ha]; exact p.mono hh, (fun n e => by cases e), h⟩)
theorem dops_turn {f : FuncId} {args : List LArg} {args' : List V} {v : Nat → V} {k : Sh} {es : List V} (p : Turn P f args' (delHp h0 cons) none v k es) (ha : args.map (LArg.ev sl) = args') (h : dops P h0 nx0 r (putV sl dst (v (nx0 + adds.length))) (adds ++ [some (.arr k es)]) (cons ++ [none]) Q) : dops P h0 nx0 ((⟨dst, none, .call f args⟩, deps) :: r) sl adds cons Q := by
  unfold dops doper
  exact .inr (.inr ⟨v, k, es, by rw [ha]; exact p, (fun n e => by cases e), h⟩)
theorem dops_turnw {f : FuncId} {args fl : List LArg} {args' : List V} {c : Option Con} {v : Nat → V} {k : Sh} {es : List V} (p : Turn P f args' (delHp h0 cons) c v k es) (ha : args.map (LArg.ev sl) = args') (hf : ∀ c', c = some c' → ∀ x ∈ fl, ∀ m k i o, x.ev sl = .ptr m k i o → m ≠ c'.n) (hc : conOK h0 nx0 deps adds cons c)
    (h : dops P h0 nx0 r (putV sl dst (v (nx0 + adds.length))) (adds ++ [some (.arr k es)]) (cons ++ [c]) Q) : dops P h0 nx0 ((⟨dst, none, .callw f args fl⟩, deps) :: r) sl adds cons Q := by
  unfold dops doper
  exact .inr (.inr ⟨c, v, k, es, by rw [ha]; exact p, hf, (fun c' e => by have e : c = some c' := e; subst e; exact hc), h⟩)
theorem dops_store {t : Sh} {x v : LArg} {n i o : Nat} {k : Sh} {es : List V} (hx : x.ev sl = .ptr n k i o) (hc : conAt h0 nx0 deps adds cons n (.arr k es)) (hi : i < es.length) (hp : partOK k t o) (hf : (v.ev sl).fits t = true)
    (h : dops P h0 nx0 r (putV sl dst V.undef) (adds ++ [none]) (cons ++ [some ⟨n, .arr k es, some (.arr k (es.set i (storePart t o (es.getD i V.undef) (v.ev sl))))⟩]) Q) : dops P h0 nx0 ((⟨dst, none, .store t x v⟩, deps) :: r) sl adds cons Q := by
  unfold dops doper
  simp only [LOp.dsem, hx]
  exact ⟨es, hi, hp, hf, (fun c e => by injection e with e; subst e; exact hc), h⟩
theorem dops_bslice_own {k : Sh} {xs : List LArg} (hf : ∀ e ∈ xs, (e.ev sl).fits k = true) (h : dops P h0 nx0 r (putV sl dst (.rs (nx0 + adds.length) k 0 xs.length)) (adds ++ [some (.arr k (xs.map (LArg.ev sl)))]) (cons ++ [none]) Q) : dops P h0 nx0 ((⟨dst, none, .bslice k xs⟩, deps) :: r) sl adds cons Q := by
  unfold dops doper
  exact ⟨hf, .inr ⟨(fun n e => by cases e), h⟩⟩
theorem dops_purev {x : LArg} {args : List LArg} {hp : Hp} {args' : List V} {v : V} {f' : Nat} {first cap : List V} (hx : x.ev sl = .fn (.func f') first cap) (p : Pure P f' args' hp v) (ha : first ++ args.map (LArg.ev sl) ++ cap = args') (hh : Hp.has hp (delHp h0 cons)) (h : dops P h0 nx0 r (putV sl dst v) (adds ++ [none]) (cons ++ [none]) Q) : dops P h0 nx0 ((⟨dst, none, .callv x args⟩, deps) :: r) sl adds cons Q := by
  unfold dops doper
  simp only [LOp.dsem, hx]
  exact .inl ⟨v, by rw [ha]; exact p.mono hh, (fun n e => by cases e), h⟩
theorem dops_guard {t : Nat} {want b : Bool} {op : LOp} (hb : sl.getD t V.undef = .bool b) (h1 : b = want → dops P h0 nx0 ((⟨dst, none, op⟩, deps) :: r) sl adds cons Q) (h2 : b ≠ want → dops P h0 nx0 r (putV sl dst V.undef) (adds ++ [none]) (cons ++ [none]) Q) : dops P h0 nx0 ((⟨dst, some (t, want), op⟩, deps) :: r) sl adds cons Q := by
  unfold dops doper
  simp only [hb]
  split
  · rename_i e
    have := h1 e
    unfold dops doper at this
    exact this
  · rename_i e; exact ⟨(fun n hn => by cases hn), h2 e⟩
theorem dops_guard_no {t : Nat} {want : Bool} {op : LOp} (hb : sl.getD t V.undef = .tup []) (h2 : dops P h0 nx0 r (putV sl dst V.undef) (adds ++ [none]) (cons ++ [none]) Q) : dops P h0 nx0 ((⟨dst, some (t, want), op⟩, deps) :: r) sl adds cons Q := by
  unfold dops doper
  simp only [hb]
  exact ⟨(fun n hn => by cases hn), h2⟩
theorem lops_take {l : List LOper} {Qs : St → Prop} {s : St} (n : Nat) (hl : (l.take n).all (fun o => !o.op.isCall) = true) (ho : okAll (l.take n) s) (h : lops P (l.drop n) Qs (nextAll (l.take n) s)) : lops P l Qs s := by
  have := lops_all (P := P) (Q := fun s => lops P (l.drop n) Qs s) (l.take n) hl s ho h
  have app : ∀ (a b : List LOper) (s : St), lops P a (fun s => lops P b Qs s) s → lops P (a ++ b) Qs s := by
    intro a
    induction a with
    | nil => exact fun b s h => h
    | cons o a ih =>
      intro b s h
      have h' := lops_mono (P := P) (Q := fun s => lops P b Qs s) (Q' := fun s => lops P b Qs s) (fun _ x => x) [] s
      unfold lops at h
      rw [List.cons_append]
      unfold lops
      have runM := @lops_mono P
      revert h
      split
      · rename_i hg
        intro h
        have := lops_mono (P := P) (Q := fun s' => lops P a (fun s => lops P b Qs s) s') (Q' := fun s' => lops P (a ++ b) Qs s') (fun s' => ih b s') [o] s (by unfold lops; rw [hg]; exact h)
        unfold lops at this
        rw [hg] at this
        exact this
      · rename_i t want hg
        intro h
        have := lops_mono (P := P) (Q := fun s' => lops P a (fun s => lops P b Qs s) s') (Q' := fun s' => lops P (a ++ b) Qs s') (fun s' => ih b s') [o] s (by unfold lops; rw [hg]; exact h)
        unfold lops at this
        rw [hg] at this
        exact this
  have h2 := app _ _ s this
  rwa [List.take_append_drop] at h2

def drawQ (P : Program) (tl : List LOper) (n : Nat) (Q : LExit → St → Prop) (s : St) (sl : List V) (adds : List (Option Blk)) (cons : List (Option Con)) : Prop := lops P tl (Q .normal) ⟨sl, wrHp (addHp s.h s.nx adds) cons, s.nx + n⟩
theorem lwp_draw {n : Nat} {hd : List (LOper × List Nat)} {tl : List LOper} {Q : LExit → St → Prop} {s : St} (hs : (hd.all fun p => match p.1.dst with | some d => decide (d < s.sl.length) | none => true) = true) (h : dops P s.h s.nx hd s.sl [] [] (drawQ P tl n Q s)) : lwp P (.draw n hd tl) Q s := ⟨hs, h⟩
theorem drawQ_nil {n : Nat} {Q : LExit → St → Prop} {s : St} (h : Q .normal ⟨sl, wrHp (addHp s.h s.nx adds) cons, s.nx + n⟩) : drawQ P [] n Q s sl adds cons := h
end

/-- What a function's end asks. -/
def postR (res : List LRes) (R : V → Hp → Nat → Prop) : LExit → St → Prop
  | .exit _, _ => False
  | _, s => resAll s res [] fun vs => ∃ h', h'.le s.h ∧ R (tupOf vs) h' s.nx
theorem acalls_walk {P : Program} {f : FuncId} {b : LCode} {nt : Nat} {res : List LRes} (hL : lowerFn P f = some ⟨b, nt, res⟩) {args : List V} {h : Hp} {nx : Nat} {R : V → Hp → Nat → Prop}
    (hw : (∀ m b, h m = some b → m < nx) → lwp P b (postR res R) ⟨args ++ List.replicate (nt - args.length) V.undef, h, nx⟩) : ACalls P f args h nx R :=
  acalls_of_lwp hL fun hd => lwp_mono (fun e s hq => by cases e <;> exact hq) (hw hd)
theorem ret_slot {t : Nat} {R : V → Hp → Nat → Prop} {s : St} (h' : Hp) (hle : h'.le s.h) (hR : R (s.sl.getD t V.undef) h' s.nx) : postR [.slot t] R .ret s := ⟨h', hle, hR⟩
theorem ret_slot2 {t u : Nat} {R : V → Hp → Nat → Prop} {s : St} (h' : Hp) (hle : h'.le s.h) (hR : R (.tup [s.sl.getD t V.undef, s.sl.getD u V.undef]) h' s.nx) : postR [.slot t, .slot u] R .ret s := ⟨h', hle, hR⟩

theorem ret_cell {t : Nat} {k : Sh} {R : V → Hp → Nat → Prop} {s : St} (ho : (LVal.load k (.slot t)).ok s.sl s.h) (h' : Hp) (hle : h'.le s.h) (hR : R ((LVal.load k (.slot t)).out s.sl s.h) h' s.nx) : postR [.cell t k] R .ret s := by
  have := LVal.sem_of_ok (R := fun v => ∃ h', h'.le s.h ∧ R (tupOf [v]) h' s.nx) ho ⟨h', hle, by generalize (LVal.load k (.slot t)).out s.sl s.h = x at hR; exact hR⟩
  exact this
theorem wk_mk {a b : List V} {h h' : Hp} {n n' : Nat} (hs : WkL a b) (hh : h'.le h) (hn : n ≤ n') : Wk ⟨a, h, n⟩ ⟨b, h', n'⟩ := ⟨hs, hh, hn⟩

/-- A frame of which only some slots are known. -/
def mkFrom : Nat → Nat → List (Nat × V) → List V
  | 0, _, _ => []
  | n + 1, i, [] => .top :: mkFrom n (i + 1) []
  | n + 1, i, (j, v) :: r => if j = i then v :: mkFrom n (i + 1) r else .top :: mkFrom n (i + 1) ((j, v) :: r)

/-! Small things. -/
theorem conAt_add {h0 : Hp} (nx0 j : Nat) (deps : List Nat) (adds : List (Option Blk)) (cons : List (Option Con)) (b : Blk) : conAt h0 nx0 deps adds cons (nx0 + j) b = (untaken (nx0 + j) cons ∧ j ∈ deps ∧ adds.getD j none = some b) := by
  unfold conAt
  apply propext
  constructor
  · rintro ⟨h1, ⟨h2, _⟩ | ⟨d, h2, h3, h4⟩⟩
    · omega
    · have : d = j := by omega
      subst this
      exact ⟨h1, h2, h4⟩
  · rintro ⟨h1, h2, h3⟩
    exact ⟨h1, .inr ⟨j, h2, rfl, h3⟩⟩
theorem conAt_zero {h0 : Hp} (nx0 : Nat) (deps : List Nat) (adds : List (Option Blk)) (cons : List (Option Con)) (b : Blk) : conAt h0 nx0 deps adds cons nx0 b = (untaken nx0 cons ∧ 0 ∈ deps ∧ adds.getD 0 none = some b) := by
  have := conAt_add (h0 := h0) nx0 0 deps adds cons b
  simpa using this
theorem conAt_old {h0 : Hp} {nx0 n : Nat} {deps : List Nat} {adds : List (Option Blk)} {cons : List (Option Con)} {b : Blk} (h : n < nx0) (h1 : h0 n = some b) (h2 : untaken n cons) : conAt h0 nx0 deps adds cons n b := ⟨h2, .inl ⟨h, h1⟩⟩
theorem natNe {a b : Nat} (h : a ≠ b) : (a = b) = False := eq_false h
theorem nxNe {a k : Nat} : (a = a + (k + 1)) = False := natNe (by omega)
theorem nxNe' {a k : Nat} : (a + (k + 1) = a) = False := natNe (by omega)
theorem pick_true (a b : V) : V.pick true a b = a := by unfold V.pick; split <;> simp
theorem pick_false (a b : V) : V.pick false a b = b := by unfold V.pick; split <;> simp
theorem pick_bool (t x y : Bool) : V.pick t (.bool x) (.bool y) = .bool (if t then x else y) := rfl
theorem le_of_fresh {h : Hp} {nx : Nat} (hd : ∀ m b, h m = some b → m < nx) {h' : Hp} (hle : h.le h') {n : Nat} (hn : nx ≤ n) (b : Blk) : h.le (h'.set n b) := fun m c e => by
  have := hd m c e
  unfold Hp.set
  rw [if_neg (by omega)]
  exact hle m c e
theorem le_of_freshd {h : Hp} {nx : Nat} (hd : ∀ m b, h m = some b → m < nx) {h' : Hp} (hle : h.le h') {n : Nat} (hn : nx ≤ n) : h.le (h'.del n) := fun m c e => by
  have := hd m c e
  unfold Hp.del
  rw [if_neg (by omega)]
  exact hle m c e
theorem has_of_fresh {h : Hp} {nx : Nat} (hd : ∀ m b, h m = some b → m < nx) {h' : Hp} (hle : Hp.has h h') {n : Nat} (hn : nx ≤ n) (b : Blk) : Hp.has h (h'.set n b) := fun m k es e => by
  have := hd m _ e
  unfold Hp.set
  rw [if_neg (by omega)]
  exact hle m k es e
/-- A number of int's that stays in. -/
theorem wrap_in {n : Int} (h1 : -9223372036854775808 ≤ n) (h2 : n ≤ 9223372036854775807) : IntKind.i64.wrap n = n := IntWalk.i64_in n ⟨h1, h2⟩
end Go.Proofs.Ythcedfamidlbdaa
