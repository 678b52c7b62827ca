/-
The abstract layer: guards split into both cases, with the guard's slot known from then on; results of more than one part. No program in sight. No conditions.
-/
import Derived.Test.YthcedfamidlbdaaZz
namespace Go.Proofs.Ythcedfamidlbdaa
set_option linter.unusedSimpArgs false
set_option linter.unusedVariables false
set_option linter.unusedSectionVars false
open Go.RowKit

theorem nxFq {a j k : Nat} : a + (j + 1) + (k + 1) = a + (j + k + 2) := by omega
theorem set_same {sl : List V} {t : Nat} {v : V} (h : sl.getD t V.undef = v) : sl.set t v = sl := by
  rcases Nat.lt_or_ge t sl.length with ht | ht
  · rw [List.getD_eq_getElem?_getD, List.getElem?_eq_getElem ht] at h
    simp only [Option.getD_some] at h
    rw [← h]
    exact List.set_getElem_self ht
  · exact List.set_eq_of_length_le ht
section
variable {P : Program} {r : List LOper} {Qs : St → Prop} {s : St} {dst : Option Nat}
theorem lops_split {t : Nat} {want b : Bool} {op : LOp} (hb : s.sl.getD t V.undef = .bool b)
    (h1 : b = want → lops P (⟨dst, none, op⟩ :: r) Qs ⟨s.sl.set t (.bool want), s.h, s.nx⟩) (h2 : b = !want → lops P r Qs ⟨putV (s.sl.set t (.bool !want)) dst V.undef, s.h, s.nx⟩) :
    lops P (⟨dst, some (t, want), op⟩ :: r) Qs s := by
  refine lops_guard hb (fun e => ?_) (fun e => ?_)
  · have := h1 e
    rw [← e, set_same hb] at this
    exact this
  · have e' : b = !want := by cases b <;> cases want <;> simp at e ⊢
    have := h2 e'
    rw [← e', set_same hb] at this
    exact this
theorem lops_gt {t : Nat} {want : Bool} {op : LOp} (hb : s.sl.getD t V.undef = .bool want) (h1 : lops P (⟨dst, none, op⟩ :: r) Qs s) : lops P (⟨dst, some (t, want), op⟩ :: r) Qs s :=
  lops_guard hb (fun _ => h1) (fun e => absurd rfl e)
theorem lops_gf {t : Nat} {want : Bool} {op : LOp} (hb : s.sl.getD t V.undef = .bool (!want)) (h2 : lops P r Qs ⟨putV s.sl dst V.undef, s.h, s.nx⟩) : lops P (⟨dst, some (t, want), op⟩ :: r) Qs s :=
  lops_guard hb (fun e => by cases want <;> cases e) (fun _ => h2)
end
section
variable {P : Program} {h0 : Hp} {nx0 : Nat} {Q : List V → List (Option Blk) → List (Option Con) → Prop} {sl : List V} {adds : List (Option Blk)} {cons : List (Option Con)} {r : List (LOper × List Nat)} {dst : Option Nat} {deps : List Nat}
theorem dops_split {t : Nat} {want b : Bool} {op : LOp} (hb : sl.getD t V.undef = .bool b) (h1 : b = want → dops P h0 nx0 ((⟨dst, none, op⟩, deps) :: r) (sl.set t (.bool want)) adds cons Q)
    (h2 : b = !want → dops P h0 nx0 r (putV (sl.set t (.bool !want)) dst V.undef) (adds ++ [none]) (cons ++ [none]) Q) : dops P h0 nx0 ((⟨dst, some (t, want), op⟩, deps) :: r) sl adds cons Q := by
  refine dops_guard hb (fun e => ?_) (fun e => ?_)
  · have := h1 e
    rw [← e, set_same hb] at this
    exact this
  · have e' : b = !want := by cases b <;> cases want <;> simp at e ⊢
    have := h2 e'
    rw [← e', set_same hb] at this
    exact this
theorem dops_gt {t : Nat} {want : Bool} {op : LOp} (hb : sl.getD t V.undef = .bool want) (h1 : dops P h0 nx0 ((⟨dst, none, op⟩, deps) :: r) sl adds cons Q) : dops P h0 nx0 ((⟨dst, some (t, want), op⟩, deps) :: r) sl adds cons Q :=
  dops_guard hb (fun _ => h1) (fun e => absurd rfl e)
theorem dops_gf {t : Nat} {want : Bool} {op : LOp} (hb : sl.getD t V.undef = .bool (!want)) (h2 : dops P h0 nx0 r (putV sl dst V.undef) (adds ++ [none]) (cons ++ [none]) Q) : dops P h0 nx0 ((⟨dst, some (t, want), op⟩, deps) :: r) sl adds cons Q :=
  dops_guard hb (fun e => by cases want <;> cases e) (fun _ => h2)
end

theorem lops_gf1 {P : Program} {r : List LOper} {Qs : St → Prop} {s : St} {dst : Option Nat} {t : Nat} {op : LOp} (hb : s.sl.getD t V.undef = .bool false) (h2 : lops P r Qs ⟨putV s.sl dst V.undef, s.h, s.nx⟩) : lops P (⟨dst, some (t, true), op⟩ :: r) Qs s := lops_gf hb h2
theorem lops_gf2 {P : Program} {r : List LOper} {Qs : St → Prop} {s : St} {dst : Option Nat} {t : Nat} {op : LOp} (hb : s.sl.getD t V.undef = .bool true) (h2 : lops P r Qs ⟨putV s.sl dst V.undef, s.h, s.nx⟩) : lops P (⟨dst, some (t, false), op⟩ :: r) Qs s := lops_gf hb h2
section
variable {P : Program} {h0 : Hp} {nx0 : Nat} {Q : List V → List (Option Blk) → List (Option Con) → Prop} {sl : List V} {adds : List (Option Blk)} {cons : List (Option Con)} {r : List (LOper × List Nat)} {dst : Option Nat} {deps : List Nat} {t : Nat} {op : LOp}
theorem dops_gf1 (hb : sl.getD t V.undef = .bool false) (h2 : dops P h0 nx0 r (putV sl dst V.undef) (adds ++ [none]) (cons ++ [none]) Q) : dops P h0 nx0 ((⟨dst, some (t, true), op⟩, deps) :: r) sl adds cons Q := dops_gf hb h2
theorem dops_gf2 (hb : sl.getD t V.undef = .bool true) (h2 : dops P h0 nx0 r (putV sl dst V.undef) (adds ++ [none]) (cons ++ [none]) Q) : dops P h0 nx0 ((⟨dst, some (t, false), op⟩, deps) :: r) sl adds cons Q := dops_gf hb h2
end
/-- A store to a block that the head made. -/
theorem dops_stnew {P : Program} {h0 : Hp} {nx0 : Nat} {Q : List V → List (Option Blk) → List (Option Con) → Prop} {sl : List V} {adds : List (Option Blk)} {cons : List (Option Con)} {r : List (LOper × List Nat)} {dst : Option Nat} {deps : List Nat} {t : Sh} {x v : LArg} {j i o : Nat} {k : Sh} {es : List V}
    (hx : x.ev sl = .ptr (nx0 + j) k i o) (ha : adds.getD j none = some (.arr k es)) (hd : j ∈ deps) (hu : untaken (nx0 + j) cons) (hi : i < es.length) (hp : partOK k t o) (hf : (v.ev sl).fits t = true)
    (h : dops P h0 nx0 r (putV sl dst V.undef) (adds ++ [none]) (cons ++ [some ⟨nx0 + j, .arr k es, some (.arr k (es.set i (storePart t o (es.getD i V.undef) (v.ev sl))))⟩]) Q) : dops P h0 nx0 ((⟨dst, none, .store t x v⟩, deps) :: r) sl adds cons Q :=
  dops_store hx (by rw [conAt_add]; exact ⟨hu, hd, ha⟩) hi hp hf h
theorem cond_t {P : Program} {c : LArg} {a b : LCode} {Q : LExit → St → Prop} {s : St} (hc : c.ev s.sl = .bool true) (ht : lwp P a Q s) : lwp P (.cond c a b) Q s := lwp_cond true hc (fun _ => ht) (fun h => by cases h)
theorem cond_f {P : Program} {c : LArg} {a b : LCode} {Q : LExit → St → Prop} {s : St} (hc : c.ev s.sl = .bool false) (hf : lwp P b Q s) : lwp P (.cond c a b) Q s := lwp_cond false hc (fun h => by cases h) (fun _ => hf)

/-- Which way? -/
def CondG (b : Bool) (A B : Prop) : Prop := (b = true → A) ∧ (b = false → B)
theorem condG_t {A B : Prop} (h : A) : CondG true A B := ⟨(fun _ => h), (fun h => by cases h)⟩
theorem condG_f {A B : Prop} (h : B) : CondG false A B := ⟨(fun h => by cases h), (fun _ => h)⟩
theorem condG_s {b : Bool} {A B : Prop} (h1 : b = true → A) (h2 : b = false → B) : CondG b A B := ⟨h1, h2⟩
theorem cond_id {P : Program} {c : LArg} {a b : LCode} {Q : LExit → St → Prop} {s : St} (h : lwp P (.cond c a b) Q s) : lwp P (.cond c a b) Q s := h
theorem draw_id {P : Program} {n : Nat} {hd : List (LOper × List Nat)} {tl : List LOper} {Q : LExit → St → Prop} {s : St} (h : lwp P (.draw n hd tl) Q s) : lwp P (.draw n hd tl) Q s := h
theorem lops_id {P : Program} {o : LOper} {r : List LOper} {Q : St → Prop} {s : St} (h : lops P (o :: r) Q s) : lops P (o :: r) Q s := h
theorem dops_id {P : Program} {h0 : Hp} {nx0 : Nat} {Q : List V → List (Option Blk) → List (Option Con) → Prop} {sl : List V} {adds : List (Option Blk)} {cons : List (Option Con)} {l : List (LOper × List Nat)} (h : dops P h0 nx0 l sl adds cons Q) : dops P h0 nx0 l sl adds cons Q := h
theorem lwp_condB {P : Program} {c : LArg} {a b : LCode} {Q : LExit → St → Prop} {s : St} {t : Bool} (hc : c.ev s.sl = .bool t) (h : CondG t (lwp P a Q s) (lwp P b Q s)) : lwp P (.cond c a b) Q s := lwp_cond t hc h.1 h.2
theorem lops_guardT {P : Program} {r : List LOper} {Qs : St → Prop} {s : St} {dst : Option Nat} {t : Nat} {b : Bool} {op : LOp} (hb : s.sl.getD t V.undef = .bool b)
    (h : CondG b (lops P (⟨dst, none, op⟩ :: r) Qs ⟨s.sl.set t (.bool true), s.h, s.nx⟩) (lops P r Qs ⟨putV (s.sl.set t (.bool false)) dst V.undef, s.h, s.nx⟩)) : lops P (⟨dst, some (t, true), op⟩ :: r) Qs s :=
  lops_split hb h.1 h.2
theorem lops_guardF {P : Program} {r : List LOper} {Qs : St → Prop} {s : St} {dst : Option Nat} {t : Nat} {b : Bool} {op : LOp} (hb : s.sl.getD t V.undef = .bool b)
    (h : CondG b (lops P r Qs ⟨putV (s.sl.set t (.bool true)) dst V.undef, s.h, s.nx⟩) (lops P (⟨dst, none, op⟩ :: r) Qs ⟨s.sl.set t (.bool false), s.h, s.nx⟩)) : lops P (⟨dst, some (t, false), op⟩ :: r) Qs s :=
  lops_split hb h.2 h.1
section
variable {P : Program} {h0 : Hp} {nx0 : Nat} {Q : List V → List (Option Blk) → List (Option Con) → Prop} {sl : List V} {adds : List (Option Blk)} {cons : List (Option Con)} {r : List (LOper × List Nat)} {dst : Option Nat} {deps : List Nat} {t : Nat} {op : LOp}
theorem dops_guardT {b : Bool} (hb : sl.getD t V.undef = .bool b) (h : CondG b (dops P h0 nx0 ((⟨dst, none, op⟩, deps) :: r) (sl.set t (.bool true)) adds cons Q) (dops P h0 nx0 r (putV (sl.set t (.bool false)) dst V.undef) (adds ++ [none]) (cons ++ [none]) Q)) :
    dops P h0 nx0 ((⟨dst, some (t, true), op⟩, deps) :: r) sl adds cons Q := dops_split hb h.1 h.2
theorem dops_guardF {b : Bool} (hb : sl.getD t V.undef = .bool b) (h : CondG b (dops P h0 nx0 r (putV (sl.set t (.bool true)) dst V.undef) (adds ++ [none]) (cons ++ [none]) Q) (dops P h0 nx0 ((⟨dst, none, op⟩, deps) :: r) (sl.set t (.bool false)) adds cons Q)) :
    dops P h0 nx0 ((⟨dst, some (t, false), op⟩, deps) :: r) sl adds cons Q := dops_split hb h.2 h.1
end
/-- Two results, the first out of a cell. -/
theorem ret_cell_slot {t u : Nat} {k : Sh} {R : V → Hp → Nat → Prop} {s : St} (ho : (LVal.load k (.slot t)).ok s.sl s.h) (h' : Hp) (hle : h'.le s.h) (hR : R (.tup [(LVal.load k (.slot t)).out s.sl s.h, s.sl.getD u V.undef]) h' s.nx) : postR [.cell t k, .slot u] R .ret s := by
  have := LVal.sem_of_ok (R := fun v => ∃ h', h'.le s.h ∧ R (tupOf [v, s.sl.getD u V.undef]) h' s.nx) ho ⟨h', hle, by generalize (LVal.load k (.slot t)).out s.sl s.h = x at hR; exact hR⟩
  exact this
theorem ret_slot_cell {t u : Nat} {k : Sh} {R : V → Hp → Nat → Prop} {s : St} (ho : (LVal.load k (.slot u)).ok s.sl s.h) (h' : Hp) (hle : h'.le s.h) (hR : R (.tup [s.sl.getD t V.undef, (LVal.load k (.slot u)).out s.sl s.h]) h' s.nx) : postR [.slot t, .cell u k] R .ret s := by
  have := LVal.sem_of_ok (R := fun v => ∃ h', h'.le s.h ∧ R (tupOf [s.sl.getD t V.undef, v]) h' s.nx) ho ⟨h', hle, by generalize (LVal.load k (.slot u)).out s.sl s.h = x at hR; exact hR⟩
  exact this
theorem ret_none {R : V → Hp → Nat → Prop} {s : St} (h' : Hp) (hle : h'.le s.h) (hR : R (.tup []) h' s.nx) : postR [] R .ret s := ⟨h', hle, hR⟩

/-! ### Lists that grow by append -/
/-- A list that a loop builds: nil, or its end is held by a token. -/
def Acc (h : Hp) (n0 : Nat) (o : Own) (es : List V) : Prop := (es = [] ∧ o = .nil) ∨ (es ≠ [] ∧ ∃ id, n0 ≤ id ∧ o = .tok id ∧ h id = some .tip)
/-- The same, where the list was made empty ahead of the loop. -/
def AccT (h : Hp) (n0 : Nat) (o : Own) : Prop := ∃ id, n0 ≤ id ∧ o = .tok id ∧ h id = some .tip
def Hp.delO (h : Hp) : Own → Hp
  | .tok n => h.del n
  | _ => h
theorem delO_nil (h : Hp) : h.delO .nil = h := rfl
theorem delO_tok (h : Hp) (n : Nat) : h.delO (.tok n) = h.del n := rfl
def Hp.same (n0 : Nat) (h h' : Hp) : Prop := ∀ m, m < n0 → h' m = h m
theorem Hp.same.rfl' {n0 : Nat} {h : Hp} : Hp.same n0 h h := fun _ _ => rfl
theorem same_set {n0 n : Nat} {h h' : Hp} (s : Hp.same n0 h h') (hn : n0 ≤ n) (b : Blk) : Hp.same n0 h (h'.set n b) := fun m hm => by
  unfold Hp.set
  rw [if_neg (by omega)]
  exact s m hm
theorem same_del {n0 n : Nat} {h h' : Hp} (s : Hp.same n0 h h') (hn : n0 ≤ n) : Hp.same n0 h (h'.del n) := fun m hm => by
  unfold Hp.del
  rw [if_neg (by omega)]
  exact s m hm
theorem same_delO {n0 : Nat} {h h' : Hp} {o : Own} (s : Hp.same n0 h h') (ho : ∀ id, o = .tok id → n0 ≤ id) : Hp.same n0 h (h'.delO o) := by
  cases o with
  | tok id => exact same_del s (ho id rfl)
  | _ => exact s
theorem Acc.ge {h : Hp} {n0 : Nat} {o : Own} {es : List V} (a : Acc h n0 o es) (id : Nat) (e : o = .tok id) : n0 ≤ id := by
  rcases a with ⟨_, rfl⟩ | ⟨_, id', hge, rfl, _⟩
  · cases e
  · injection e with e; omega
theorem AccT.ge {h : Hp} {n0 : Nat} {o : Own} (a : AccT h n0 o) (id : Nat) (e : o = .tok id) : n0 ≤ id := by
  obtain ⟨id', hge, rfl, _⟩ := a
  injection e with e; omega
theorem Hp.same.le {n0 : Nat} {h h' : Hp} (s : Hp.same n0 h h') {h0 : Hp} (hd : DomB h0 n0) (hle : h0.le h) : h0.le h' := fun m b e => by rw [s m (hd m b e)]; exact hle m b e
theorem DomB.delO {h : Hp} {nx : Nat} (hd : DomB h nx) (o : Own) : DomB (h.delO o) nx := by
  cases o <;> first | exact hd | exact hd.del
theorem delO_eq {h : Hp} {o : Own} {m : Nat} (hn : ∀ id, o = .tok id → m ≠ id) : h.delO o m = h m := by
  cases o with
  | tok id => show (h.del id) m = h m; unfold Hp.del; rw [if_neg (hn id rfl)]
  | _ => rfl
theorem Acc.set {h : Hp} {n0 n : Nat} {o : Own} {es : List V} (a : Acc h n0 o es) (hn : h n ≠ some .tip) (b : Blk) : Acc (h.set n b) n0 o es := by
  rcases a with ⟨e, eo⟩ | ⟨e, id, hge, eo, ht⟩
  · exact .inl ⟨e, eo⟩
  · refine .inr ⟨e, id, hge, eo, ?_⟩
    unfold Hp.set
    rw [if_neg (fun e2 => hn (by rw [← e2]; exact ht))]
    exact ht
theorem Acc.del {h : Hp} {n0 n : Nat} {o : Own} {es : List V} (a : Acc h n0 o es) (hn : o ≠ .tok n) : Acc (h.del n) n0 o es := by
  rcases a with ⟨e, eo⟩ | ⟨e, id, hge, eo, ht⟩
  · exact .inl ⟨e, eo⟩
  · refine .inr ⟨e, id, hge, eo, ?_⟩
    unfold Hp.del
    rw [if_neg (fun e => hn (by rw [eo, e]))]
    exact ht
theorem Acc.delO {h : Hp} {n0 : Nat} {o o' : Own} {es : List V} (a : Acc h n0 o es) (hn : ∀ id, o' = .tok id → o ≠ .tok id) : Acc (h.delO o') n0 o es := by
  cases o' with
  | tok id => exact a.del (hn id rfl)
  | _ => exact a
theorem AccT.set {h : Hp} {n0 n : Nat} {o : Own} (a : AccT h n0 o) (hn : h n ≠ some .tip) (b : Blk) : AccT (h.set n b) n0 o := by
  obtain ⟨id, hge, eo, ht⟩ := a
  refine ⟨id, hge, eo, ?_⟩
  unfold Hp.set
  rw [if_neg (fun e2 => hn (by rw [← e2]; exact ht))]
  exact ht
theorem Acc.up {h : Hp} {n0 n1 : Nat} {o : Own} {es : List V} (a : Acc h n1 o es) (hn : n0 ≤ n1) : Acc h n0 o es := by
  rcases a with ⟨e, eo⟩ | ⟨e, id, hge, eo, ht⟩
  · exact .inl ⟨e, eo⟩
  · exact .inr ⟨e, id, by omega, eo, ht⟩
theorem DomB.ntip {h : Hp} {nx n : Nat} (hd : DomB h nx) (hn : nx ≤ n) : h n ≠ some .tip := fun e => absurd (hd n _ e) (by omega)
theorem ntip_arr {h : Hp} {n : Nat} {k : Sh} {es : List V} : h.set n (.arr k es) n ≠ some .tip := by unfold Hp.set; rw [if_pos rfl]; exact (fun e => by cases e)
theorem ntip_set {h : Hp} {n m : Nat} {b : Blk} (hn : m ≠ n) (hm : h m ≠ some .tip) : h.set n b m ≠ some .tip := by unfold Hp.set; rw [if_neg hn]; exact hm
theorem ntip_del {h : Hp} {n m : Nat} (hm : h m ≠ some .tip) : h.del n m ≠ some .tip := by unfold Hp.del; split <;> first | exact hm | exact (fun e => by cases e)
theorem Acc.new {h : Hp} {n0 n : Nat} (es : List V) (hne : es ≠ []) (hn : n0 ≤ n) : Acc (h.set n .tip) n0 (.tok n) es := .inr ⟨hne, n, hn, rfl, by unfold Hp.set; rw [if_pos rfl]⟩
theorem AccT.new {h : Hp} {n0 n : Nat} (hn : n0 ≤ n) : AccT (h.set n .tip) n0 (.tok n) := ⟨n, hn, rfl, by unfold Hp.set; rw [if_pos rfl]⟩
theorem Acc.nil {h : Hp} {n0 : Nat} : Acc h n0 .nil [] := .inl ⟨rfl, rfl⟩
theorem Acc.loose {h : Hp} {n0 : Nat} {o : Own} {k : Sh} {es : List V} (a : Acc h n0 o es) : (V.sl k o es).loose = (if es.isEmpty = true then .sl k .nil [] else .sl k .free es) := by
  rcases a with ⟨rfl, rfl⟩ | ⟨hne, id, _, rfl, _⟩
  · rfl
  · cases es with
    | nil => exact absurd rfl hne
    | cons => rfl
theorem Acc.ok {h : Hp} {n0 : Nat} {o : Own} {es : List V} (a : Acc h n0 o es) : appOK h o := by
  rcases a with ⟨_, rfl⟩ | ⟨_, id, _, rfl, ht⟩
  · trivial
  · exact ht
theorem AccT.ok {h : Hp} {n0 : Nat} {o : Own} (a : AccT h n0 o) : appOK h o := by
  obtain ⟨id, _, rfl, ht⟩ := a
  exact ht
section
variable {P : Program} {r : List LOper} {Qs : St → Prop} {s : St} {dst : Option Nat}
theorem lops_app0 {k : Sh} {bs : Nat} {x y : LArg} {o : Own} {es ys : List V} (hx : x.ev s.sl = .sl k o es) (ha : appOK s.h o) (hy : selems s.h (y.ev s.sl) = some (k, ys)) (hne : ys ≠ []) (hb : (es.length + ys.length) * bs ≤ 140737488355328)
    (hq : lops P r Qs ⟨putV s.sl dst (.sl k (.tok s.nx) (es ++ ys)), (s.h.delO o).set s.nx .tip, s.nx + 1⟩) : lops P (⟨dst, none, .append k bs x y⟩ :: r) Qs s := by
  have hys : ys.isEmpty = false := by cases ys with | nil => exact absurd rfl hne | cons => rfl
  unfold lops
  simp only [LOp.run, LOp.sem, hy, hx, true_and]
  refine ⟨hb, .inl ⟨ha, ?_⟩⟩
  cases o with
  | free => exact ha.elim
  | nil => simpa only [appOwn, appHp, hys, Hp.delO, Bool.false_eq_true, if_false] using hq
  | full => simpa only [appOwn, appHp, hys, Hp.delO, Bool.false_eq_true, if_false] using hq
  | tok id => exact hq
theorem lops_app {k : Sh} {bs : Nat} {x y : LArg} {o : Own} {es ys : List V} {n0 : Nat} (hx : x.ev s.sl = .sl k o es) (ha : Acc s.h n0 o es) (hy : selems s.h (y.ev s.sl) = some (k, ys)) (hne : ys ≠ []) (hb : (es.length + ys.length) * bs ≤ 140737488355328)
    (hq : lops P r Qs ⟨putV s.sl dst (.sl k (.tok s.nx) (es ++ ys)), (s.h.delO o).set s.nx .tip, s.nx + 1⟩) : lops P (⟨dst, none, .append k bs x y⟩ :: r) Qs s :=
  lops_app0 hx ha.ok hy hne hb hq
theorem lops_appT {k : Sh} {bs : Nat} {x y : LArg} {o : Own} {es ys : List V} {n0 : Nat} (hx : x.ev s.sl = .sl k o es) (ha : AccT s.h n0 o) (hy : selems s.h (y.ev s.sl) = some (k, ys)) (hne : ys ≠ []) (hb : (es.length + ys.length) * bs ≤ 140737488355328)
    (hq : lops P r Qs ⟨putV s.sl dst (.sl k (.tok s.nx) (es ++ ys)), (s.h.delO o).set s.nx .tip, s.nx + 1⟩) : lops P (⟨dst, none, .append k bs x y⟩ :: r) Qs s :=
  lops_app0 hx ha.ok hy hne hb hq
end
def LOp.isApp : LOp → Bool
  | .append .. => true
  | _ => false
def LOper.plain2 (o : LOper) : Bool := o.plain && !o.op.isApp
def goOps2 : List LOper → List LOper
  | [] => []
  | o :: r => match o.plain2 with
    | true => o :: goOps2 r
    | false => []
def goRest2 : List LOper → List LOper
  | [] => []
  | o :: r => match o.plain2 with
    | true => goRest2 r
    | false => o :: r
theorem lops_g2 {P : Program} {Q : St → Prop} : ∀ (l : List LOper) (s : St), okAll (goOps2 l) s → lops P (goRest2 l) Q (nextAll (goOps2 l) s) → lops P l Q s
  | [], s, _, h => h
  | o :: r, s, ho, h => by
    cases hc : o.plain2 with
    | false => simp only [goOps2, goRest2, hc] at ho h; exact h
    | true =>
      simp only [goOps2, goRest2, hc] at ho h
      have hcall : o.op.isCall = false := by
        simp only [LOper.plain2, Bool.and_eq_true] at hc
        have hc := hc.1
        unfold LOper.plain at hc
        split at hc
        · simpa using hc
        · cases hc
      exact lops_next hcall ho.1 (lops_g2 r _ ho.2 h)
/-- Operations up to the next call, guard or append. -/
theorem lops_go2 {P : Program} {Q : St → Prop} {o : LOper} {r : List LOper} {s : St} (_ : o.plain2 = true) (ho : okAll (goOps2 (o :: r)) s) (h : lops P (goRest2 (o :: r)) Q (nextAll (goOps2 (o :: r)) s)) : lops P (o :: r) Q s := lops_g2 _ s ho h
/-- The append alone, where all is known of the array. -/
theorem lops_go3 {P : Program} {Q : St → Prop} {o : LOper} {r : List LOper} {s : St} (hp : o.op.isApp = true) (hg : o.g = none) (ho : o.ok s) (h : lops P r Q (o.next s)) : lops P (o :: r) Q s := by
  refine lops_next ?_ ho h
  cases e : o.op <;> rw [e] at hp <;> first | rfl | cases hp
/-- One name is another one. -/
theorem ltNe {a b : Nat} (h : a < b) : (a = b) = False := natNe (by omega)
theorem ltNe1 {a b k : Nat} (h : a < b) : (a = b + k) = False := natNe (by omega)
theorem ltNe' {a b : Nat} (h : a < b) : (b = a) = False := natNe (by omega)
theorem ltNe1' {a b k : Nat} (h : a < b) : (b + k = a) = False := natNe (by omega)
end Go.Proofs.Ythcedfamidlbdaa
