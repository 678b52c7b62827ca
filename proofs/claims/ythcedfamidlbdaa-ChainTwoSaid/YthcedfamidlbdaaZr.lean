/-
The abstract layer, eighteenth part: code and functions. Conditions: closed tests of the code; the program draws its orders (mixedOrders).
-/
import Derived.Test.YthcedfamidlbdaaZqa
namespace Go.Proofs.Ythcedfamidlbdaa
set_option linter.unusedSimpArgs false
set_option linter.unusedVariables false
set_option linter.unusedSectionVars false
open Go.RowKit

/-- A state that knows less. -/
def WkL : List V → List V → Prop
  | [], [] => True
  | a :: as, b :: bs => (b = a ∨ b = .top) ∧ WkL as bs
  | _, _ => False
structure Wk (s s' : St) : Prop where
  sl : WkL s.sl s'.sl
  h : s'.h.le s.h
  nx : s.nx ≤ s'.nx

theorem WkL.refl : ∀ l, WkL l l
  | [] => trivial
  | _ :: l => ⟨.inl rfl, WkL.refl l⟩
theorem Wk.refl (s : St) : Wk s s := ⟨WkL.refl _, Hp.le_refl _, Nat.le_refl _⟩
theorem WkL.len : ∀ {a b : List V}, WkL a b → a.length = b.length
  | [], [], _ => rfl
  | _ :: as, _ :: bs, h => by simp [WkL.len h.2]
theorem WkL.get : ∀ {a b : List V}, WkL a b → ∀ i, b.getD i V.undef = a.getD i V.undef ∨ b.getD i V.undef = .top
  | [], [], _, i => .inl rfl
  | a :: as, b :: bs, h, 0 => by simpa using h.1
  | a :: as, b :: bs, h, i + 1 => by simpa using WkL.get h.2 i

theorem RelS.wk {K0 K : Ker} {nx0 : Nat} {s s' : St} {a : Act} (r : RelS K0 K nx0 s a) (w : Wk s s') : RelS K0 K nx0 s' a := by
  refine ⟨r.le, ⟨w.sl.len.symm.trans r.slots.1, fun t => ?_⟩, r.rel.weaken w.h, fun n hn => ⟨Nat.lt_of_lt_of_le (r.live n hn).1 w.nx, (r.live n hn).2⟩, Nat.le_trans r.nx w.nx, r.defers⟩
  rcases w.sl.get t with h | h
  · rw [h]; exact r.slots.2 t
  · rw [h]; exact .top _

/-- What follows, as named statements: so that no tactic looks into what comes later. -/
def seqQ (b : (LExit → St → Prop) → St → Prop) (Q : LExit → St → Prop) : LExit → St → Prop
  | .normal, s => ∃ s', Wk s s' ∧ b Q s'
  | e, s => Q e s
def blockQ (id : Nat) (Q : LExit → St → Prop) : LExit → St → Prop
  | .exit id', s => if id' = id then Q .normal s else Q (.exit id') s
  | e, s => Q e s
def loopQ (J : St → Prop) (Q : LExit → St → Prop) : LExit → St → Prop
  | .normal, s => ∃ s', Wk s s' ∧ J s'
  | e, s => Q e s

/-- What follows the code that lays a round's parameters. -/
def asgQ (r : Nat) (o : Obj) (U : Ker → Prop) (J : St → Prop) : LExit → St → Prop
  | .normal, s => s.h r = some (.obj o U) ∧ J s
  | _, _ => False
/-- The end of a round. -/
def roundE (r : Nat) (rcd : LoopState → Option Code → Obj) (U : Ker → Prop) (R : V → Hp → Nat → Prop) : LExit → St → Prop
  | .normal, s => s.h r = some (.obj (rcd .busy none) U) ∧ R (.bool true) (s.h.set r (.obj (rcd .ready none) U)) s.nx
  | .ret, s => s.h r = some (.obj (rcd .busy none) U) ∧ R (.bool false) (s.h.set r (.obj (rcd .done (some .ret)) U)) s.nx
  | .exit id, s => s.h r = some (.obj (rcd .busy none) U) ∧ R (.bool false) (s.h.set r (.obj (rcd .done (some (.exit id))) U)) s.nx
/-- Behind the function that was ranged over. -/
def afterQ (r : Nat) (rcd : LoopState → Option Code → Obj) (U : Ker → Prop) (Q : LExit → St → Prop) (sl : List V) (h' : Hp) (nx' : Nat) : Prop :=
  (h' r = some (.obj (rcd .ready none) U) ∧ Q .normal ⟨sl, h'.del r, nx'⟩) ∨ (h' r = some (.obj (rcd .done (some .ret)) U) ∧ Q .ret ⟨sl, h'.del r, nx'⟩) ∨
    ∃ id, h' r = some (.obj (rcd .done (some (.exit id))) U) ∧ Q (.exit id) ⟨sl, h'.del r, nx'⟩

def lwp (P : Program) : LCode → (LExit → St → Prop) → St → Prop
  | .skip, Q, s => Q .normal s
  | .ops l, Q, s => lops P l (Q .normal) s
  | .draw n hd tl, Q, s => (hd.all fun p => match p.1.dst with | some d => decide (d < s.sl.length) | none => true) = true ∧
    dops P s.h s.nx hd s.sl [] [] fun sl adds cons => lops P tl (Q .normal) ⟨sl, wrHp (addHp s.h s.nx adds) cons, s.nx + n⟩
  | .seq a b, Q, s => lwp P a (seqQ (lwp P b) Q) s
  | .cond c a b, Q, s => match c.ev s.sl with
    | .bool t => if t = true then lwp P a Q s else lwp P b Q s
    | _ => False
  | .block id c, Q, s => lwp P c (blockQ id Q) s
  | .loop c, Q, s => ∃ (I : St → Prop) (m : St → Nat), (∃ s', Wk s s' ∧ I s') ∧ ∀ s, I s → lwp P c (loopQ (fun s' => I s' ∧ m s' < m s) Q) s
  | .exit id, Q, s => Q (.exit id) s
  | .ret, Q, s => Q .ret s
  | .range g ps as b, Q, s => match g.ev s.sl with
    | .fn (.func gf) [] caps => ∀ (rcd : LoopState → Option Code → Obj) (U : Ker → Prop), (∀ st pe, plainB (rcd st pe) = true) →
        (∀ (args : List V) (h : Hp) (nx : Nat) (R : V → Hp → Nat → Prop), args.length = ps.length → h s.nx = some (.obj (rcd .ready none) U) →
          lwp P as (asgQ s.nx (rcd .ready none) U fun s1 => lwp P b (roundE s.nx rcd U R) ⟨s1.sl, s1.h.set s.nx (.obj (rcd .busy none) U), s1.nx⟩) ⟨putAll s.sl ps args, h, nx⟩ → AYields P s.nx args h nx R) →
        ACalls P gf (.yld s.nx :: caps) (s.h.set s.nx (.obj (rcd .ready none) U)) (s.nx + 1) fun _ h' nx' => afterQ s.nx rcd U Q s.sl h' nx'
    | _ => False

def LOp.isStore : LOp → Bool
  | .store _ _ _ => true
  | _ => false
def drawAt (P : Program) (ops : Array Oper) (w : Bool) (n : Nat) : Option LCode :=
  match lowerHead P ops n w 0 (ops.toList.take n), lowerOpers P ops (ops.toList.drop n) with
  | some l, some tl => if (headB ops n l && (w || l.all fun p => !p.1.op.isStore)) = true then some (.draw n l tl) else none
  | _, _ => none
def drawFrom (P : Program) (ops : Array Oper) (w : Bool) : Nat → Option LCode
  | 0 => drawAt P ops w 0
  | n + 1 => match drawAt P ops w (n + 1) with
    | some c => some c
    | none => drawFrom P ops w n
def drawAny (P : Program) (ops : Array Oper) : Option LCode :=
  match drawFrom P ops false ops.size with
  | some c => some c
  | none => drawFrom P ops true ops.size
/-- No jumps by label, no range over a function. -/
def noScope : Code → Bool
  | .seq a b => noScope a && noScope b
  | .cond _ a b => noScope a && noScope b
  | .block _ c => noScope c
  | .loop c => noScope c
  | .scope _ => false
  | .rangeFunc _ _ _ _ => false
  | _ => true

def lowerCode (P : Program) : Code → Option LCode
  | .skip => some .skip
  | .label _ => some .skip
  | .region _ ops false => (lowerOpers P ops ops.toList).map .ops
  | .region _ ops true => if P.follows .mixedOrders then drawAny P ops else none
  | .seq a b => match lowerCode P a, lowerCode P b with
    | some a, some b => some (.seq a b)
    | _, _ => none
  | .cond c a b => match lowerArg P 0 c, lowerCode P a, lowerCode P b with
    | some c, some a, some b => some (.cond c a b)
    | _, _, _ => none
  | .block id c => (lowerCode P c).map (.block id)
  | .loop c => (lowerCode P c).map .loop
  | .scope c => lowerCode P c
  | .exit id => some (.exit id)
  | .ret => some .ret
  | .rangeFunc g ps as b => if noScope as = true ∧ noScope b = true then match lowerArg P 0 g, lowerCode P as, lowerCode P b with
    | some g, some as, some b => some (.range g ps.toList as b)
    | _, _, _ => none
    else none
  | _ => none

theorem drawAt_sound {P : Program} {ops : Array Oper} {w : Bool} {n : Nat} {L : LCode} (h : drawAt P ops w n = some L) : ∃ l tl, L = .draw n l tl ∧ headB ops n l = true ∧ lowerHead P ops n w 0 (ops.toList.take n) = some l ∧ lowerOpers P ops (ops.toList.drop n) = some tl := by
  unfold drawAt at h
  split at h
  · rename_i l tl h1 h2
    split at h
    · rename_i hb
      injection h with h
      simp only [Bool.and_eq_true] at hb
      exact ⟨l, tl, h.symm, hb.1, h1, h2⟩
    · cases h
  · cases h
theorem drawFrom_sound {P : Program} {ops : Array Oper} {w : Bool} {L : LCode} : ∀ n, drawFrom P ops w n = some L → ∃ n, drawAt P ops w n = some L
  | 0, h => ⟨0, h⟩
  | n + 1, h => by
    unfold drawFrom at h
    split at h
    · rename_i c hc; injection h with h; subst h; exact ⟨n + 1, hc⟩
    · exact drawFrom_sound n h
theorem drawAny_sound {P : Program} {ops : Array Oper} {L : LCode} (h : drawAny P ops = some L) : ∃ w n, drawAt P ops w n = some L := by
  unfold drawAny at h
  split at h
  · rename_i c hc; injection h with h; subst h; exact ⟨false, drawFrom_sound _ hc⟩
  · exact ⟨true, drawFrom_sound _ h⟩

/-- A range over a function. -/
theorem range_sound {P : Program} {g : Operand} {ps : Array Tmp} {as b : Code} {lg : LArg} {la lb : LCode} (h0 : lowerArg P 0 g = some lg)
    (ha : ∀ (l m : Nat) (Q : LExit → St → Prop) (s : St), lwp P la Q s → ∀ (K0 K : Ker) (nx0 : Nat) (act : Act), RelS K0 K nx0 s act → as.wpIn (FR (some l)) m P (Conc K0 nx0 Q) act K.w)
    (hb : ∀ (l m : Nat) (Q : LExit → St → Prop) (s : St), lwp P lb Q s → ∀ (K0 K : Ker) (nx0 : Nat) (act : Act), RelS K0 K nx0 s act → b.wpIn (FR (some l)) m P (Conc K0 nx0 Q) act K.w)
    {K0 K : Ker} {nx0 : Nat} {s : St} {a : Act} (hr : RelS K0 K nx0 s a) {Q : LExit → St → Prop} (h : lwp P (.range lg ps.toList la lb) Q s) {mm : Nat} : (Code.rangeFunc g ps as b).wpIn (FR none) mm P (Conc K0 nx0 Q) a K.w := by
  have vg := lowerArg_sound h0 hr.slots.2
  simp only [lwp] at h
  split at h
  case h_2 => exact h.elim
  rename_i gf caps hev
  rw [hev] at vg
  generalize hcg : a.eval g = cg at vg
  cases vg with
  | fn _ _ _ cf cc hl1 hl2 hv1 hv2 =>
  have hcf : cf = #[] := by
    apply Array.eq_empty_of_size_eq_zero
    simpa using hl1.symm
  subst hcf
  have hfresh : ¬ K.live s.nx := fun hn => Nat.lt_irrefl _ (hr.live _ hn).1
  have key : ∀ fn : FuncId, ∃ (rcd : LoopState → Option Code → Obj) (K1 : Ker), (rcd = fun st pe => .loop (recAt fn a.tmps ps as b K.w.heap.size st pe)) ∧ K1 = (K.more (.deferred (some []))).push s.nx (rcd .ready none) 0 ∧ K.le K1 ∧
      Rel K1 (s.h.set s.nx (.obj (rcd .ready none) fun K' => K1.leV K')) ∧ ACalls P gf (.yld s.nx :: caps) (s.h.set s.nx (.obj (rcd .ready none) fun K' => K1.leV K')) (s.nx + 1) fun _ h' nx' => afterQ s.nx rcd (fun K' => K1.leV K') Q s.sl h' nx' := by
    intro fn
    obtain ⟨rcd, hrcd⟩ : ∃ rcd : LoopState → Option Code → Obj, rcd = fun st pe => .loop (recAt fn a.tmps ps as b K.w.heap.size st pe) := ⟨_, rfl⟩
    have hpl : ∀ st pe, plainB (rcd st pe) = true := fun st pe => by rw [hrcd]; rfl
    obtain ⟨K1, hK1⟩ : ∃ K1, K1 = (K.more (.deferred (some []))).push s.nx (rcd .ready none) 0 := ⟨_, rfl⟩
    have hle1 : K.le K1 := by rw [hK1]; exact (K.le_more _).trans ((K.more _).le_push s.nx hfresh _ _)
    have hmu1 : K1.mu s.nx = K.w.heap.size + 1 := by rw [hK1]; simp [Ker.push, Ker.more]
    have hlive1 : ∀ n, K1.live n ↔ n = s.nx ∨ K.live n := fun n => by rw [hK1]; exact Iff.rfl
    have hrel1 : Rel K1 (s.h.set s.nx (.obj (rcd .ready none) fun K' => K1.leV K')) := by
      have := (hr.rel.more (.deferred (some []))).set_push (a := s.nx) hfresh (rcd .ready none) 0 (b := .obj (rcd .ready none) fun K' => K1.leV K') (by
        rw [← hK1]
        refine .obj _ _ ?_ (hpl _ _) (.refl K1) (fun A B hAB hA => hA.trans hAB)
        rw [hmu1, hK1]
        have := alloc_heap_eq (K.w.alloc (.deferred (some []))) (rcd .ready none)
        rw [alloc_size] at this
        exact this)
      rwa [← hK1] at this
    refine ⟨rcd, K1, hrcd, hK1, hle1, hrel1, h rcd _ hpl ?_⟩
    -- a call of yield
    intro args hh nx R hlen hready hw m Kr cargs hlv hn hrel hv
    obtain ⟨q1, q2, q3, q4⟩ := (hrel.blk s.nx _ hready).objAt
    have hl1' : K1.live s.nx := (hlive1 _).2 (.inl rfl)
    have hmur : Kr.mu s.nx = K.w.heap.size + 1 := (q3.mu _ hl1').trans hmu1
    have hsz : cargs.size = ps.size := by rw [← hv.1, hlen]; simp
    rw [hmur] at q1 ⊢
    have hslots : Slots Kr (putAll s.sl ps.toList args) { tmps := (ps.zip cargs).foldl (fun t (p, v) => t.setIfInBounds p v) a.tmps, defers := [] } := by
      have := Slots.putAll (K := Kr) (ds := []) ps.toList args cargs.toList s.sl a.tmps (Slots.monoV q3 (Slots.mono hle1 hr.slots)) (by rw [hv.1]; simp) (fun i hi => by
        have := hv.2 i hi
        simpa [Array.getD_eq_getD_getElem?, List.getD_eq_getElem?_getD] using this)
      have e : (ps.zip cargs).foldl (fun t (p, v) => t.setIfInBounds p v) a.tmps = (ps.toList.zip cargs.toList).foldl (fun t p => t.setIfInBounds p.1 p.2) a.tmps := by
        rw [← Array.foldl_toList, Array.toList_zip]
      rw [e]; exact this
    refine yieldAt_ofZ (fn := fn) (tmps := a.tmps) (ps := ps) (assign := as) (body := b) (D := K.w.heap.size) trivial (by rw [q1, hrcd]) hsz ?_
    have hrs : RelS Kr Kr nx ⟨putAll s.sl ps.toList args, hh, nx⟩ { tmps := (ps.zip cargs).foldl (fun t (p, v) => t.setIfInBounds p v) a.tmps, defers := [] } :=
      ⟨.refl _, hslots, hrel, fun n hn => ⟨hlv n hn, .inl hn⟩, Nat.le_refl _, Marks.nil _ _⟩
    refine wpIn_mono (show as.wpIn (Fence.wide.inRound (K.w.heap.size + 1)) m P (Conc Kr nx _) _ Kr.w from ha (K.w.heap.size + 1) m _ _ hw Kr Kr nx _ hrs) ?_
    rintro e a1 W1 ⟨K', s1, le, rfl, hr1, rfl, hq⟩
    cases le with
    | exit id => exact hq.elim
    | ret => exact hq.elim
    | normal =>
      obtain ⟨ho, hq⟩ := hq
      have hmu' : K'.mu s.nx = K.w.heap.size + 1 := (hr1.le.mu _ hn).trans hmur
      obtain ⟨p1, p2, p3, p4⟩ := (hr1.rel.blk s.nx _ ho).objAt
      rw [hmu'] at p1
      obtain ⟨hle2, hrel2⟩ := hr1.rel.setObj ho (hpl .busy none)
      rw [hmu'] at hle2 hrel2
      refine ⟨by rw [p1, hrcd], ?_⟩
      have hbusy : (.loop (recAt fn a.tmps ps as b K.w.heap.size .busy none) : Obj) = rcd .busy none := by rw [hrcd]
      rw [hbusy]
      refine wpIn_mono (show b.wpIn (Fence.wide.inRound (K.w.heap.size + 1)) m P (Conc Kr nx _) a1 (K'.obj (K.w.heap.size + 1) (rcd .busy none)).w from hb (K.w.heap.size + 1) m _ _ hq Kr _ nx a1 ⟨hr1.le.trans hle2, hr1.slots.mono hle2, hrel2, hr1.live, hr1.nx, hr1.defers.kept hle2.below⟩) ?_
      rintro e a2 W2 ⟨K3, s3, le3, rfl, hr3, rfl, hq3⟩
      have hmu3 : K3.mu s.nx = K.w.heap.size + 1 := (hr3.le.mu _ hn).trans hmur
      have fin : ∀ (o : Obj) (bb : Bool), plainB o = true → s3.h s.nx = some (.obj (rcd .busy none) fun K' => K1.leV K') → R (.bool bb) (s3.h.set s.nx (.obj o fun K' => K1.leV K')) s3.nx →
          K3.w.heap[K.w.heap.size + 1]? = some (rcd .busy none) ∧ ∃ K' v cv h' nx', K'.w = K3.w.putObj (K.w.heap.size + 1) o ∧ Ending.returned (.bool bb) = .returned cv ∧ Kr.le K' ∧ VR K' v cv ∧ Rel K' h' ∧ (∀ i, K'.live i → i < nx' ∧ (Kr.live i ∨ nx ≤ i)) ∧ nx ≤ nx' ∧ R v h' nx' := by
        intro o bb hpo hbz hR
        obtain ⟨u1, u2, u3, u4⟩ := (hr3.rel.blk s.nx _ hbz).objAt
        obtain ⟨hle4, hrel4⟩ := hr3.rel.setObj hbz hpo
        rw [hmu3] at u1 hle4 hrel4
        exact ⟨u1, K3.obj (K.w.heap.size + 1) o, .bool bb, .bool bb, _, s3.nx, rfl, rfl, hr3.le.trans hle4, .bool bb, hrel4, hr3.live, hr3.nx, hR⟩
      cases le3 with
      | normal =>
        have := fin (rcd .ready none) true (hpl _ _) hq3.1 hq3.2
        simp only [hrcd] at this ⊢
        exact this
      | ret =>
        have := fin (rcd .done (some .ret)) false (hpl _ _) hq3.1 hq3.2
        simp only [hrcd] at this ⊢
        exact this
      | exit id =>
        have := fin (rcd .done (some (.exit id))) false (hpl _ _) hq3.1 hq3.2
        simp only [hrcd] at this ⊢
        exact this
  obtain ⟨_, _, _, _, _, _, hen, _⟩ := key 0
  refine wpIn_range_at (F := FR none) rfl (by intro h; cases h) hcg trivial (fun args w => run_callFunc hen args w) ?_
  intro fn _
  obtain ⟨rcd, K1, hrcd, hK1, hle1, hrel1, hcall⟩ := key fn
  have hmu1 : K1.mu s.nx = K.w.heap.size + 1 := by rw [hK1]; simp [Ker.push, Ker.more]
  have hlive1 : ∀ n, K1.live n → n = s.nx ∨ K.live n := fun n => by rw [hK1]; exact fun h => h
  have hpl : ∀ st pe, plainB (rcd st pe) = true := fun st pe => by rw [hrcd]; rfl
  have hW1 : (K.w.alloc (.deferred (some []))).alloc (.loop (recAt fn a.tmps ps as b K.w.heap.size .ready none)) = K1.w := by rw [hK1, hrcd]; rfl
  rw [hW1]
  have hyl : VRs K1 (.yld s.nx :: caps) (#[.func (.yield (K.w.heap.size + 1)) #[] #[]] ++ cc) := by
    refine VRs.append (a := [.yld s.nx]) (b := caps) ⟨rfl, fun i hi => ?_⟩ ⟨hl2, fun i hi => (hv2 i hi).mono hle1⟩
    have : i = 0 := by simpa using hi
    subst this
    have := VR.yld (K := K1) s.nx (by rw [hK1]; exact .inl rfl)
    rw [hmu1] at this
    simpa using this
  refine callsIn_FR ((hcall.2 K1 _ (fun n hn => ?_) hrel1 hyl).mono ?_)
  · rcases hlive1 n hn with rfl | h
    · omega
    · have := (hr.live n h).1; omega
  rintro e W2 ⟨K', v, cv, h', nx', rfl, rfl, hle', hvr, hrel', hlv', hnx', hq⟩
  have hn1 : K1.live s.nx := by rw [hK1]; exact .inl rfl
  have hmu' : K'.mu s.nx = K.w.heap.size + 1 := (hle'.mu _ hn1).trans hmu1
  have hmark1 : markAt K1.w K.w.heap.size := by
    rw [← hW1]
    show ((K.w.alloc _).alloc _).heap[K.w.heap.size]? = _
    rw [alloc_heap_ne _ _ _ (by rw [alloc_size]; omega)]
    exact alloc_heap_eq _ _
  have fin : ∀ (o o' : Obj) (le : LExit), h' s.nx = some (.obj o fun K' => K1.leV K') → plainB o' = true → Q le ⟨s.sl, h'.del s.nx, nx'⟩ →
      K'.w.heap[K.w.heap.size + 1]? = some o ∧ Conc K0 nx0 Q le.up { a with defers := { target := .collected K.w.heap.size, args := #[] } :: a.defers } (K'.w.putObj (K.w.heap.size + 1) o') := by
    intro o o' le ho hpo hQ
    obtain ⟨u1, _⟩ := (hrel'.blk s.nx _ ho).objAt
    obtain ⟨hle4, hrel4⟩ := hrel'.setObj ho hpo
    rw [hmu'] at u1 hle4 hrel4
    refine ⟨u1, K'.obj (K.w.heap.size + 1) o', ⟨s.sl, h'.del s.nx, nx'⟩, le, rfl, ⟨hr.le.trans (hle1.trans (hle'.trans hle4)), hr.slots.mono (hle1.trans (hle'.trans hle4)), hrel4.weaken (del_le_set _ _ _), ?_, ?_, ?_⟩, rfl, hQ⟩
    · intro n hn
      obtain ⟨w1, w2⟩ := hlv' n hn
      refine ⟨w1, ?_⟩
      rcases w2 with w2 | w2
      · rcases hlive1 n w2 with rfl | w3
        · exact .inr hr.nx
        · exact (hr.live n w3).2
      · exact .inr (by have := hr.nx; omega)
    · have := hr.nx; show nx0 ≤ nx'; omega
    · obtain ⟨Ds, d1, d2, d3⟩ := hr.defers
      refine ⟨K.w.heap.size :: Ds, List.nodup_cons.2 ⟨fun hm => Nat.lt_irrefl _ (d3 _ hm).2.lt, d1⟩, by simp [d2], ?_⟩
      intro D hD
      rcases List.mem_cons.1 hD with rfl | hD
      · exact ⟨hr.le.below.size, hmark1.kept (hle'.trans hle4).below⟩
      · exact ⟨(d3 D hD).1, (d3 D hD).2.kept (hle1.trans (hle'.trans hle4)).below⟩
  refine ⟨⟨cv, rfl⟩, ?_⟩
  rcases hq with ⟨ho, hQ⟩ | ⟨ho, hQ⟩ | ⟨id, ho, hQ⟩
  · have := fin _ (rcd .exhausted none) .normal ho (hpl _ _) hQ
    simp only [hrcd] at this
    exact .inl this
  · have := fin _ (rcd .exhausted (some .ret)) .ret ho (hpl _ _) hQ
    simp only [hrcd] at this
    exact .inr ⟨.ret, this.1, wpIn_ret this.2⟩
  · have := fin _ (rcd .exhausted (some (.exit id))) (.exit id) ho (hpl _ _) hQ
    simp only [hrcd] at this
    exact .inr ⟨.exit id, this.1, wpIn_exit this.2⟩

theorem lwp_sound {P : Program} : ∀ (c : Code) (L : LCode), lowerCode P c = some L → ∀ (rd : Option Nat) (mm : Nat) (Q : LExit → St → Prop) (s : St), lwp P L Q s → ∀ (K0 K : Ker) (nx0 : Nat) (a : Act), RelS K0 K nx0 s a → (rd = none ∨ noScope c = true) → c.wpIn (FR rd) mm P (Conc K0 nx0 Q) a K.w := by
  intro c
  induction c with
  | skip =>
    intro L hl rd mm Q s h K0 K nx0 a hr hsc
    simp only [lowerCode, Option.some.injEq] at hl; subst hl
    exact wpIn_skip ⟨K, s, .normal, rfl, hr, rfl, h⟩
  | label l =>
    intro L hl rd mm Q s h K0 K nx0 a hr hsc
    simp only [lowerCode, Option.some.injEq] at hl; subst hl
    exact wpIn_label ⟨K, s, .normal, rfl, hr, rfl, h⟩
  | region id ops draw =>
    intro L hl rd mm Q s h K0 K nx0 a hr hsc
    cases draw with
    | false =>
      simp only [lowerCode] at hl
      obtain ⟨ls, hls, rfl⟩ := Option.map_eq_some_iff.1 hl
      refine wpIn_region ?_
      refine lops_sound (Qs := Q .normal) (fun K s a hr hq => ⟨K, s, .normal, rfl, hr, rfl, hq⟩) ops.toList ls (List.range ops.size) hls ?_ K s a hr h
      apply List.ext_getElem
      · simp
      · intro i h1 h2
        simp at h1 h2 ⊢
    | true =>
      simp only [lowerCode] at hl
      split at hl
      · rename_i hm
        obtain ⟨w, n, hn⟩ := drawAny_sound hl
        obtain ⟨l, tl, rfl, hB, h1, h2⟩ := drawAt_sound hn
        obtain ⟨hs, hd⟩ := h
        exact draw_sound (Qs := Q .normal) hm hB h1 h2 hr (fun K s a hr hq => ⟨K, s, .normal, rfl, hr, rfl, hq⟩) hs hd
      · cases hl
  | seq x y ihx ihy =>
    intro L hl rd mm Q s h K0 K nx0 a hr hsc
    simp only [lowerCode] at hl
    split at hl
    · rename_i lx ly h1 h2
      injection hl with hl; subst hl
      refine wpIn_seq (wpIn_mono (ihx lx h1 rd mm _ s h K0 K nx0 a hr (hsc.imp (fun h => h) fun h => by simp only [noScope, Bool.and_eq_true] at h; exact h.1)) ?_)
      rintro e a' w' ⟨K', s', le, rfl, hr', rfl, hq⟩
      cases le with
      | normal =>
        obtain ⟨s'', hw, hq⟩ := hq
        exact ihy ly h2 rd mm Q s'' hq K0 K' nx0 a' (hr'.wk hw) (hsc.imp (fun h => h) fun h => by simp only [noScope, Bool.and_eq_true] at h; exact h.2)
      | exit id => exact ⟨K', s', .exit id, rfl, hr', rfl, hq⟩
      | ret => exact ⟨K', s', .ret, rfl, hr', rfl, hq⟩
    · cases hl
  | cond c x y ihx ihy =>
    intro L hl rd mm Q s h K0 K nx0 a hr hsc
    simp only [lowerCode] at hl
    split at hl
    · rename_i lc lx ly h0 h1 h2
      injection hl with hl; subst hl
      have vc := lowerArg_sound h0 hr.slots.2
      simp only [lwp] at h
      split at h
      · rename_i t ht
        rw [ht] at vc
        generalize hcv : a.eval c = cv at vc
        cases vc
        refine wpIn_cond hcv ?_
        cases t with
        | true => exact ihx lx h1 rd mm Q s (by simpa using h) K0 K nx0 a hr (hsc.imp (fun h => h) fun h => by simp only [noScope, Bool.and_eq_true] at h; exact h.1)
        | false => exact ihy ly h2 rd mm Q s (by simpa using h) K0 K nx0 a hr (hsc.imp (fun h => h) fun h => by simp only [noScope, Bool.and_eq_true] at h; exact h.2)
      · exact h.elim
    · cases hl
  | block id c ih =>
    intro L hl rd mm Q s h K0 K nx0 a hr hsc
    simp only [lowerCode] at hl
    obtain ⟨lc, h1, rfl⟩ := Option.map_eq_some_iff.1 hl
    refine wpIn_block (wpIn_mono (ih lc h1 rd mm _ s h K0 K nx0 a hr (hsc.imp (fun h => h) fun h => h)) ?_)
    rintro e a' w' ⟨K', s', le, rfl, hr', rfl, hq⟩
    cases le with
    | normal => exact ⟨K', s', .normal, rfl, hr', rfl, hq⟩
    | exit id' =>
      show if id' = id then _ else _
      split
      · rename_i e; simp only [blockQ, e, if_true] at hq; exact ⟨K', s', .normal, rfl, hr', rfl, hq⟩
      · rename_i e; simp only [blockQ, e, if_false] at hq; exact ⟨K', s', .exit id', rfl, hr', rfl, hq⟩
    | ret => exact ⟨K', s', .ret, rfl, hr', rfl, hq⟩
  | loop c ih =>
    intro L hl rd mm Q s h K0 K nx0 a hr hsc
    simp only [lowerCode] at hl
    obtain ⟨lc, h1, rfl⟩ := Option.map_eq_some_iff.1 hl
    obtain ⟨I, m, ⟨s0, hw0, hI⟩, hround⟩ := h
    refine wpIn_loop_ghost (fun n a w => ∃ K s, K.w = w ∧ RelS K0 K nx0 s a ∧ I s ∧ m s = n) (m s0) ⟨K, s0, rfl, hr.wk hw0, hI, rfl⟩ ?_
    rintro n a' w' ⟨K', s', rfl, hr', hI', rfl⟩
    refine wpIn_mono (ih lc h1 rd mm _ s' (hround s' hI') K0 K' nx0 a' hr' (hsc.imp (fun h => h) fun h => h)) ?_
    rintro e a'' w'' ⟨K'', s'', le, rfl, hr'', rfl, hq⟩
    cases le with
    | normal =>
      obtain ⟨s3, hw, hq⟩ := hq
      exact ⟨m s3, hq.2, K'', s3, rfl, hr''.wk hw, hq.1, rfl⟩
    | exit id => exact ⟨K'', s'', .exit id, rfl, hr'', rfl, hq⟩
    | ret => exact ⟨K'', s'', .ret, rfl, hr'', rfl, hq⟩
  | scope c ih =>
    intro L hl rd mm Q s h K0 K nx0 a hr hsc
    simp only [lowerCode] at hl
    have hsc : rd = none := hsc.resolve_right (by simp [noScope])
    subst hsc
    refine wpIn_wide.2 (wp_scope_straight (wp_mono ((wpIn_wide (n := mm)).1 (ih L hl none mm Q s h K0 K nx0 a hr (.inl rfl))) ?_))
    rintro e a' w' ⟨K', s', le, rfl, hr', rfl, hq⟩
    cases le with
    | normal => exact ⟨K', s', .normal, rfl, hr', rfl, hq⟩
    | exit id => exact ⟨K', s', .exit id, rfl, hr', rfl, hq⟩
    | ret => exact ⟨K', s', .ret, rfl, hr', rfl, hq⟩
  | exit id =>
    intro L hl rd mm Q s h K0 K nx0 a hr hsc
    simp only [lowerCode, Option.some.injEq] at hl; subst hl
    exact wpIn_exit ⟨K, s, .exit id, rfl, hr, rfl, h⟩
  | ret =>
    intro L hl rd mm Q s h K0 K nx0 a hr hsc
    simp only [lowerCode, Option.some.injEq] at hl; subst hl
    exact wpIn_ret ⟨K, s, .ret, rfl, hr, rfl, h⟩
  | rangeFunc g ps as b iha ihb =>
    intro L hl rd mm Q s h K0 K nx0 a hr hsc
    have hsc : rd = none := hsc.resolve_right (by simp [noScope])
    subst hsc
    simp only [lowerCode] at hl
    split at hl
    · rename_i hns
      split at hl
      · rename_i lg la lb h0 h1 h2
        injection hl with hl; subst hl
        exact range_sound h0 (fun l m Q s h K0 K nx0 act hr => iha la h1 (some l) m Q s h K0 K nx0 act hr (.inr hns.1)) (fun l m Q s h K0 K nx0 act hr => ihb lb h2 (some l) m Q s h K0 K nx0 act hr (.inr hns.2)) hr h
      · cases hl
    · cases hl
  | goto l => intro L hl; simp [lowerCode] at hl
  | refuse w => intro L hl; simp [lowerCode] at hl

/-! ### Functions -/
inductive LRes where
  | slot (t : Nat)
  | cell (t : Nat) (k : Sh)
  deriving Inhabited
def LRes.sem (s : St) (R : V → Prop) : LRes → Prop
  | .slot t => R (s.sl.getD t V.undef)
  | .cell t k => (LVal.load k (.slot t)).sem s.sl s.h R
def resAll (s : St) : List LRes → List V → (List V → Prop) → Prop
  | [], acc, R => R acc
  | r :: rs, acc, R => r.sem s fun v => resAll s rs (acc ++ [v]) R
def tupOf (vs : List V) : V :=
  match vs with
  | [v] => v
  | vs => .tup vs

structure LFn where
  body : LCode
  nt : Nat
  res : List LRes
  deriving Inhabited

def lowerRes (P : Program) : List ResultVar → Option (List LRes)
  | [] => some []
  | .tmp t :: r => (lowerRes P r).map (.slot t :: ·)
  | .cell a t :: r => (shOf P t).bind fun k => (lowerRes P r).map (.cell a k :: ·)
def lowerFn (P : Program) (f : FuncId) : Option LFn :=
  match P.funcs[f]? with
  | some fn => if fn.name == "runtime.NumGoroutine" then none else match fn.body with
    | some c => (lowerCode P c).bind fun b => (lowerRes P fn.results.toList).map fun r => ⟨b, fn.ntmps, r⟩
    | none => none
  | none => none

def postF (L : LFn) (R : V → Hp → Nat → Prop) : LExit → St → Prop
  | .exit _, _ => False
  | _, s => resAll s L.res [] fun vs => ∃ h', h'.le s.h ∧ R (tupOf vs) h' s.nx

theorem results_sound {P : Program} {K : Ker} {s : St} {a : Act} (hs : Slots K s.sl a) (hr : Rel K s.h) {R : List V → Prop} : ∀ (rs : List ResultVar) (ls : List LRes), lowerRes P rs = some ls → ∀ (acc : List V) (cacc : List Value), acc.length = cacc.length → (∀ i, i < acc.length → VR K (acc.getD i V.undef) (cacc.getD i Go.undef)) →
    resAll s ls acc R → ∃ vs cvs, (rs.mapM (fun | .tmp t => pure (a.tmps.getD t Go.undef) | .cell b t => do loadVar t (← asAddr (a.tmps.getD b Go.undef)) : ResultVar → Sem Value)).run P K.w = .ok cvs K.w ∧ (cacc ++ cvs).length = vs.length ∧ (∀ i, i < vs.length → VR K (vs.getD i V.undef) ((cacc ++ cvs).getD i Go.undef)) ∧ R vs
  | [], ls, hl, acc, cacc, h1, h2, h => by
    simp [lowerRes] at hl
    subst hl
    exact ⟨acc, [], by simp, by simp [h1], by simpa using h2, h⟩
  | r :: rs, ls, hl, acc, cacc, h1, h2, h => by
    have one : ∃ lr lrs v cv, ls = lr :: lrs ∧ lowerRes P rs = some lrs ∧ resAll s lrs (acc ++ [v]) R ∧ VR K v cv ∧ (match r with | .tmp t => pure (a.tmps.getD t Go.undef) | .cell b t => do loadVar t (← asAddr (a.tmps.getD b Go.undef)) : Sem Value).run P K.w = .ok cv K.w := by
      cases r with
      | tmp t =>
        simp only [lowerRes] at hl
        obtain ⟨lrs, h3, rfl⟩ := Option.map_eq_some_iff.1 hl
        exact ⟨_, lrs, _, _, rfl, h3, h, hs.2 t, rfl⟩
      | cell b t =>
        simp only [lowerRes] at hl
        obtain ⟨k, hk, hl⟩ := Option.bind_eq_some_iff.1 hl
        obtain ⟨lrs, h3, rfl⟩ := Option.map_eq_some_iff.1 hl
        simp only [resAll, LRes.sem] at h
        obtain ⟨cv, v, q1, q2, q3⟩ := loads (P := P) hk hr (hs.2 b) (.slot b) rfl h
        refine ⟨_, lrs, v, cv, rfl, h3, q3, q2, ?_⟩
        simp only [Instr.loadAt, Sem.run_bind] at q1
        show (do loadVar t (← asAddr (a.tmps.getD b Go.undef)) : Sem Value).run P K.w = _
        generalize a.tmps.getD b Go.undef = x at q1 ⊢
        cases x <;> simp [Instr.sureAddr] at q1
        rename_i ad
        cases ad with
        | none => simp [Instr.sureAddr] at q1
        | some ad => simpa [asAddr, Instr.sureAddr] using q1
    obtain ⟨lr, lrs, v, cv, rfl, h3, h4, h5, h6⟩ := one
    obtain ⟨vs, cvs, g1, g2, g3, g4⟩ := results_sound hs hr rs lrs h3 (acc ++ [v]) (cacc ++ [cv]) (by simp [h1]) (fun i hi => by
      simp only [List.length_append, List.length_cons, List.length_nil] at hi
      by_cases e : i < acc.length
      · have := h2 i e
        simp only [List.getD_eq_getElem?_getD] at this ⊢
        rw [List.getElem?_append_left e, List.getElem?_append_left (by omega)]
        exact this
      · have e2 : i = acc.length := by omega
        subst e2
        simp only [List.getD_eq_getElem?_getD]
        rw [List.getElem?_append_right (Nat.le_refl _), List.getElem?_append_right (by omega)]
        simp [h1]
        exact h5) h4
    refine ⟨vs, cv :: cvs, ?_, by simpa using g2, by simpa using g3, g4⟩
    rw [List.mapM_cons, Sem.run_bind]
    cases r <;> (simp only at h6 ⊢; rw [h6]; simp only [Result.andThen_ok, Sem.run_bind, g1, Sem.run_pure])

theorem acalls_of_lwp {P : Program} {f : FuncId} {L : LFn} (hL : lowerFn P f = some L) {args : List V} {h : Hp} {nx : Nat} {R : V → Hp → Nat → Prop}
    (hw : (∀ m b, h m = some b → m < nx) → lwp P L.body (postF L R) ⟨args ++ List.replicate (L.nt - args.length) V.undef, h, nx⟩) : ACalls P f args h nx R := by
  unfold lowerFn at hL
  split at hL
  · rename_i fn hf
    split at hL
    · cases hL
    · rename_i hnm
      split at hL
      · rename_i c hb
        obtain ⟨b, hlc, hL⟩ := Option.bind_eq_some_iff.1 hL
        obtain ⟨r, hlr, rfl⟩ := Option.map_eq_some_iff.1 hL
        refine ⟨by simp only [enterable, hf, hb]; simpa using hnm, ?_⟩
        intro K cargs hlv hrel hv
        refine callsIn_wide.1 (callsIn_of_wp_marks (n := 4) hf hb trivial ?_)
        have hst : RelS K K nx ⟨args ++ List.replicate (fn.ntmps - args.length) V.undef, h, nx⟩ { tmps := cargs ++ Array.replicate (fn.ntmps - cargs.size) Go.undef, defers := [] } := by
          refine ⟨.refl K, ?_, hrel, fun n hn => ⟨hlv n hn, .inl hn⟩, Nat.le_refl _, Marks.nil _ _⟩
          refine ⟨by simp [hv.1], fun t => ?_⟩
          simp only [List.getD_eq_getElem?_getD, Array.getD_eq_getD_getElem?]
          by_cases e : t < args.length
          · have := hv.2 t e
            simp only [List.getD_eq_getElem?_getD, Array.getD_eq_getD_getElem?] at this
            rw [List.getElem?_append_left e, Array.getElem?_append_left (by have := hv.1; omega)]
            exact this
          · rw [List.getElem?_append_right (by omega), Array.getElem?_append_right (by have := hv.1; omega)]
            rw [List.getElem?_replicate, Array.getElem?_replicate, hv.1]
            split
            · exact .undef K
            · exact .undef K
        refine wpIn_mono (lwp_sound c b hlc none 4 _ _ (hw fun m b hm => hlv m (hrel.lt m b hm)) K K nx _ hst (.inl rfl)) ?_
        rintro e a' w' ⟨K1', s', le, rfl, hr1', rfl, hq⟩
        obtain ⟨Ds, hd1, hd2, hd3⟩ := hr1'.defers
        obtain ⟨K', hKw, hV, hKle, hKrel, hKlive⟩ := shutAll_le (K := K) Ds _ K1' rfl (fun D hD => (hd3 D hD).2) hd1 hr1'.le (fun D hD => (hd3 D hD).1) (fun b hb => hrel.size b hb) hr1'.rel
        have hr' : ∃ dummy : True, K.le K' ∧ Slots K' s'.sl a' ∧ Rel K' s'.h ∧ (∀ n, K'.live n → n < s'.nx ∧ (K.live n ∨ nx ≤ n)) ∧ nx ≤ s'.nx := ⟨trivial, hKle, hr1'.slots.monoV hV, hKrel, fun n hn => hr1'.live n (by rw [← hKlive]; exact hn), hr1'.nx⟩
        obtain ⟨_, hr'le, hr'slots, hr'rel, hr'live, hr'nx⟩ := hr'
        have key : (resAll s' r [] fun vs => ∃ h', h'.le s'.h ∧ R (tupOf vs) h' s'.nx) → ∃ v, (results fn a'.tmps).run P K'.w = .ok v K'.w ∧ ∃ K'' v' cv h' nx', K''.w = K'.w ∧ Ending.returned v = .returned cv ∧ K.le K'' ∧ VR K'' v' cv ∧ Rel K'' h' ∧ (∀ n, K''.live n → n < nx' ∧ (K.live n ∨ nx ≤ n)) ∧ nx ≤ nx' ∧ R v' h' nx' := by
          intro hq
          obtain ⟨vs, cvs, g1, g2, g3, g4⟩ := results_sound (P := P) hr'slots hr'rel fn.results.toList r hlr [] [] rfl (fun i hi => absurd hi (by simp)) hq
          simp only [List.nil_append] at g2 g3
          have hrun : (results fn a'.tmps).run P K'.w = .ok (if h : cvs.toArray.size = 1 then cvs.toArray[0] else .tuple cvs.toArray) K'.w := by
            unfold results
            simp only [Sem.run_bind, Array.mapM_eq_mapM_toList, Sem.run_map]
            refine Eq.trans (congrArg (fun r : Result (List Value) => (r.andThen fun a w' => Result.ok a.toArray w').andThen fun a w' => Sem.run P (pure (if h : a.size = 1 then a[0] else Value.tuple a)) w') g1) ?_
            rfl
          obtain ⟨h', hle', g4⟩ := g4
          refine ⟨_, hrun, K', tupOf vs, _, h', s'.nx, rfl, rfl, hr'le, ?_, hr'rel.weaken hle', hr'live, hr'nx, g4⟩
          have many : vs.length ≠ 1 → VR K' (tupOf vs) (if h : cvs.toArray.size = 1 then cvs.toArray[0] else .tuple cvs.toArray) := by
            intro hne
            rw [dif_neg (by simpa [g2] using hne)]
            have : tupOf vs = .tup vs := by
              cases vs with
              | nil => rfl
              | cons x t => cases t with
                | nil => simp at hne
                | cons _ _ => rfl
            rw [this]
            refine .tup vs cvs.toArray (by simp [g2]) fun i hi => ?_
            have := g3 i hi
            simpa [Array.getD_eq_getD_getElem?, List.getD_eq_getElem?_getD] using this
          by_cases h1 : vs.length = 1
          · obtain ⟨v, rfl⟩ : ∃ v, vs = [v] := by
              cases vs with
              | nil => simp at h1
              | cons x t => cases t with
                | nil => exact ⟨x, rfl⟩
                | cons _ _ => simp at h1
            obtain ⟨cv, rfl⟩ : ∃ v, cvs = [v] := by
              cases cvs with
              | nil => simp at g2
              | cons x t => cases t with
                | nil => exact ⟨x, rfl⟩
                | cons _ _ => simp at g2
            have := g3 0 (by simp)
            simpa [tupOf] using this
          · exact many h1
        cases le with
        | exit id => exact hq.elim
        | normal =>
          show LeavesInM Fence.wide 4 P fn a'.tmps _ a'.defers .returning K1'.w
          rw [hd2]
          exact leaves_marks Ds _ hd1 (fun D hD => (hd3 D hD).2) (by rw [← hKw]; exact key hq)
        | ret =>
          show LeavesInM Fence.wide 4 P fn a'.tmps _ a'.defers .returning K1'.w
          rw [hd2]
          exact leaves_marks Ds _ hd1 (fun D hD => (hd3 D hD).2) (by rw [← hKw]; exact key hq)
      · cases hL
  · cases hL

end Go.Proofs.Ythcedfamidlbdaa
