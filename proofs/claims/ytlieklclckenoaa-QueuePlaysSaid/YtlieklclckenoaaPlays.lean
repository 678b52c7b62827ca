/-
The walk of QueuePlays. Conditions: the script's cells.
-/
import Derived.Test.YtlieklclckenoaaAlive25
import Derived.Test.YtlieklclckenoaaMove
import Derived.Test.YtlieklclckenoaaRef25
import Derived.WalkKit
import Derived.IntWalk
namespace Go.Proofs.Ytlieklclckenoaa
open Go.RowKit Go.Shelf Go.Conc

set_option maxRecDepth 100000 in
theorem plays_long (a b : Int) (oad : Option Addr) (cap n : Nat) (hn : 80 < n) (w : World) :
    Calls Try.prog 4 #[.int .i64 a, .int .i64 b, .slice oad n cap] w fun e w' => e = .returned (.bool true) ∧ Below w.heap.size w w' := by
  have h80 : decide (80 < (n : Int)) = true := by simp; omega
  go_enter Try.func4, Try.ntmps4
  go_wp2_with (go_at_call 7; refine (alive25 _).mono ?_; rintro e w1 ⟨rfl, hb1⟩)
  go_ret
  exact ⟨rfl, hb1⟩

set_option maxRecDepth 100000 in
theorem plays_bad (a b : Int) (oad : Option Addr) (cap n : Nat) (hn : n ≤ 80) (w : World) (hab : (a < 1 ∨ 4096 < a) ∨ (b < 1 ∨ 4096 < b)) :
    Calls Try.prog 4 #[.int .i64 a, .int .i64 b, .slice oad n cap] w fun e w' => e = .returned (.bool true) ∧ Below w.heap.size w w' := by
  have h80 : decide (80 < (n : Int)) = false := by simp; omega
  have two : ∀ x : Int, (∃ k : Nat, x = k ∧ 1 ≤ k ∧ k ≤ 4096 ∧ decide (x < 1) = false ∧ decide (4096 < x) = false) ∨ ((x < 1 ∨ 4096 < x) ∧ (decide (x < 1) = true ∨ decide (x < 1) = false ∧ decide (4096 < x) = true)) := by
    intro x
    by_cases h1 : x < 1
    · right; exact ⟨.inl h1, .inl (by simpa using h1)⟩
    · by_cases h2 : 4096 < x
      · right; exact ⟨.inr h2, .inr ⟨by simpa using h1, by simpa using h2⟩⟩
      · left; exact ⟨x.toNat, by omega, by omega, by omega, by simpa using h1, by simpa using h2⟩
  rcases two a with ⟨ka, hka, ka1, ka2, da1, da2⟩ | ⟨hba, da⟩
  · rcases two b with ⟨kb, hkb, kb1, kb2, db1, db2⟩ | ⟨hbb, db⟩
    · omega
    · have HA := Lib.hid hka; clear hka
      clear hab two
      rcases db with db1 | ⟨db1, db2⟩
      all_goals
        go_enter Try.func4, Try.ntmps4
        go_wp2_with (first
          | (go_at_call 7; refine (alive25 _).mono ?_; rintro e w1 ⟨rfl, hb1⟩)
          | (go_at_call 13; (with_reducible refine (newI_q a ka HA.out ka1 ka2 w1).mono ?_); rintro e w2 ⟨rfl, hq2, hb2, -⟩)
          | (go_at_call 13; (with_reducible refine (newI_bad b hbb w2).mono ?_); rintro e w3 ⟨rfl, rfl⟩)
          | (go_at_call 14; (with_reducible refine (is_err 1 rfl 1 _).mono ?_); rintro e w' ⟨rfl, rfl⟩)
          | (go_at_call 14; (with_reducible refine (is_nil 1 _).mono ?_); rintro e w' ⟨rfl, rfl⟩))
        go_ret
        exact ⟨rfl, hb1.trans (hb2.mono hb1.size)⟩
  · rcases two b with ⟨kb, hkb, kb1, kb2, db1, db2⟩ | ⟨hbb, db⟩
    · have HB := Lib.hid hkb; clear hkb
      clear hab two
      rcases da with da1 | ⟨da1, da2⟩
      all_goals
        go_enter Try.func4, Try.ntmps4
        go_wp2_with (first
          | (go_at_call 7; refine (alive25 _).mono ?_; rintro e w1 ⟨rfl, hb1⟩)
          | (go_at_call 13; (with_reducible refine (newI_bad a hba w1).mono ?_); rintro e w2 ⟨rfl, rfl⟩)
          | (go_at_call 13; (with_reducible refine (newI_q b kb HB.out kb1 kb2 w1).mono ?_); rintro e w3 ⟨rfl, hq2, hb2, -⟩)
          | (go_at_call 14; (with_reducible refine (is_err 1 rfl 1 _).mono ?_); rintro e w' ⟨rfl, rfl⟩)
          | (go_at_call 14; (with_reducible refine (is_nil 1 _).mono ?_); rintro e w' ⟨rfl, rfl⟩))
        go_ret
        exact ⟨rfl, hb1.trans (hb2.mono hb1.size)⟩
    · clear hab two
      rcases da with da1 | ⟨da1, da2⟩ <;> rcases db with db1 | ⟨db1, db2⟩
      all_goals
        go_enter Try.func4, Try.ntmps4
        go_wp2_with (first
          | (go_at_call 7; refine (alive25 _).mono ?_; rintro e w1 ⟨rfl, hb1⟩)
          | (go_at_call 13; (with_reducible refine (newI_bad a hba w1).mono ?_); rintro e w2 ⟨rfl, rfl⟩)
          | (go_at_call 13; (with_reducible refine (newI_bad b hbb w1).mono ?_); rintro e w2 ⟨rfl, rfl⟩)
          | (go_at_call 14; (with_reducible refine (is_err 1 rfl 1 _).mono ?_); rintro e w' ⟨rfl, rfl⟩)
          | (go_at_call 14; (with_reducible refine (is_nil 1 _).mono ?_); rintro e w' ⟨rfl, rfl⟩))
        go_ret
        exact ⟨rfl, hb1⟩

-- LAWS
theorem lenI_quiet {b c cap : Nat} {l : List Value} {w : World} (h : IsQ 74 w b c cap l) (m : Nat) (hm : l.length = m) (n : Nat) :
    Calls Try.prog 22 #[.pointer (some ⟨b, 0, none⟩)] (w.drewN n) fun e w'' => e = .returned (.int .i64 m) ∧ ∃ k, w'' = w.drewN k := by
  subst hm
  refine Calls.quiet_of_same ((lenI_q b c cap _ (w.drewN n) ⟨h.box, h.chan⟩).mono ?_)
  rintro e w' ⟨rfl, rfl⟩
  exact ⟨by simp, rfl⟩
theorem roomI_quiet {b c cap : Nat} {l : List Value} {w : World} (h : IsQ 74 w b c cap l) (m : Nat) (hm : l.length = m) (hcap : cap ≤ 4096) (hl : m ≤ cap) (n : Nat) :
    Calls Try.prog 23 #[.pointer (some ⟨b, 0, none⟩)] (w.drewN n) fun e w'' => e = .returned (.int .i64 ((cap : Int) - m)) ∧ ∃ k, w'' = w.drewN k := by
  subst hm
  refine Calls.quiet_of ((roomI_q b c cap _ (w.drewN n) ⟨h.box, h.chan⟩ hcap hl).mono ?_)
  rintro e w' ⟨rfl, k, rfl⟩
  exact ⟨rfl, k, rfl⟩

/-- ps lies in p, qs in q; xs and ys in the document's two queues. -/
structure PlInv (w : World) (cp cq bx : Nat) (a b : Nat) (ps qs xs ys : List Int) (vx vy : Value) (W : World) : Prop where
  p : IsQ 74 W (cp + 1) cp a (vi ps)
  q : IsQ 74 W (cq + 1) cq b (vi qs)
  x : Row2 W bx 44 (.int .i64 a) vx
  y : Row2 W (bx + 1) 44 (.int .i64 b) vy
  rx : Reads W 3 1 vx xs.length (vi xs)
  ry : Reads W 3 1 vy ys.length (vi ys)
  lx : xs.length ≤ a
  ly : ys.length ≤ b
  below : Below w.heap.size w W
  c0 : w.heap.size ≤ cp
  c1 : cp + 1 < cq
  c2 : cq + 1 < bx

section
variable {w : World} {cp cq bx a b : Nat} {ps qs xs ys : List Int} {vx vy : Value} {W W' : World}
theorem PlInv.only (h : PlInv w cp cq bx a b ps qs xs ys vx vy W) (k : Only (fun _ => False) W W') : PlInv w cp cq bx a b ps qs xs ys vx vy W' :=
  ⟨h.p.kept k id id, h.q.kept k id id, h.x.pure k, h.y.pure k, h.rx.pure k, h.ry.pure k, h.lx, h.ly, h.below.trans (k.below h.below.size (fun _ hf => hf.elim)), h.c0, h.c1, h.c2⟩
theorem PlInv.alloc (h : PlInv w cp cq bx a b ps qs xs ys vx vy W) (o : Obj) : PlInv w cp cq bx a b ps qs xs ys vx vy (W.alloc o) := h.only ((Only.refl _ W).alloc o)
theorem PlInv.drewN (h : PlInv w cp cq bx a b ps qs xs ys vx vy W) (n : Nat) : PlInv w cp cq bx a b ps qs xs ys vx vy (W.drewN n) := h.only ((Only.refl _ W).drewN n)
theorem PlInv.drew (h : PlInv w cp cq bx a b ps qs xs ys vx vy W) : PlInv w cp cq bx a b ps qs xs ys vx vy W.drew := h.only ((Only.refl _ W).drew)
theorem PlInv.setX (h : PlInv w cp cq bx a b ps qs xs ys vx vy W) {xs' : List Int} {v : Value} {n : Nat} {l : List Value} (hr : Reads W 3 1 v n l) (hn : n = xs'.length) (hl : l = vi xs') (hle : xs'.length ≤ a) :
    PlInv w cp cq bx a b ps qs xs' ys v vy ((W.setCell ⟨bx, 0, none⟩ (.int .i64 a)).setCell ⟨bx, 1, none⟩ v) := by
  subst hn hl
  have k : Only (fun k => k = bx) W ((W.setCell ⟨bx, 0, none⟩ (.int .i64 a)).setCell ⟨bx, 1, none⟩ v) := (Only.refl (fun k => k = bx) W).put2 (B := bx) (.inr rfl) _ _
  have c0 := h.c0
  have c1 := h.c1
  have c2 := h.c2
  exact ⟨h.p.kept k (by omega) (by omega), h.q.kept k (by omega) (by omega), h.x.put _ _, h.y.put_other (by omega) _ _, hr.put2 h.x (by decide) _ _, h.ry.put2 h.x (by decide) _ _, hle, h.ly,
    h.below.trans (k.below h.below.size (fun i hi => by omega)), h.c0, h.c1, h.c2⟩
theorem PlInv.setY (h : PlInv w cp cq bx a b ps qs xs ys vx vy W) {ys' : List Int} {v : Value} {n : Nat} {l : List Value} (hr : Reads W 3 1 v n l) (hn : n = ys'.length) (hl : l = vi ys') (hle : ys'.length ≤ b) :
    PlInv w cp cq bx a b ps qs xs ys' vx v ((W.setCell ⟨bx + 1, 0, none⟩ (.int .i64 b)).setCell ⟨bx + 1, 1, none⟩ v) := by
  subst hn hl
  have k : Only (fun k => k = bx + 1) W ((W.setCell ⟨bx + 1, 0, none⟩ (.int .i64 b)).setCell ⟨bx + 1, 1, none⟩ v) := (Only.refl (fun k => k = bx + 1) W).put2 (B := bx + 1) (.inr rfl) _ _
  have c0 := h.c0
  have c1 := h.c1
  have c2 := h.c2
  exact ⟨h.p.kept k (by omega) (by omega), h.q.kept k (by omega) (by omega), h.x.put_other (by omega) _ _, h.y.put _ _, h.rx.put2 h.y (by decide) _ _, hr.put2 h.y (by decide) _ _, h.lx, hle,
    h.below.trans (k.below h.below.size (fun i hi => by omega)), h.c0, h.c1, h.c2⟩
theorem PlInv.chans (h : PlInv w cp cq bx a b ps qs xs ys vx vy W) {ps' qs' : List Int} (hp : IsQ 74 W' (cp + 1) cp a (vi ps')) (hq : IsQ 74 W' (cq + 1) cq b (vi qs')) (k : Only (fun i => i = cp ∨ i = cq) W W') :
    PlInv w cp cq bx a b ps' qs' xs ys vx vy W' := by
  have c0 := h.c0
  have c1 := h.c1
  have c2 := h.c2
  obtain ⟨s1, r1, e1⟩ := h.p.chan
  obtain ⟨s2, r2, e2⟩ := h.q.chan
  have hS : ∀ g cur fr, (g = cp ∨ g = cq) → W.heap[g]? ≠ some (.cells cur 3 fr) := by
    rintro g cur fr (rfl | rfl)
    · rw [e1]; simp
    · rw [e2]; simp
  exact ⟨hp, hq, h.x.only k (by omega), h.y.only k (by omega), h.rx.only k hS, h.ry.only k hS, h.lx, h.ly, h.below.trans (k.below h.below.size (fun i hi => by omega)), h.c0, h.c1, h.c2⟩
theorem PlInv.putP (h : PlInv w cp cq bx a b ps qs xs ys vx vy W) {ps' : List Int} {l : List Value} (hp : IsQ 74 W' (cp + 1) cp a l) (hl : l = vi ps') (k : Only (· = cp) W W') : PlInv w cp cq bx a b ps' qs xs ys vx vy W' := by
  have c0 := h.c0
  have c1 := h.c1
  subst hl
  exact h.chans hp (h.q.kept k (by omega) (by omega)) (k.mono (fun _ _ h => .inl h))
theorem PlInv.putQ (h : PlInv w cp cq bx a b ps qs xs ys vx vy W) {qs' : List Int} {l : List Value} (hq : IsQ 74 W' (cq + 1) cq b l) (hl : l = vi qs') (k : Only (· = cq) W W') : PlInv w cp cq bx a b ps qs' xs ys vx vy W' := by
  have c0 := h.c0
  have c1 := h.c1
  subst hl
  exact h.chans (h.p.kept k (by omega) (by omega)) hq (k.mono (fun _ _ h => .inr h))
end
-- SWAL
set_option maxHeartbeats 4000000 in
set_option maxRecDepth 100000 in
theorem plays_walk (a b : Nat) (ka1 : 1 ≤ a) (ka2 : a ≤ 4096) (kb1 : 1 ≤ b) (kb2 : b ≤ 4096) (oad : Option Addr) (cap n : Nat) (hn : n ≤ 80) (w : World)
    (hcells : ∀ i, i < n → ∃ g off k x, oad = some ⟨g, off, none⟩ ∧ w.cell? ⟨g, off + i * 2, none⟩ = some (.int .i64 k) ∧ w.cell? ⟨g, off + i * 2 + 1, none⟩ = some (.int .i64 x)) :
    Calls Try.prog 4 #[.int .i64 a, .int .i64 b, .slice oad n cap] w fun e w' => e = .returned (.bool true) ∧ Below w.heap.size w w' := by
  have h80 : decide (80 < (n : Int)) = false := by simp; omega
  have da1 : decide ((a : Int) < 1) = false := by simp; omega
  have da2 : decide (4096 < (a : Int)) = false := by simp; omega
  have db1 : decide ((b : Int) < 1) = false := by simp; omega
  have db2 : decide (4096 < (b : Int)) = false := by simp; omega
  have HC := Lib.hid hcells; clear hcells
  go_enter Try.func4, Try.ntmps4
  go_wp2_with (first
    | (go_at_call 7; refine (alive25 _).mono ?_; rintro e w1 ⟨rfl, hb1⟩)
    | (go_at_call 13; (with_reducible refine (newI_q a a rfl ka1 ka2 w1).mono ?_); rintro e w2 ⟨rfl, hq2, hb2, -⟩)
    | (go_at_call 13; (with_reducible refine (newI_q b b rfl kb1 kb2 w2).mono ?_); rintro e w3 ⟨rfl, hq3, hb3, -⟩)
    | (go_at_call 14; (with_reducible refine (is_nil 1 _).mono ?_); rintro e w' ⟨rfl, rfl⟩))
  clear da1 da2 db1 db2 h80
  have hI : PlInv w w1.heap.size w2.heap.size w3.heap.size a b [] [] [] [] (.slice none 0 0) (.slice none 0 0) ((w3.alloc (.cells #[.int .i64 a, .slice none 0 0] 44)).alloc (.cells #[.int .i64 b, .slice none 0 0] 44)) := by
    have s1 := hb1.size
    have s2 := hq2.blt
    have s3 := hq3.blt
    have o3 := (((Only.refl (fun _ => False) w3).alloc (.cells #[.int .i64 a, .slice none 0 0] 44)).alloc (.cells #[.int .i64 b, .slice none 0 0] 44))
    have hy := Row2.new (w3.alloc (.cells #[.int .i64 a, .slice none 0 0] 44)) 44 (.int .i64 b) (.slice none 0 0)
    rw [World.size_alloc] at hy
    refine ⟨(hq2.kept (Only.of_below hb3 (fun _ => False)) (by simp) (by simp)).kept o3 (by simp) (by simp), hq3.kept o3 (by simp) (by simp), (Row2.new w3 _ _ _).alloc _, hy, Reads.nil _ _ _, Reads.nil _ _ _, by simp, by simp, ?_, s1, s2, s3⟩
    exact (hb1.trans ((hb2.mono s1).trans (hb3.mono (by omega)))).trans ((o3.below (B := w.heap.size) (by omega) (by simp)))
  generalize ((w3.alloc (.cells #[.int .i64 a, .slice none 0 0] 44)).alloc (.cells #[.int .i64 b, .slice none 0 0] 44)) = W0 at hI ⊢
  generalize w1.heap.size = cp at hI ⊢
  generalize w2.heap.size = cq at hI ⊢
  generalize w3.heap.size = bx at hI ⊢
  clear hq2 hb2 hb1 hq3 hb3
  go_loopw [89] (fun i wr => ∃ (k : Nat) (xs ys : List Int) (vx vy : Value), k ≤ n ∧ i = .int .i64 k ∧ PlInv w cp cq bx a b xs ys xs ys vx vy wr) (fun i _ => n - (intOf i).toNat)
  case atStart => exact ⟨0, [], [], _, _, Nat.zero_le _, rfl, hI⟩
  case round =>
    obtain ⟨k, xs, ys, vx, vy, hk, rfl, hI⟩ := hrel
    by_cases hlt : k < n
    · have d0 : decide ((k : Int) < (n : Int)) = true := by simpa using hlt
      obtain ⟨g, off, kind, x, rfl, e0, e1⟩ := HC.out k hlt
      have g0 : wr.cell? ⟨g, off + k * 2, none⟩ = some (.int .i64 kind) := (hI.below.cell (p := ⟨g, off + k * 2, none⟩) (lt_of_cell e0)).trans e0
      have g1 : wr.cell? ⟨g, off + k * 2 + 1, none⟩ = some (.int .i64 x) := (hI.below.cell (p := ⟨g, off + k * 2 + 1, none⟩) (lt_of_cell e1)).trans e1
      clear e0 e1
      go_upto_region 21 with (fail)
      -- ROUND
      have I1 := hI.alloc (.cells #[.int .i64 kind, .int .i64 x] 46)
      have x1 := Row2.new wr 46 (.int .i64 kind) (.int .i64 x)
      obtain ⟨B, hB⟩ : ∃ B, B = wr.heap.size := ⟨_, rfl⟩
      have hB1 : bx + 1 < B := by rw [hB]; exact hI.y.lt
      rw [← hB] at x1 ⊢
      generalize wr.alloc (.cells #[.int .i64 kind, .int .i64 x] 46) = W1 at I1 x1 ⊢
      clear g0 g1 hB hI
      obtain ⟨ax, cx, rfl, -, -⟩ := I1.rx.shape
      obtain ⟨ay, cy, rfl, -, -⟩ := I1.ry.shape
      have k1 := I1.x.cell0
      have k2 := I1.x.cell1
      have k3 := I1.y.cell0
      have k4 := I1.y.cell1
      have k5 := x1.cell1
      obtain ⟨m, hm⟩ : ∃ m, m = (IntKind.u64.wrap kind).tmod 4 := ⟨_, rfl⟩
      rw [← hm]
      clear hm
      by_cases h0 : m = 0
      · have t0 : (m == 0) = true := by simpa using h0
        clear h0
        by_cases h9 : xs.length < a
        · have hne : (a : Int) ≠ (xs.length : Int) := by omega
          have hlen : xs.length ≤ 5000 := by omega
          have HNE := Lib.hid hne; clear hne
          go_wp2_with (first
            | (go_at_call 15; (with_reducible refine (refPut_room (a : Int) (.slice ax xs.length cx) xs.length (vi xs) x W1 I1.rx HNE.out hlen).mono ?_); rintro e w2 ⟨v2, rfl, hr2, ho2⟩; obtain ⟨a2, cp2, rfl, -, -⟩ := hr2.shape; have J := Lib.hid (((I1.only ho2).setX (xs' := xs ++ [x]) hr2 (by simp) (by simp [vi]) (by simp; omega)).alloc (.cells #[.int .i64 a, .slice a2 (xs.length + 1) cp2] 44)); have q0 := (I1.only ho2).x.cell0; have q1 := (I1.only ho2).x.cell1; have q2 := (I1.only ho2).x.frozen 0; have q3 := (I1.only ho2).x.frozen 1; have q4 := (I1.only ho2).x.lt; have q5 := (x1.pure ho2).cell1; have q6 := (x1.pure ho2).lt)
            | (go_at_call 17; (with_reducible refine (putI_q (cp + 1) cp a (vi xs) (.int .i64 x) _ J.out.p (by simp [vi]; exact h9)).mono ?_); rintro e w5 ⟨rfl, hq5, ho5, -⟩; have j : ∃ (xs5 ys5 : List Int) (vx5 vy5 : Value), PlInv w cp cq bx a b xs5 ys5 xs5 ys5 vx5 vy5 w5 := ⟨_, _, _, _, J.out.putP hq5 (by simp [vi]) ho5⟩; clear hq5 ho5)
            | (go_at_call 16; (with_reducible refine (num_nil _).mono ?_); rintro e w' ⟨rfl, rfl⟩)
            | (go_at_call 16; (with_reducible refine (num_err _ rfl _).mono ?_); rintro e w' ⟨rfl, rfl⟩))
          clear J
          obtain ⟨xs5, ys5, vx5, vy5, I5⟩ := j
          obtain ⟨a5, c5, rfl, -, -⟩ := I5.rx.shape
          obtain ⟨b5, d5, rfl, -, -⟩ := I5.ry.shape
          have k1 := I5.x.cell1
          have k2 := I5.y.cell1
          have HP := Lib.hid (lenI_quiet I5.p xs5.length (by simp [vi]))
          have HQ := Lib.hid (lenI_quiet I5.q ys5.length (by simp [vi]))
          have HRP := Lib.hid (roomI_quiet I5.p xs5.length (by simp [vi]) ka2 I5.lx)
          have HRQ := Lib.hid (roomI_quiet I5.q ys5.length (by simp [vi]) kb2 I5.ly)
          have u1 : IntKind.i64.wrap ((a : Int) - (xs5.length : Int)) = (a : Int) - (xs5.length : Int) := IntWalk.i64_in _ (by have := I5.lx; omega)
          have u2 : IntKind.i64.wrap ((b : Int) - (ys5.length : Int)) = (b : Int) - (ys5.length : Int) := IntWalk.i64_in _ (by have := I5.ly; omega)
          go_quiet (first | (go_at_call 22; with_reducible exact HP.out _) | (go_at_call 22; with_reducible exact HQ.out _) | (go_at_call 23; with_reducible exact HRP.out _) | (go_at_call 23; with_reducible exact HRQ.out _))
          clear u1 u2
          go_wp2
          have R5 := I5.drewN nq
          go_roundw
          case rel => exact ⟨k + 1, xs5, ys5, _, _, by omega, by go_num, R5⟩
          case measure => simp [intOf]; omega
        · have hne : (a : Int) = (xs.length : Int) := by have := I1.lx; omega
          have hlen : xs.length ≤ 5000 := by have := I1.lx; omega
          have HNE := Lib.hid hne; clear hne
          go_wp2_with (first
            | (go_at_call 15; (with_reducible refine (refPut_full (a : Int) (.slice ax xs.length cx) xs.length (vi xs) x W1 I1.rx HNE.out).mono ?_); rintro e w2 ⟨rfl, ho2⟩; have J := Lib.hid (((I1.only ho2).setX (xs' := xs) (I1.rx.pure ho2) rfl rfl I1.lx).alloc (.cells #[.int .i64 a, .slice ax xs.length cx] 44)); have q0 := (I1.only ho2).x.cell0; have q1 := (I1.only ho2).x.cell1; have q2 := (I1.only ho2).x.frozen 0; have q3 := (I1.only ho2).x.frozen 1; have q4 := (I1.only ho2).x.lt; have q5 := (x1.pure ho2).cell1; have q6 := (x1.pure ho2).lt)
            | (go_at_call 17; (with_reducible refine (putI_qfull (cp + 1) cp a (vi xs) (.int .i64 x) _ J.out.p (by simp [vi]; omega)).mono ?_); rintro e w5 ⟨rfl, h5⟩; have j : ∃ (xs5 ys5 : List Int) (vx5 vy5 : Value), PlInv w cp cq bx a b xs5 ys5 xs5 ys5 vx5 vy5 w5 := ⟨_, _, _, _, h5 ▸ J.out⟩; clear h5)
            | (go_at_call 16; (with_reducible refine (num_nil _).mono ?_); rintro e w' ⟨rfl, rfl⟩)
            | (go_at_call 16; (with_reducible refine (num_err _ rfl _).mono ?_); rintro e w' ⟨rfl, rfl⟩))
          clear J
          obtain ⟨xs5, ys5, vx5, vy5, I5⟩ := j
          obtain ⟨a5, c5, rfl, -, -⟩ := I5.rx.shape
          obtain ⟨b5, d5, rfl, -, -⟩ := I5.ry.shape
          have k1 := I5.x.cell1
          have k2 := I5.y.cell1
          have HP := Lib.hid (lenI_quiet I5.p xs5.length (by simp [vi]))
          have HQ := Lib.hid (lenI_quiet I5.q ys5.length (by simp [vi]))
          have HRP := Lib.hid (roomI_quiet I5.p xs5.length (by simp [vi]) ka2 I5.lx)
          have HRQ := Lib.hid (roomI_quiet I5.q ys5.length (by simp [vi]) kb2 I5.ly)
          have u1 : IntKind.i64.wrap ((a : Int) - (xs5.length : Int)) = (a : Int) - (xs5.length : Int) := IntWalk.i64_in _ (by have := I5.lx; omega)
          have u2 : IntKind.i64.wrap ((b : Int) - (ys5.length : Int)) = (b : Int) - (ys5.length : Int) := IntWalk.i64_in _ (by have := I5.ly; omega)
          go_quiet (first | (go_at_call 22; with_reducible exact HP.out _) | (go_at_call 22; with_reducible exact HQ.out _) | (go_at_call 23; with_reducible exact HRP.out _) | (go_at_call 23; with_reducible exact HRQ.out _))
          clear u1 u2
          go_wp2
          have R5 := I5.drewN nq
          go_roundw
          case rel => exact ⟨k + 1, xs5, ys5, _, _, by omega, by go_num, R5⟩
          case measure => simp [intOf]; omega
      · have t0 : (m == 0) = false := by simpa using h0
        by_cases h1 : m = 1
        · have t1 : (m == 1) = true := by simpa using h1
          clear h0 h1
          rcases hl : xs with _ | ⟨y, l⟩
          · have e : vi xs = [] := by rw [hl]; rfl
            have hA := I1.rx
            rw [e] at hA
            have h9 : xs.length = 0 := by rw [hl]; rfl
            have HA := Lib.hid hA; clear hA
            have E9 := Lib.hid e; clear e
            have H9 := Lib.hid h9; clear h9
            have HL := Lib.hid hl; clear hl
            go_wp2_with (first
              | (go_at_call 18; (with_reducible refine (refTake_none (a : Int) (.slice ax xs.length cx) xs.length W1 HA.out H9.out).mono ?_); rintro e w2 ⟨rfl, ho2⟩; have J := Lib.hid (((I1.only ho2).setX (xs' := xs) (I1.rx.pure ho2) rfl rfl I1.lx).alloc (.cells #[.int .i64 a, .slice ax xs.length cx] 44)); have JP := J.out.p; rw [E9.out] at JP; have HJP := Lib.hid JP; clear JP; have q0 := (I1.only ho2).x.cell0; have q1 := (I1.only ho2).x.cell1; have q2 := (I1.only ho2).x.frozen 0; have q3 := (I1.only ho2).x.frozen 1; have q4 := (I1.only ho2).x.lt)
              | (go_at_call 19; (with_reducible refine (takeI_qempty (cp + 1) cp a _ HJP.out).mono ?_); rintro e w5 ⟨rfl, h5⟩; have j : ∃ (xs5 ys5 : List Int) (vx5 vy5 : Value), PlInv w cp cq bx a b xs5 ys5 xs5 ys5 vx5 vy5 w5 := ⟨_, _, _, _, h5 ▸ J.out⟩; clear h5)
              | (go_at_call 16; (with_reducible refine (num_nil _).mono ?_); rintro e w' ⟨rfl, rfl⟩)
              | (go_at_call 16; (with_reducible refine (num_err _ rfl _).mono ?_); rintro e w' ⟨rfl, rfl⟩))
            clear J
            obtain ⟨xs5, ys5, vx5, vy5, I5⟩ := j
            obtain ⟨a5, c5, rfl, -, -⟩ := I5.rx.shape
            obtain ⟨b5, d5, rfl, -, -⟩ := I5.ry.shape
            have k1 := I5.x.cell1
            have k2 := I5.y.cell1
            have HP := Lib.hid (lenI_quiet I5.p xs5.length (by simp [vi]))
            have HQ := Lib.hid (lenI_quiet I5.q ys5.length (by simp [vi]))
            have HRP := Lib.hid (roomI_quiet I5.p xs5.length (by simp [vi]) ka2 I5.lx)
            have HRQ := Lib.hid (roomI_quiet I5.q ys5.length (by simp [vi]) kb2 I5.ly)
            have u1 : IntKind.i64.wrap ((a : Int) - (xs5.length : Int)) = (a : Int) - (xs5.length : Int) := IntWalk.i64_in _ (by have := I5.lx; omega)
            have u2 : IntKind.i64.wrap ((b : Int) - (ys5.length : Int)) = (b : Int) - (ys5.length : Int) := IntWalk.i64_in _ (by have := I5.ly; omega)
            go_quiet (first | (go_at_call 22; with_reducible exact HP.out _) | (go_at_call 22; with_reducible exact HQ.out _) | (go_at_call 23; with_reducible exact HRP.out _) | (go_at_call 23; with_reducible exact HRQ.out _))
            clear u1 u2
            go_wp2
            have R5 := I5.drewN nq
            go_roundw
            case rel => exact ⟨k + 1, xs5, ys5, _, _, by omega, by go_num, R5⟩
            case measure => simp [intOf]; omega
          · have e : vi xs = .int .i64 y :: vi l := by rw [hl]; rfl
            have hA := I1.rx
            rw [e] at hA
            have h9 : xs.length ≠ 0 := by rw [hl]; simp
            have h8 : xs.length - 1 = l.length := by rw [hl]; simp
            have HA := Lib.hid hA; clear hA
            have E9 := Lib.hid e; clear e
            have H9 := Lib.hid h9; clear h9
            have H8 := Lib.hid h8; clear h8
            have HL := Lib.hid hl; clear hl
            go_wp2_with (first
              | (go_at_call 18; (with_reducible refine (refTake_one (a : Int) (.slice ax xs.length cx) xs.length y (vi l) W1 HA.out H9.out).mono ?_); rintro e w2 ⟨v2, rfl, hr2, ho2⟩; obtain ⟨a2, cp2, rfl, -, -⟩ := hr2.shape; have J := Lib.hid (((I1.only ho2).setX (xs' := l) hr2 H8.out rfl (by have := I1.lx; have := H8.out; omega)).alloc (.cells #[.int .i64 a, .slice a2 (xs.length - 1) cp2] 44)); have JP := J.out.p; rw [E9.out] at JP; have HJP := Lib.hid JP; clear JP; have q0 := (I1.only ho2).x.cell0; have q1 := (I1.only ho2).x.cell1; have q2 := (I1.only ho2).x.frozen 0; have q3 := (I1.only ho2).x.frozen 1; have q4 := (I1.only ho2).x.lt)
              | (go_at_call 19; (with_reducible refine (takeI_q (cp + 1) cp a (.int .i64 y) (vi l) _ HJP.out).mono ?_); rintro e w5 ⟨rfl, hq5, ho5, -⟩; have j : ∃ (xs5 ys5 : List Int) (vx5 vy5 : Value), PlInv w cp cq bx a b xs5 ys5 xs5 ys5 vx5 vy5 w5 := ⟨_, _, _, _, J.out.putP hq5 rfl ho5⟩; clear hq5 ho5)
              | (go_at_call 16; (with_reducible refine (num_nil _).mono ?_); rintro e w' ⟨rfl, rfl⟩)
              | (go_at_call 16; (with_reducible refine (num_err _ rfl _).mono ?_); rintro e w' ⟨rfl, rfl⟩))
            clear J
            obtain ⟨xs5, ys5, vx5, vy5, I5⟩ := j
            obtain ⟨a5, c5, rfl, -, -⟩ := I5.rx.shape
            obtain ⟨b5, d5, rfl, -, -⟩ := I5.ry.shape
            have k1 := I5.x.cell1
            have k2 := I5.y.cell1
            have HP := Lib.hid (lenI_quiet I5.p xs5.length (by simp [vi]))
            have HQ := Lib.hid (lenI_quiet I5.q ys5.length (by simp [vi]))
            have HRP := Lib.hid (roomI_quiet I5.p xs5.length (by simp [vi]) ka2 I5.lx)
            have HRQ := Lib.hid (roomI_quiet I5.q ys5.length (by simp [vi]) kb2 I5.ly)
            have u1 : IntKind.i64.wrap ((a : Int) - (xs5.length : Int)) = (a : Int) - (xs5.length : Int) := IntWalk.i64_in _ (by have := I5.lx; omega)
            have u2 : IntKind.i64.wrap ((b : Int) - (ys5.length : Int)) = (b : Int) - (ys5.length : Int) := IntWalk.i64_in _ (by have := I5.ly; omega)
            go_quiet (first | (go_at_call 22; with_reducible exact HP.out _) | (go_at_call 22; with_reducible exact HQ.out _) | (go_at_call 23; with_reducible exact HRP.out _) | (go_at_call 23; with_reducible exact HRQ.out _))
            clear u1 u2
            go_wp2
            have R5 := I5.drewN nq
            go_roundw
            case rel => exact ⟨k + 1, xs5, ys5, _, _, by omega, by go_num, R5⟩
            case measure => simp [intOf]; omega
        · have t1 : (m == 1) = false := by simpa using h1
          by_cases h2 : m = 2
          · have t2 : (m == 2) = true := by simpa using h2
            clear h0 h1 h2
            have l1 : xs.length ≤ 4096 := by have := I1.lx; omega
            go_upto_region 34 with (go_at_call 20; (with_reducible refine (refMove (a : Int) x b (.slice ax xs.length cx) (.slice ay ys.length cy) xs ys W1 I1.rx I1.ry l1 I1.ly kb2).mono ?_); rintro e w2 ⟨km, va2, vb2, rfl, hkm, hra2, hrb2, ho2⟩; obtain ⟨a2, cp2, rfl, -, -⟩ := hra2.shape; obtain ⟨b2, cq2, rfl, -, -⟩ := hrb2.shape; have HKM := Lib.hid hkm; clear hkm)
            have J0 := ((I1.only ho2).alloc (.cells #[.int .i64 a, .slice a2 (xs.length - km) cp2] 44)).alloc (.cells #[.int .i64 b, .slice b2 (ys.length + km) cq2] 44)
            have y1 := (Row2.new w2 44 (.int .i64 a) (.slice a2 (xs.length - km) cp2)).alloc (.cells #[.int .i64 b, .slice b2 (ys.length + km) cq2] 44)
            have y2 := Row2.new (w2.alloc (.cells #[.int .i64 a, .slice a2 (xs.length - km) cp2] 44)) 44 (.int .i64 b) (.slice b2 (ys.length + km) cq2)
            rw [World.size_alloc] at y2
            have y3 := ((x1.pure ho2).alloc (.cells #[.int .i64 a, .slice a2 (xs.length - km) cp2] 44)).alloc (.cells #[.int .i64 b, .slice b2 (ys.length + km) cq2] 44)
            have ra := (hra2.alloc (.cells #[.int .i64 a, .slice a2 (xs.length - km) cp2] 44)).alloc (.cells #[.int .i64 b, .slice b2 (ys.length + km) cq2] 44)
            have rb := (hrb2.alloc (.cells #[.int .i64 a, .slice a2 (xs.length - km) cp2] 44)).alloc (.cells #[.int .i64 b, .slice b2 (ys.length + km) cq2] 44)
            generalize (w2.alloc (.cells #[.int .i64 a, .slice a2 (xs.length - km) cp2] 44)).alloc (.cells #[.int .i64 b, .slice b2 (ys.length + km) cq2] 44) = W2 at J0 y1 y2 y3 ra rb ⊢
            have hB2 := (I1.only ho2).y.lt
            generalize w2.heap.size = B2 at y1 y2 hB2 ⊢
            clear hra2 hrb2 ho2 I1 x1 k1 k2 k3 k4 k5
            have k1 := y1.cell0
            have k2 := y1.cell1
            have k3 := y2.cell0
            have k4 := y2.cell1
            have k5 := J0.x.cell0
            have k6 := J0.x.cell1
            have k7 := J0.y.cell0
            have k8 := J0.y.cell1
            have k9 := J0.x.frozen 0
            have k10 := J0.x.frozen 1
            have k11 := J0.y.frozen 0
            have k12 := J0.y.frozen 1
            have hT : (44 : TypeId) ≠ 3 := by decide
            have n1 : B2 ≠ bx := by omega
            have n2 : B2 + 1 ≠ bx := by omega
            have n3 : B2 ≠ bx + 1 := by omega
            have n4 : B2 + 1 ≠ bx + 1 := by omega
            go_region
            clear n1 n2 n3 n4
            have J1 := ((J0.setX (xs' := xs.drop km) ra (by simp) rfl (by have := J0.lx; simp; omega)).setY (ys' := ys ++ xs.take km) (rb.put2 J0.x hT (.int .i64 a) (.slice a2 (xs.length - km) cp2)) (by have := HKM.out; simp; omega) rfl (by have := HKM.out; have := J0.ly; simp; omega)).drew
            have x3 := ((y3.put_other (by omega : B ≠ bx) (.int .i64 a) (.slice a2 (xs.length - km) cp2)).put_other (by omega : B ≠ bx + 1) (.int .i64 b) (.slice b2 (ys.length + km) cq2)).pure ((Only.refl _ _).drew)
            clear k1 k2 k3 k4 k5 k6 k7 k8 k9 k10 k11 k12 y1 y2 y3 ra rb
            have hl1 := J0.lx
            have hl2 := J0.ly
            clear J0
            generalize ((((W2.setCell ⟨bx, 0, none⟩ (.int .i64 a)).setCell ⟨bx, 1, none⟩ (.slice a2 (xs.length - km) cp2)).setCell ⟨bx + 1, 0, none⟩ (.int .i64 b)).setCell ⟨bx + 1, 1, none⟩ (.slice b2 (ys.length + km) cq2)).drew = W3 at J1 x3 ⊢
            have k1 := x3.cell1
            have z1 : cp + 1 ≠ cq + 1 := by have := J1.c1; omega
            have z2 : cp ≠ cq := by have := J1.c1; omega
            have z3 : cp + 1 ≠ cq := by have := J1.c1; omega
            have z4 : cp ≠ cq + 1 := by have := J1.c1; omega
            have Z1 := Lib.hid z1; clear z1
            have Z2 := Lib.hid z2; clear z2
            have Z3 := Lib.hid z3; clear z3
            have Z4 := Lib.hid z4; clear z4
            have v1 : (vi xs).length ≤ a := by simpa [vi] using hl1
            have v2 : (vi ys).length ≤ b := by simpa [vi] using hl2
            have V1 := Lib.hid v1; clear v1
            have V2 := Lib.hid v2; clear v2
            have J := Lib.hid J1
            go_wp2_with (go_at_call 21; (with_reducible refine (move_two (cp + 1) cp a (cq + 1) cq b (vi xs) (vi ys) x W3 J1.p J1.q ka2 kb2 V1.out V2.out Z1.out Z2.out Z3.out Z4.out).mono ?_); rintro e w5 ⟨k5, rfl, hk5, hp5, hq5, ho5⟩; obtain rfl : k5 = km := (by rw [hk5, HKM.out]; simp [vi]); have j : ∃ (xs5 ys5 : List Int) (vx5 vy5 : Value), PlInv w cp cq bx a b xs5 ys5 xs5 ys5 vx5 vy5 w5 := (⟨_, _, _, _, J1.chans (by simpa [vi, List.map_drop] using hp5) (by simpa [vi, List.map_take] using hq5) ho5⟩); clear hk5 hp5 hq5 ho5)
            clear J1
            clear J
            obtain ⟨xs5, ys5, vx5, vy5, I5⟩ := j
            obtain ⟨a5, c5, rfl, -, -⟩ := I5.rx.shape
            obtain ⟨b5, d5, rfl, -, -⟩ := I5.ry.shape
            have k1 := I5.x.cell1
            have k2 := I5.y.cell1
            have HP := Lib.hid (lenI_quiet I5.p xs5.length (by simp [vi]))
            have HQ := Lib.hid (lenI_quiet I5.q ys5.length (by simp [vi]))
            have HRP := Lib.hid (roomI_quiet I5.p xs5.length (by simp [vi]) ka2 I5.lx)
            have HRQ := Lib.hid (roomI_quiet I5.q ys5.length (by simp [vi]) kb2 I5.ly)
            have u1 : IntKind.i64.wrap ((a : Int) - (xs5.length : Int)) = (a : Int) - (xs5.length : Int) := IntWalk.i64_in _ (by have := I5.lx; omega)
            have u2 : IntKind.i64.wrap ((b : Int) - (ys5.length : Int)) = (b : Int) - (ys5.length : Int) := IntWalk.i64_in _ (by have := I5.ly; omega)
            go_quiet (first | (go_at_call 22; with_reducible exact HP.out _) | (go_at_call 22; with_reducible exact HQ.out _) | (go_at_call 23; with_reducible exact HRP.out _) | (go_at_call 23; with_reducible exact HRQ.out _))
            clear u1 u2
            go_wp2
            have R5 := I5.drewN nq
            go_roundw
            case rel => exact ⟨k + 1, xs5, ys5, _, _, by omega, by go_num, R5⟩
            case measure => simp [intOf]; omega
          · have t2 : (m == 2) = false := by simpa using h2
            clear h0 h1 h2
            rcases hl : ys with _ | ⟨y, l⟩
            · have e : vi ys = [] := by rw [hl]; rfl
              have hA := I1.ry
              rw [e] at hA
              have h9 : ys.length = 0 := by rw [hl]; rfl
              have HA := Lib.hid hA; clear hA
              have E9 := Lib.hid e; clear e
              have H9 := Lib.hid h9; clear h9
              have HL := Lib.hid hl; clear hl
              go_wp2_with (first
                | (go_at_call 18; (with_reducible refine (refTake_none (b : Int) (.slice ay ys.length cy) ys.length W1 HA.out H9.out).mono ?_); rintro e w2 ⟨rfl, ho2⟩; have J := Lib.hid (((I1.only ho2).setY (ys' := ys) (I1.ry.pure ho2) rfl rfl I1.ly).alloc (.cells #[.int .i64 b, .slice ay ys.length cy] 44)); have JP := J.out.q; rw [E9.out] at JP; have HJP := Lib.hid JP; clear JP; have q0 := (I1.only ho2).y.cell0; have q1 := (I1.only ho2).y.cell1; have q2 := (I1.only ho2).y.frozen 0; have q3 := (I1.only ho2).y.frozen 1; have q4 := (I1.only ho2).y.lt)
                | (go_at_call 19; (with_reducible refine (takeI_qempty (cq + 1) cq b _ HJP.out).mono ?_); rintro e w5 ⟨rfl, h5⟩; have j : ∃ (xs5 ys5 : List Int) (vx5 vy5 : Value), PlInv w cp cq bx a b xs5 ys5 xs5 ys5 vx5 vy5 w5 := ⟨_, _, _, _, h5 ▸ J.out⟩; clear h5)
                | (go_at_call 16; (with_reducible refine (num_nil _).mono ?_); rintro e w' ⟨rfl, rfl⟩)
                | (go_at_call 16; (with_reducible refine (num_err _ rfl _).mono ?_); rintro e w' ⟨rfl, rfl⟩))
              clear J
              obtain ⟨xs5, ys5, vx5, vy5, I5⟩ := j
              obtain ⟨a5, c5, rfl, -, -⟩ := I5.rx.shape
              obtain ⟨b5, d5, rfl, -, -⟩ := I5.ry.shape
              have k1 := I5.x.cell1
              have k2 := I5.y.cell1
              have HP := Lib.hid (lenI_quiet I5.p xs5.length (by simp [vi]))
              have HQ := Lib.hid (lenI_quiet I5.q ys5.length (by simp [vi]))
              have HRP := Lib.hid (roomI_quiet I5.p xs5.length (by simp [vi]) ka2 I5.lx)
              have HRQ := Lib.hid (roomI_quiet I5.q ys5.length (by simp [vi]) kb2 I5.ly)
              have u1 : IntKind.i64.wrap ((a : Int) - (xs5.length : Int)) = (a : Int) - (xs5.length : Int) := IntWalk.i64_in _ (by have := I5.lx; omega)
              have u2 : IntKind.i64.wrap ((b : Int) - (ys5.length : Int)) = (b : Int) - (ys5.length : Int) := IntWalk.i64_in _ (by have := I5.ly; omega)
              go_quiet (first | (go_at_call 22; with_reducible exact HP.out _) | (go_at_call 22; with_reducible exact HQ.out _) | (go_at_call 23; with_reducible exact HRP.out _) | (go_at_call 23; with_reducible exact HRQ.out _))
              clear u1 u2
              go_wp2
              have R5 := I5.drewN nq
              go_roundw
              case rel => exact ⟨k + 1, xs5, ys5, _, _, by omega, by go_num, R5⟩
              case measure => simp [intOf]; omega
            · have e : vi ys = .int .i64 y :: vi l := by rw [hl]; rfl
              have hA := I1.ry
              rw [e] at hA
              have h9 : ys.length ≠ 0 := by rw [hl]; simp
              have h8 : ys.length - 1 = l.length := by rw [hl]; simp
              have HA := Lib.hid hA; clear hA
              have E9 := Lib.hid e; clear e
              have H9 := Lib.hid h9; clear h9
              have H8 := Lib.hid h8; clear h8
              have HL := Lib.hid hl; clear hl
              go_wp2_with (first
                | (go_at_call 18; (with_reducible refine (refTake_one (b : Int) (.slice ay ys.length cy) ys.length y (vi l) W1 HA.out H9.out).mono ?_); rintro e w2 ⟨v2, rfl, hr2, ho2⟩; obtain ⟨a2, cp2, rfl, -, -⟩ := hr2.shape; have J := Lib.hid (((I1.only ho2).setY (ys' := l) hr2 H8.out rfl (by have := I1.ly; have := H8.out; omega)).alloc (.cells #[.int .i64 b, .slice a2 (ys.length - 1) cp2] 44)); have JP := J.out.q; rw [E9.out] at JP; have HJP := Lib.hid JP; clear JP; have q0 := (I1.only ho2).y.cell0; have q1 := (I1.only ho2).y.cell1; have q2 := (I1.only ho2).y.frozen 0; have q3 := (I1.only ho2).y.frozen 1; have q4 := (I1.only ho2).y.lt)
                | (go_at_call 19; (with_reducible refine (takeI_q (cq + 1) cq b (.int .i64 y) (vi l) _ HJP.out).mono ?_); rintro e w5 ⟨rfl, hq5, ho5, -⟩; have j : ∃ (xs5 ys5 : List Int) (vx5 vy5 : Value), PlInv w cp cq bx a b xs5 ys5 xs5 ys5 vx5 vy5 w5 := ⟨_, _, _, _, J.out.putQ hq5 rfl ho5⟩; clear hq5 ho5)
                | (go_at_call 16; (with_reducible refine (num_nil _).mono ?_); rintro e w' ⟨rfl, rfl⟩)
                | (go_at_call 16; (with_reducible refine (num_err _ rfl _).mono ?_); rintro e w' ⟨rfl, rfl⟩))
              clear J
              obtain ⟨xs5, ys5, vx5, vy5, I5⟩ := j
              obtain ⟨a5, c5, rfl, -, -⟩ := I5.rx.shape
              obtain ⟨b5, d5, rfl, -, -⟩ := I5.ry.shape
              have k1 := I5.x.cell1
              have k2 := I5.y.cell1
              have HP := Lib.hid (lenI_quiet I5.p xs5.length (by simp [vi]))
              have HQ := Lib.hid (lenI_quiet I5.q ys5.length (by simp [vi]))
              have HRP := Lib.hid (roomI_quiet I5.p xs5.length (by simp [vi]) ka2 I5.lx)
              have HRQ := Lib.hid (roomI_quiet I5.q ys5.length (by simp [vi]) kb2 I5.ly)
              have u1 : IntKind.i64.wrap ((a : Int) - (xs5.length : Int)) = (a : Int) - (xs5.length : Int) := IntWalk.i64_in _ (by have := I5.lx; omega)
              have u2 : IntKind.i64.wrap ((b : Int) - (ys5.length : Int)) = (b : Int) - (ys5.length : Int) := IntWalk.i64_in _ (by have := I5.ly; omega)
              go_quiet (first | (go_at_call 22; with_reducible exact HP.out _) | (go_at_call 22; with_reducible exact HQ.out _) | (go_at_call 23; with_reducible exact HRP.out _) | (go_at_call 23; with_reducible exact HRQ.out _))
              clear u1 u2
              go_wp2
              have R5 := I5.drewN nq
              go_roundw
              case rel => exact ⟨k + 1, xs5, ys5, _, _, by omega, by go_num, R5⟩
              case measure => simp [intOf]; omega
      -- DNUOR
    · have d0 : decide ((k : Int) < (n : Int)) = false := by simpa using hlt
      go_wp2_with (go_at_call 21; (with_reducible refine (move_same _ 5 wr).mono ?_); rintro e w' ⟨rfl, rfl⟩)
      (try rw [Exit.noGoto_ret])
      go_ret
      exact ⟨rfl, hI.below⟩
end Go.Proofs.Ytlieklclckenoaa
