/-
The abstract layer, eighth part: the lowering of the operations that only yield a value is right. No program in sight. No conditions.
-/
import Derived.Test.YthcedfamidlbdaaZg
namespace Go.Proofs.Ythcedfamidlbdaa
set_option linter.unusedSimpArgs false
set_option linter.unusedVariables false
set_option linter.unusedSectionVars false
open Go.RowKit

section
variable {P : Program} {o : Oper} {act : Act} {K : Ker} {sl : List V} {h : Hp} {R : V → Prop}

theorem lowerBin_sound {op : BinOp} {t yt : TypeId} {x y : Operand} {l : LVal} (hl : lowerBin P op t yt x y = some l) (hs : ∀ t, VR K (sl.getD t V.undef) (act.tmps.getD t Go.undef)) (hsem : l.sem sl h R) :
    ∃ cv v, (do eqGuard op t x y (act.eval x) (act.eval y); binOp op t (act.eval x) (act.eval y) : Sem Value).run P K.w = .ok cv K.w ∧ VR K v cv ∧ R v := by
  unfold lowerBin at hl
  obtain ⟨lx, hx, hl⟩ := Option.bind_eq_some_iff.1 hl
  obtain ⟨ly, hy, hl⟩ := Option.bind_eq_some_iff.1 hl
  have vx := lowerArg_sound hx hs
  have vy := lowerArg_sound hy hs
  have bins : ∀ (op : BinOp), (LVal.bin op lx ly).sem sl h R → (op ≠ .shl ∧ op ≠ .shr ∨ ∃ s, lx.ev sl = .str s) → ∃ cv v, (do eqGuard op t x y (act.eval x) (act.eval y); binOp op t (act.eval x) (act.eval y) : Sem Value).run P K.w = .ok cv K.w ∧ VR K v cv ∧ R v := by
    intro op hsem hop
    simp only [LVal.sem] at hsem
    generalize lx.ev sl = v at vx hsem hop
    generalize ly.ev sl = u at vy hsem
    generalize act.eval x = a at vx ⊢
    generalize act.eval y = b at vy ⊢
    split at hsem
    · obtain ⟨rfl, hR⟩ := hsem
      cases vx
      cases vy
      obtain ⟨cv, v, h1, h2, h3⟩ := ibins (P := P) (K := K) (t := t) (hop.resolve_right (by rintro ⟨s, hs⟩; cases hs)) hR
      refine ⟨cv, v, ?_, h2, h3⟩
      rw [Sem.run_bind, run_eqGuard_plain _ _ _ _ _ _ _ (by simp) (by simp)]
      exact h1
    · cases vx
      cases vy
      obtain ⟨cv, v, h1, h2, h3⟩ := sbins (P := P) (K := K) (ty := t) hsem
      refine ⟨cv, v, ?_, h2, h3⟩
      rw [Sem.run_bind, run_eqGuard_plain _ _ _ _ _ _ _ (by simp) (by simp)]
      exact h1
    · exact hsem.elim
  split at hl
  · split at hl
    · simp at hl
    · rename_i hop
      injection hl with hl
      subst hl
      exact bins op hsem (.inl ⟨fun e => hop (.inl e), fun e => hop (.inr e)⟩)
  · injection hl with hl
    subst hl
    by_cases hop : op = .shl ∨ op = .shr
    · refine bins op hsem ?_
      simp only [LVal.sem] at hsem
      split at hsem
      · obtain ⟨rfl, hR⟩ := hsem
        rcases hop with rfl | rfl <;> exact hR.elim
      · rename_i s t h1 h2; exact .inr ⟨s, h1⟩
      · exact hsem.elim
    · exact bins op hsem (.inl ⟨fun e => hop (.inl e), fun e => hop (.inr e)⟩)
  · obtain ⟨ng, hn, hl⟩ := Option.bind_eq_some_iff.1 hl
    obtain ⟨e, he, hl⟩ := Option.map_eq_some_iff.1 hl
    subst hl
    simp only [LVal.sem] at hsem
    split at hsem
    · rename_i r hr
      exact ⟨_, _, veq_sound he vx vy hr hn, .bool _, hsem⟩
    · exact hsem.elim

/-- The parts of a struct that is built. -/
theorem fill_sound {fs : Array Field} (hs : ∀ t, VR K (sl.getD t V.undef) (act.tmps.getD t Go.undef)) (places : Array (Nat × Nat)) (hp : ∀ (i : Nat) (f : Field) (k : Sh), fs[i]? = some f → shOf P f.type = some k → places[i]? = some (f.offset, k.size)) (n : Nat) :
    ∀ (parts : List (Nat × Operand)) (lp : List (Nat × Sh × LArg)) (zs : List V) (cz : Array Value), lowerParts P fs parts = some lp → zs.length = n → cz.size = n →
      (∀ j, j < n → VR K (zs.getD j V.undef) (cz.getD j Go.undef)) → (∀ p ∈ lp, (p.2.2.ev sl).fits p.2.1 = true ∧ p.1 + p.2.1.size ≤ n) →
      ∃ cz', Instr.fill (places[·]?) cz (parts.map fun (i, x) => (i, act.eval x)) = some cz' ∧ VR K (.agg (fillV zs (lp.map fun p => (p.1, (p.2.2.ev sl).cells)))) (.agg cz')
  | [], lp, zs, cz, hl, hz, hc, hv, _ => by
    simp [lowerParts] at hl
    subst hl
    exact ⟨cz, rfl, .agg zs cz (by omega) (fun i hi => hv i (by omega))⟩
  | (i, x) :: r, lp, zs, cz, hl, hz, hc, hv, hfit => by
    unfold lowerParts at hl
    split at hl
    · rename_i f hf
      obtain ⟨k, hk, hl⟩ := Option.bind_eq_some_iff.1 hl
      obtain ⟨l, hx, hl⟩ := Option.bind_eq_some_iff.1 hl
      obtain ⟨lr, hr, hl⟩ := Option.map_eq_some_iff.1 hl
      subst hl
      have vx := lowerArg_sound hx hs
      have h0 := hfit (f.offset, k, l) (by simp)
      simp only at h0
      obtain ⟨c1, c2, c3, c4⟩ := vx.cells h0.1
      have hpl := hp i f k hf hk
      have step : ∃ cz1 : Array Value, (((act.eval x).cells.zipIdx.foldl (fun cs (c, j) => cs.setIfInBounds (f.offset + j) c) cz)) = cz1 ∧ cz1.size = n ∧
          ∀ j, j < n → VR K ((zs.take f.offset ++ (l.ev sl).cells ++ zs.drop (f.offset + (l.ev sl).cells.length)).getD j V.undef) (cz1.getD j Go.undef) := by
        have fold : ∀ (cs : List Value) (s : Nat) (c0 : Array Value), (cs.zipIdx s).foldl (fun cs (p : Value × Nat) => cs.setIfInBounds (f.offset + p.2) p.1) c0 = (cs.zipIdx s).foldl (fun cs (p : Value × Nat) => cs.setIfInBounds (f.offset + p.2) p.1) c0 := fun _ _ _ => rfl
        have key : ∀ (cs : List Value) (s : Nat) (c0 : Array Value), ((cs.zipIdx s).foldl (fun cs (p : Value × Nat) => cs.setIfInBounds (f.offset + p.2) p.1) c0).size = c0.size ∧
            ∀ j, j < c0.size → ((cs.zipIdx s).foldl (fun cs (p : Value × Nat) => cs.setIfInBounds (f.offset + p.2) p.1) c0).getD j Go.undef = if f.offset + s ≤ j ∧ j < f.offset + s + cs.length then cs.getD (j - (f.offset + s)) Go.undef else c0.getD j Go.undef := by
          intro cs
          induction cs with
          | nil => intro s c0; exact ⟨rfl, fun j hj => by simp; omega⟩
          | cons c cs ih =>
            intro s c0
            obtain ⟨i1, i2⟩ := ih (s + 1) (c0.setIfInBounds (f.offset + s) c)
            rw [List.zipIdx_cons, List.foldl_cons]
            refine ⟨by rw [i1]; simp, fun j hj => ?_⟩
            rw [i2 j (by simpa using hj)]
            by_cases e : j = f.offset + s
            · subst e
              simp [hj, Array.getD_eq_getD_getElem?]
              intro h1
              omega
            · by_cases e2 : f.offset + (s + 1) ≤ j ∧ j < f.offset + (s + 1) + cs.length
              · rw [if_pos e2, if_pos (by simp; omega)]
                have : j - (f.offset + s) = (j - (f.offset + (s + 1))) + 1 := by omega
                rw [this]
                simp
              · rw [if_neg e2, if_neg (by simp; omega)]
                simp only [Array.getD_eq_getD_getElem?]
                rw [Array.getElem?_setIfInBounds_ne (by omega)]
        obtain ⟨k1, k2⟩ := key (act.eval x).cells.toList 0 cz
        refine ⟨_, rfl, ?_, fun j hj => ?_⟩
        · have : (act.eval x).cells.zipIdx.foldl (fun cs (c, j) => cs.setIfInBounds (f.offset + j) c) cz = ((act.eval x).cells.toList.zipIdx 0).foldl (fun cs (p : Value × Nat) => cs.setIfInBounds (f.offset + p.2) p.1) cz := by
            rw [← Array.foldl_toList, Array.toList_zipIdx]
          rw [this, k1, hc]
        · have : (act.eval x).cells.zipIdx.foldl (fun cs (c, j) => cs.setIfInBounds (f.offset + j) c) cz = ((act.eval x).cells.toList.zipIdx 0).foldl (fun cs (p : Value × Nat) => cs.setIfInBounds (f.offset + p.2) p.1) cz := by
            rw [← Array.foldl_toList, Array.toList_zipIdx]
          rw [this, k2 j (by omega)]
          have hlen : (act.eval x).cells.toList.length = k.size := by simpa using c2
          by_cases e : f.offset + 0 ≤ j ∧ j < f.offset + 0 + (act.eval x).cells.toList.length
          · rw [if_pos e]
            have hj2 : j - f.offset < k.size := by omega
            have := c3 (j - f.offset) hj2
            have e1 : (zs.take f.offset ++ (l.ev sl).cells ++ zs.drop (f.offset + (l.ev sl).cells.length)).getD j V.undef = (l.ev sl).cell (j - f.offset) := by
              simp only [V.cell, List.getD_eq_getElem?_getD, List.append_assoc]
              rw [List.getElem?_append_right (by simp; omega), List.getElem?_append_left (by simp; omega)]
              have : j - (zs.take f.offset).length = j - f.offset := by simp; omega
              rw [this]
            rw [e1]
            simpa [Array.getD_eq_getD_getElem?, List.getD_eq_getElem?_getD] using this
          · rw [if_neg e]
            have := hv j hj
            have e1 : (zs.take f.offset ++ (l.ev sl).cells ++ zs.drop (f.offset + (l.ev sl).cells.length)).getD j V.undef = zs.getD j V.undef := by
              simp only [List.getD_eq_getElem?_getD, List.append_assoc]
              by_cases e3 : j < f.offset
              · rw [List.getElem?_append_left (by simp; omega), List.getElem?_take, if_pos e3]
              · rw [List.getElem?_append_right (by simp; omega), List.getElem?_append_right (by simp; omega), List.getElem?_drop]
                congr 2
                simp
                omega
            rw [e1]
            exact this
      obtain ⟨cz1, hz1, hz2, hz3⟩ := step
      obtain ⟨cz', q1, q2⟩ := fill_sound hs places hp n r lr (zs.take f.offset ++ (l.ev sl).cells ++ zs.drop (f.offset + (l.ev sl).cells.length)) cz1 hr (by simp; omega) hz2 hz3 (fun p hp => hfit p (by simp [hp]))
      refine ⟨cz', ?_, q2⟩
      rw [List.map_cons, Instr.fill]
      simp only [hpl, c2]
      rw [if_neg (by simp; omega)]
      rw [hz1]
      exact q1
    · simp at hl

theorem lowerVal_sound {l : LVal} (hl : lowerVal P o = some l) (hs : ∀ t, VR K (sl.getD t V.undef) (act.tmps.getD t Go.undef)) (hr : Rel K h) (hsem : l.sem sl h R) : YieldsV P o act K R := by
  unfold lowerVal at hl
  split at hl
  case h_1 x hop =>
    obtain ⟨lx, hx, rfl⟩ := Option.map_eq_some_iff.1 hl
    exact ⟨_, _, by simp [execOp, hop], lowerArg_sound hx hs, hsem⟩
  case h_2 x hop =>
    obtain ⟨lx, hx, rfl⟩ := Option.map_eq_some_iff.1 hl
    exact ⟨_, _, by simp [execOp, hop], lowerArg_sound hx hs, hsem⟩
  case h_3 c a b hop =>
    obtain ⟨lc, hc, hl⟩ := Option.bind_eq_some_iff.1 hl
    obtain ⟨la, ha, hl⟩ := Option.bind_eq_some_iff.1 hl
    obtain ⟨lb, hb, rfl⟩ := Option.map_eq_some_iff.1 hl
    have vc := lowerArg_sound hc hs
    have va := lowerArg_sound ha hs
    have vb := lowerArg_sound hb hs
    simp only [LVal.sem] at hsem
    split at hsem
    · rename_i t ht
      rw [ht] at vc
      generalize hcv : act.eval c = cv at vc
      cases vc
      refine ⟨if t then act.eval a else act.eval b, _, ?_, ?_, hsem⟩
      · simp [execOp, hop, hcv, asBool]
      · generalize la.ev sl = v at va ⊢
        generalize lb.ev sl = u at vb ⊢
        generalize act.eval a = ca at va ⊢
        generalize act.eval b = cb at vb ⊢
        unfold V.pick
        split
        · cases va; cases vb; cases t <;> exact .bool _
        · cases t
          · exact vb
          · exact va
    · exact hsem.elim
  case h_4 t x hop =>
    obtain ⟨k, hk, hl⟩ := Option.bind_eq_some_iff.1 hl
    obtain ⟨lx, hx, rfl⟩ := Option.map_eq_some_iff.1 hl
    obtain ⟨cv, v, h1, h2, h3⟩ := loads hk hr (lowerArg_sound hx hs) lx rfl hsem
    exact ⟨cv, v, by simp [execOp, hop, h1], h2, h3⟩
  case h_5 x hop =>
    obtain ⟨lx, hx, rfl⟩ := Option.map_eq_some_iff.1 hl
    have vx := lowerArg_sound hx hs
    simp only [LVal.sem] at hsem
    split at hsem
    · rename_i n k i oo he
      rw [he] at vx
      generalize hcv : act.eval x = cv at vx
      cases vx with
      | ptr _ _ _ _ hn => exact ⟨_, _, by simp [execOp, hop, hcv], .ptr n k i oo hn, hsem⟩
    · rename_i k es i oo he
      rw [he] at vx
      generalize hcv : act.eval x = cv at vx
      cases vx with
      | ept _ _ _ _ b off f hb hfit hcell hst hv => exact ⟨_, _, by simp [execOp, hop, hcv], .ept k es i oo b off f hb hfit hcell hst hv, hsem⟩
    · exact hsem.elim
  case h_6 op t x y yt hop =>
    obtain ⟨cv, v, h1, h2, h3⟩ := lowerBin_sound hl hs hsem
    refine ⟨cv, v, ?_, h2, h3⟩
    have : (execOp act.eval o) = (do pure (.value (← (do eqGuard op t x y (act.eval x) (act.eval y); binOp op t (act.eval x) (act.eval y) : Sem Value))) : Sem Next) := by simp only [execOp, hop]
    rw [this, Sem.run_bind, h1]
    rfl
  case h_7 t x hop =>
    obtain ⟨lx, hx, rfl⟩ := Option.map_eq_some_iff.1 hl
    have vx := lowerArg_sound hx hs
    simp only [LVal.sem] at hsem
    split at hsem
    · rename_i b he
      rw [he] at vx
      generalize hcv : act.eval x = cv at vx
      cases vx
      exact ⟨_, _, by simp [execOp, hop, hcv, Op.unary], .bool _, hsem⟩
    · exact hsem.elim
  case h_8 t x hop =>
    obtain ⟨lx, hx, rfl⟩ := Option.map_eq_some_iff.1 hl
    have vx := lowerArg_sound hx hs
    simp only [LVal.sem] at hsem
    split at hsem
    · rename_i k n he
      rw [he] at vx
      generalize hcv : act.eval x = cv at vx
      cases vx
      exact ⟨.int k (k.wrap (0 - n)), _, by simp [execOp, hop, hcv, Op.unary, Op.intArith], .int _ _, hsem⟩
    · exact hsem.elim
  case h_9 s d x hop =>
    split at hl
    · rename_i ks kd h1 h2
      obtain ⟨lx, hx, rfl⟩ := Option.map_eq_some_iff.1 hl
      have vx := lowerArg_sound hx hs
      simp only [LVal.sem] at hsem
      split at hsem
      · rename_i k n he
        rw [he] at vx
        generalize hcv : act.eval x = cv at vx
        cases vx
        exact ⟨_, _, by simp [execOp, hop, hcv, convert, run_underlying h1, run_underlying h2, Conv.intToInt], .int _ _, hsem⟩
      · exact hsem.elim
    · simp at hl
  case h_10 t x hop =>
    split at hl
    · simp at hl
    · rename_i d hd1 hd
      obtain ⟨lx, hx, rfl⟩ := Option.map_eq_some_iff.1 hl
      have vx := lowerArg_sound hx hs
      refine ⟨_, _, ?_, .iface t _ _ vx, hsem⟩
      simp only [execOp, hop, Instr.makeInterface, Sem.run_bind, run_underlying hd, Result.andThen_ok]
      cases d <;> first | rfl | (exfalso; exact hd1 _ hd) | (exfalso; exact hd1 _ rfl)
    · simp at hl
  case h_11 f first cap hop =>
    obtain ⟨la, ha, hl⟩ := Option.bind_eq_some_iff.1 hl
    obtain ⟨lb, hb, rfl⟩ := Option.map_eq_some_iff.1 hl
    obtain ⟨a1, a2⟩ := lowerArgs_sound hs _ _ _ ha
    obtain ⟨b1, b2⟩ := lowerArgs_sound hs _ _ _ hb
    refine ⟨.func f (first.map act.eval) (cap.map act.eval), _, by simp [execOp, hop, Instr.makeFunc], .fn f _ _ _ _ (by simpa using a1) (by simpa using b1) (fun i hi => ?_) (fun i hi => ?_), hsem⟩
    · have := a2 i (by simpa using hi)
      simpa [Array.getD_eq_getD_getElem?, List.getD_eq_getElem?_getD] using this
    · have := b2 i (by simpa using hi)
      simpa [Array.getD_eq_getD_getElem?, List.getD_eq_getElem?_getD] using this
  case h_12 s x f hop =>
    split at hl
    · rename_i fs hu
      split at hl
      · rename_i fl hf
        split at hl
        · simp at hl
        · rename_i hc
          obtain ⟨lx, hx, rfl⟩ := Option.map_eq_some_iff.1 hl
          have vx := lowerArg_sound hx hs
          have hz : ∃ i, P.info? fl.type = some i ∧ i.size ≠ 0 := by
            unfold Program.cellsOf at hc
            cases hi : P.info? fl.type with
            | none => simp [hi] at hc
            | some i => simp [hi] at hc; exact ⟨i, rfl, hc⟩
          obtain ⟨inf, hi, hz⟩ := hz
          have hfp : ∀ a : Addr, (fieldPlace a fl).run P K.w = .ok (a.add fl.offset) K.w := fun a => by simp [fieldPlace, sizeOf, typeInfo, hi, hz]
          simp only [LVal.sem] at hsem
          split at hsem
          · rename_i n k i oo he
            rw [he] at vx
            generalize hcv : act.eval x = cv at vx
            cases vx with
            | ptr _ _ _ _ hn =>
              refine ⟨_, _, ?_, .ptr n k i (oo + fl.offset) hn, hsem⟩
              simp only [execOp, hop, hcv, Instr.fieldAt, Sem.run_bind, run_underlying hu, Result.andThen_ok, hf, Instr.sureAddr, Sem.run_pure, hfp, add_plain, Nat.add_assoc]
          · rename_i k es i oo he
            rw [he] at vx
            generalize hcv : act.eval x = cv at vx
            cases vx with
            | ept _ _ _ _ b off f hb hfit hcell hst hv =>
              refine ⟨_, _, ?_, .ept k es i (oo + fl.offset) b off f hb hfit hcell hst hv, hsem⟩
              simp only [execOp, hop, hcv, Instr.fieldAt, Sem.run_bind, run_underlying hu, Result.andThen_ok, hf, Instr.sureAddr, Sem.run_pure, hfp, add_plain, Nat.add_assoc]
          · exact hsem.elim
      · simp at hl
    · simp at hl
  case h_13 s x f hop =>
    split at hl
    · rename_i fs hu
      split at hl
      · rename_i fl hf
        obtain ⟨k, hk, hl⟩ := Option.bind_eq_some_iff.1 hl
        obtain ⟨lx, hx, rfl⟩ := Option.map_eq_some_iff.1 hl
        have vx := lowerArg_sound hx hs
        simp only [LVal.sem] at hsem
        split at hsem
        · rename_i cs he
          obtain ⟨hp, hlf, hR⟩ := hsem
          rw [he] at vx
          have hfit : (V.agg cs).fits (.agg cs.length) = true := by simp only [V.fits, decide_true, Bool.true_and]; exact hlf
          obtain ⟨f1, f2, f3⟩ := loadPart_cells hp hfit
          have f2 : fl.offset + k.size ≤ cs.length := f2
          generalize hcv : act.eval x = cv at vx
          cases vx with
          | agg _ ccs hl hv =>
            have hpart := run_part hk K.w ccs (fun j => ccs.getD j Go.undef) fl.offset (by omega) (fun _ _ => rfl)
            refine ⟨_, _, ?_, VR.aggOf (f := fun j => ccs.getD (fl.offset + j) Go.undef) f1 (fun j hj => ?_), hR⟩
            · simp only [execOp, hop, hcv, Instr.field, Sem.run_bind, run_underlying hu, Result.andThen_ok, hf, asAgg, Sem.run_pure, hpart]
            · rw [f3 j hj]
              exact hv (fl.offset + j) (by omega)
        · exact hsem.elim
      · simp at hl
    · simp at hl
  case h_14 t x i hop =>
    split at hl
    · rename_i e hu
      obtain ⟨k, hk, hl⟩ := Option.bind_eq_some_iff.1 hl
      obtain ⟨lx, hx, hl⟩ := Option.bind_eq_some_iff.1 hl
      obtain ⟨li, hi, rfl⟩ := Option.map_eq_some_iff.1 hl
      have vx := lowerArg_sound hx hs
      have vi := lowerArg_sound hi hs
      simp only [LVal.sem] at hsem
      split at hsem
      · rename_i k' own es ik j he hj
        obtain ⟨rfl, h0, h1, hR⟩ := hsem
        rw [he] at vx
        rw [hj] at vi
        generalize hcv : act.eval x = cv at vx
        generalize hci : act.eval i = ci at vi
        cases vi
        cases vx with
        | slnil => simp at h1; omega
        | slz => simp at h1; omega
        | sl _ _ _ b off cap f hb hfit hcell hst hv hcap hnil hfull htok =>
          refine ⟨_, _, ?_, .ept k' es j.toNat 0 b off f hb hfit hcell hst hv, hR⟩
          simp only [execOp, hop, hcv, hci, Instr.indexAt, asIntOf, Sem.run_bind, Sem.run_pure, Result.andThen_ok, run_underlying hu]
          rw [if_pos ⟨h0, h1⟩]
          simp only [Sem.run_bind, run_sizeOf hk, Result.andThen_ok, Sem.run_pure, add_plain, Nat.add_zero]
      · rename_i n k' off ln ik j he hj
        obtain ⟨rfl, h0, h1, hR⟩ := hsem
        rw [he] at vx
        rw [hj] at vi
        generalize hcv : act.eval x = cv at vx
        generalize hci : act.eval i = ci at vi
        cases vi
        cases vx with
        | rs _ _ _ _ cap hn hcap hm =>
          refine ⟨_, _, ?_, .ptr n k' (off + j.toNat) 0 hn, hR⟩
          simp only [execOp, hop, hcv, hci, Instr.indexAt, asIntOf, Sem.run_bind, Sem.run_pure, Result.andThen_ok, run_underlying hu]
          rw [if_pos ⟨h0, h1⟩]
          simp only [Sem.run_bind, run_sizeOf hk, Result.andThen_ok, Sem.run_pure, add_plain, Nat.add_zero, Nat.add_mul]
      · exact hsem.elim
    · rename_i n e hu
      obtain ⟨k, hk, hl⟩ := Option.bind_eq_some_iff.1 hl
      obtain ⟨lx, hx, hl⟩ := Option.bind_eq_some_iff.1 hl
      obtain ⟨li, hi, rfl⟩ := Option.map_eq_some_iff.1 hl
      have vx := lowerArg_sound hx hs
      have vi := lowerArg_sound hi hs
      simp only [LVal.sem] at hsem
      split at hsem
      · rename_i m k' i' oo ik j he hj
        obtain ⟨h0, h1, hR⟩ := hsem
        rw [he] at vx
        rw [hj] at vi
        generalize hcv : act.eval x = cv at vx
        generalize hci : act.eval i = ci at vi
        cases vi
        cases vx with
        | ptr _ _ _ _ hn =>
          refine ⟨_, _, ?_, .ptr m k' i' (oo + j.toNat * k.size) hn, hR⟩
          simp only [execOp, hop, hcv, hci, Instr.indexAt, asIntOf, Sem.run_bind, Sem.run_pure, Result.andThen_ok, run_underlying hu, Instr.sureAddr]
          rw [if_pos ⟨h0, h1⟩]
          simp only [Sem.run_bind, run_sizeOf hk, Result.andThen_ok, Sem.run_pure, add_plain, Nat.add_assoc]
      · exact hsem.elim
    · simp at hl
  case h_15 x i hop =>
    obtain ⟨lx, hx, rfl⟩ := Option.map_eq_some_iff.1 hl
    have vx := lowerArg_sound hx hs
    simp only [LVal.sem] at hsem
    split at hsem
    · rename_i vs he
      rw [he] at vx
      generalize hcv : act.eval x = cv at vx
      cases vx with
      | tup _ ccs hlen hv =>
        refine ⟨_, _, ?_, hv i hsem.1, hsem.2⟩
        have : ccs[i]? = some (ccs.getD i Go.undef) := by
          rw [Array.getD_eq_getD_getElem?, Array.getElem?_eq_getElem (by omega)]; rfl
        simp only [execOp, hop, hcv, Instr.extract, this, Sem.run_bind, Sem.run_pure, Result.andThen_ok]
    · exact hsem.elim
  case h_16 t x lo hi mx hop =>
    have bnd : ∀ (o : Option Operand) (lo : Option LArg) (d : Int) (n : Int), lowerOpt P o = some lo → bval sl d lo = some n → (o = none ∧ lo = none ∧ n = d) ∨ ∃ x l k, o = some x ∧ lo = some l ∧ act.eval x = .int k n ∧ ogive sl lo = some n := by
      intro o lo d n h1 h2
      cases o with
      | none =>
        simp only [lowerOpt, Option.some.injEq] at h1
        subst h1
        simp only [bval, Option.some.injEq] at h2
        exact .inl ⟨rfl, rfl, h2.symm⟩
      | some x =>
        simp only [lowerOpt] at h1
        obtain ⟨l, hl, rfl⟩ := Option.map_eq_some_iff.1 h1
        have vl := lowerArg_sound hl hs
        simp only [bval] at h2
        split at h2
        · rename_i k m he
          injection h2 with h2
          subst h2
          rw [he] at vl
          generalize hcv : act.eval x = cv at vl
          cases vl
          exact .inr ⟨x, l, k, rfl, rfl, hcv, by simp only [ogive, he]⟩
        · cases h2
    have hb : ∀ (isl : Bool) (len cap : Nat) (llo lhi lmx : Option LArg) (l h' m : Int), lowerOpt P lo = some llo → lowerOpt P hi = some lhi → lowerOpt P mx = some lmx →
        bval sl 0 llo = some l → bval sl len lhi = some h' → bval sl len lmx = some m → 0 ≤ l → l ≤ h' → h' ≤ m → m ≤ len → (lhi.isNone = true → lmx.isNone = true) → len ≤ cap →
        (Instr.sliceBounds isl len cap (lo.map act.eval) (hi.map act.eval) (mx.map act.eval)).run P K.w = .ok (l.toNat, h'.toNat, if lmx.isSome then m.toNat else cap) K.w := by
      intro isl len cap llo lhi lmx l h' m hlo hhi hmx b1 b2 b3 l0 l1 l2 l3 l4 hcap
      rcases bnd mx lmx _ _ hmx b3 with ⟨rfl, rfl, rfl⟩ | ⟨xm, lm, km, rfl, rfl, em, _⟩
      · rcases bnd hi lhi _ _ hhi b2 with ⟨rfl, rfl, rfl⟩ | ⟨xh, lh, kh, rfl, rfl, eh, _⟩
        · rcases bnd lo llo _ _ hlo b1 with ⟨rfl, rfl, rfl⟩ | ⟨xl, ll, kl, rfl, rfl, el, _⟩
          · simp [Instr.sliceBounds]
          · have c1 : 0 ≤ l ∧ l ≤ (len : Int) := ⟨l0, by omega⟩
            simp [Instr.sliceBounds, Instr.sliceBound, el, asIntOf, c1]
        · have c2 : 0 ≤ h' ∧ h' ≤ (cap : Int) := ⟨by omega, by omega⟩
          rcases bnd lo llo _ _ hlo b1 with ⟨rfl, rfl, rfl⟩ | ⟨xl, ll, kl, rfl, rfl, el, _⟩
          · simp [Instr.sliceBounds, Instr.sliceBound, eh, asIntOf, c2]
          · have c1 : 0 ≤ l ∧ l ≤ ((h'.toNat : Nat) : Int) := ⟨l0, by omega⟩
            simp only [Instr.sliceBounds, Instr.sliceBound, el, eh, asIntOf, Option.map_some, Option.map_none, Option.isSome_none, Sem.run_bind, Sem.run_pure, Result.andThen_ok, if_pos c1, if_pos c2, Bool.false_eq_true, if_false]
      · have c3 : 0 ≤ m ∧ m ≤ (cap : Int) := ⟨by omega, by omega⟩
        rcases bnd hi lhi _ _ hhi b2 with ⟨rfl, rfl, rfl⟩ | ⟨xh, lh, kh, rfl, rfl, eh, _⟩
        · simp at l4
        · have c2 : 0 ≤ h' ∧ h' ≤ ((m.toNat : Nat) : Int) := ⟨by omega, by omega⟩
          rcases bnd lo llo _ _ hlo b1 with ⟨rfl, rfl, rfl⟩ | ⟨xl, ll, kl, rfl, rfl, el, _⟩
          · simp only [Instr.sliceBounds, Instr.sliceBound, em, eh, asIntOf, Option.map_some, Option.map_none, Option.isSome_some, Sem.run_bind, Sem.run_pure, Result.andThen_ok, if_pos c2, if_pos c3, if_true]
            simp
          · have c1 : 0 ≤ l ∧ l ≤ ((h'.toNat : Nat) : Int) := ⟨l0, by omega⟩
            simp only [Instr.sliceBounds, Instr.sliceBound, em, el, eh, asIntOf, Option.map_some, Option.map_none, Option.isSome_some, Sem.run_bind, Sem.run_pure, Result.andThen_ok, if_pos c1, if_pos c2, if_pos c3, if_true]
    split at hl
    · rename_i e hu
      obtain ⟨ke, hke, hl⟩ := Option.bind_eq_some_iff.1 hl
      obtain ⟨lx, hx, hl⟩ := Option.bind_eq_some_iff.1 hl
      obtain ⟨llo, hlo, hl⟩ := Option.bind_eq_some_iff.1 hl
      obtain ⟨lhi, hhi, hl⟩ := Option.bind_eq_some_iff.1 hl
      obtain ⟨lmx, hmx, rfl⟩ := Option.map_eq_some_iff.1 hl
      have vx := lowerArg_sound hx hs
      simp only [LVal.sem] at hsem
      have hrun : ∀ (a : Option Addr) (len cap : Nat) (l h' m : Int), act.eval x = .slice a len cap → 
        bval sl 0 llo = some l → bval sl len lhi = some h' → bval sl len lmx = some m → 0 ≤ l → l ≤ h' → h' ≤ m → m ≤ len → (lhi.isNone = true → lmx.isNone = true) → len ≤ cap →
        (execOp act.eval o).run P K.w = .ok (.value (.slice (if (if lmx.isSome then m.toNat else cap) = l.toNat then a else a.map (·.add (l.toNat * ke.size))) (h'.toNat - l.toNat) ((if lmx.isSome then m.toNat else cap) - l.toNat))) K.w := by
        intro a len cap l h' m hc b1 b2 b3 l0 l1 l2 l3 l4 hcap
        have hsz := run_sizeOf hke K.w
        have hb := hb true len cap llo lhi lmx l h' m hlo hhi hmx b1 b2 b3 l0 l1 l2 l3 l4 hcap
        simp only [execOp, hop, Instr.sliceAt, Sem.run_bind, run_underlying hu, Result.andThen_ok, hc, Instr.slice, hb, hsz, Sem.run_pure]
      have hog : ∀ (o : Option Operand) (lo : Option LArg) (d n : Int), lowerOpt P o = some lo → bval sl d lo = some n → (lo = none ∧ ogive sl lo = none ∧ n = d) ∨ (lo.isSome = true ∧ ogive sl lo = some n) := by
        intro o lo d n h1 h2
        rcases bnd o lo d n h1 h2 with ⟨_, rfl, h3⟩ | ⟨x, l, k, _, rfl, _, h3⟩
        · exact .inl ⟨rfl, rfl, h3⟩
        · exact .inr ⟨rfl, h3⟩
      split at hsem
      · rename_i k' own es he
        split at hsem
        · rename_i l h' m b1 b2 b3
          obtain ⟨rfl, l0, l1, l2, l3, l4, hR⟩ := hsem
          rw [he] at vx
          generalize hcv : act.eval x = cv at vx
          have hlen : ((es.take h'.toNat).drop l.toNat).length = h'.toNat - l.toNat := by simp; omega
          cases vx with
          | slnil =>
            have hz : l = 0 ∧ h' = 0 ∧ m = 0 := by simp at l3; omega
            refine ⟨_, _, hrun none 0 0 l h' m hcv b1 b2 b3 l0 l1 l2 l3 l4 (Nat.le_refl _), ?_, hR⟩
            obtain ⟨rfl, rfl, rfl⟩ := hz
            simpa [cutOwn, cutE_nil] using VR.slnil (K := K) k'
          | slz _ ad =>
            have hz : l = 0 ∧ h' = 0 ∧ m = 0 := by simp at l3; omega
            refine ⟨_, _, hrun (some ad) 0 0 l h' m hcv b1 b2 b3 l0 l1 l2 l3 l4 (Nat.le_refl _), ?_, hR⟩
            obtain ⟨rfl, rfl, rfl⟩ := hz
            simpa [cutE_free_nil] using VR.slz (K := K) k' ad
          | sl _ _ _ b off cap f hb' hfit hcell hst hv hcap hnil hfull htok =>
            refine ⟨_, _, hrun _ es.length cap l h' m hcv b1 b2 b3 l0 l1 l2 l3 l4 hcap, ?_, hR⟩
            refine VR.cutE hnil ?_
            have hnc : ∃ nc, (if lmx.isSome then m.toNat else cap) = nc ∧ h'.toNat ≤ nc ∧ nc ≤ cap ∧ cutOwn own (ogive sl lhi) (ogive sl lmx) ≠ .nil ∧ (cutOwn own (ogive sl lhi) (ogive sl lmx) = .full → nc = h'.toNat) ∧ ∀ n, cutOwn own (ogive sl lhi) (ogive sl lmx) = .tok n → own = .tok n ∧ nc = cap ∧ h'.toNat = es.length := by
              refine ⟨_, rfl, ?_⟩
              rcases hog mx lmx _ _ hmx b3 with ⟨e1, e2, e3⟩ | ⟨e1, e2⟩
              · subst e1
                rcases hog hi lhi _ _ hhi b2 with ⟨f1, f2, f3⟩ | ⟨f1, f2⟩
                · subst f1
                  have ec : cutOwn own (ogive sl none) (ogive sl none) = own := by cases own <;> rfl
                  rw [ec]
                  simp only [Option.isSome_none, Bool.false_eq_true, if_false]
                  exact ⟨by omega, Nat.le_refl _, hnil, fun h => by rw [hfull h]; omega, fun n h => ⟨h, trivial, by omega⟩⟩
                · have ec : cutOwn own (ogive sl lhi) (ogive sl none) = .free := by
                    rw [f2]
                    cases own <;> first | rfl | exact absurd rfl hnil
                  rw [ec]
                  simp only [Option.isSome_none, Bool.false_eq_true, if_false]
                  exact ⟨by omega, Nat.le_refl _, by simp, by simp, by simp⟩
              · rcases hog hi lhi _ _ hhi b2 with ⟨f1, f2, f3⟩ | ⟨f1, f2⟩
                · subst f1
                  have := l4 rfl
                  simp_all
                · have ec : cutOwn own (ogive sl lhi) (ogive sl lmx) = if h' = m then .full else .free := by
                    rw [f2, e2]
                    cases own <;> first | rfl | exact absurd rfl hnil
                  rw [ec]
                  rw [if_pos e1]
                  refine ⟨by omega, by omega, by split <;> simp, fun h => ?_, fun n h => by split at h <;> cases h⟩
                  split at h
                  · rename_i e; rw [e]
                  · cases h
            obtain ⟨nc, hnc, n1, n2, n3, n4, n5⟩ := hnc
            rw [hnc, ← hlen]
            have sz : ∀ j, j < ((es.take h'.toNat).drop l.toNat).length * k'.size → l.toNat * k'.size + j < es.length * k'.size := by
              intro j hj
              rw [hlen] at hj
              have h1 : l.toNat * k'.size + (h'.toNat - l.toNat) * k'.size = h'.toNat * k'.size := by rw [← Nat.add_mul]; congr 1; omega
              have h2 : h'.toNat * k'.size ≤ es.length * k'.size := Nat.mul_le_mul_right _ (by omega)
              omega
            have hget : ∀ i, i < ((es.take h'.toNat).drop l.toNat).length → ((es.take h'.toNat).drop l.toNat).getD i V.undef = es.getD (l.toNat + i) V.undef := by
              intro i hi
              rw [hlen] at hi
              simp only [List.getD_eq_getElem?_getD, List.getElem?_drop, List.getElem?_take]
              rw [if_pos (by omega)]
            by_cases hcl : nc = l.toNat
            · rw [if_pos hcl]
              have h0 : ((es.take h'.toNat).drop l.toNat).length = 0 := by omega
              refine VR.sl k' _ _ b off _ f hb' (fun e he => hfit e (List.mem_of_mem_take (List.mem_of_mem_drop he))) (fun j hj => by rw [h0] at hj; simp at hj) (fun j hj => by rw [h0] at hj; simp at hj) (fun i hi => by rw [h0] at hi; exact absurd hi (by omega)) (by omega) n3 (fun _ => by omega) (fun n hn => ?_)
              obtain ⟨o1, o2, o3⟩ := n5 n hn
              exact ⟨(htok n o1).1, .inl (by omega)⟩
            · rw [if_neg hcl]
              have hadd : (Option.map (fun a : Addr => a.add (l.toNat * k'.size)) (some ⟨b, off, none⟩)) = some ⟨b, off + l.toNat * k'.size, none⟩ := by simp only [Option.map_some, add_plain]
              rw [hadd]
              refine VR.sl k' _ _ b (off + l.toNat * k'.size) _ (fun j => f (l.toNat * k'.size + j)) hb' (fun e he => hfit e (List.mem_of_mem_take (List.mem_of_mem_drop he))) (fun j hj => ?_) (fun j hj => ?_) (fun i hi j hj => ?_) (by omega) n3 (fun h => by have := n4 h; omega) (fun n hn => ?_)
              · rw [Nat.add_assoc]; exact hcell _ (sz j hj)
              · rw [Nat.add_assoc]; exact hst _ (sz j hj)
              · rw [hget i hi]
                have := hv (l.toNat + i) (by omega) j hj
                rw [Nat.add_mul, Nat.add_assoc] at this
                exact this
              · obtain ⟨o1, o2, o3⟩ := n5 n hn
                obtain ⟨t1, t2⟩ := htok n o1
                refine ⟨t1, ?_⟩
                rcases t2 with t2 | ⟨t2, t3, T, mm, t4, t5⟩
                · exact .inl (by omega)
                · refine .inr ⟨t2, ?_, T, mm, t4, ?_⟩
                  · rw [t3, hlen, o3, Nat.add_assoc, ← Nat.add_mul]
                    congr 2
                    omega
                  · rw [o2, Nat.add_assoc, ← Nat.add_mul]
                    have : l.toNat + (cap - l.toNat) = cap := by omega
                    rw [this]
                    exact t5
        · exact hsem.elim
      · rename_i n k' off ln he
        split at hsem
        · rename_i l h' b1 b2 _ _ _ _
          obtain ⟨rfl, l0, l1, l2, hR⟩ := hsem
          rw [he] at vx
          generalize hcv : act.eval x = cv at vx
          cases vx with
          | rs _ _ _ _ cap hn hcap hm =>
            refine ⟨_, _, hrun _ ln cap l h' ln hcv b1 b2 rfl l0 l1 l2 (Int.le_refl _) (fun _ => rfl) hcap, ?_, hR⟩
            simp only [Option.isSome_none, Bool.false_eq_true, if_false]
            obtain ⟨T, mm, hsh, hmm⟩ := hm
            have hlt : K.mu n < K.w.heap.size := by
              unfold World.shape? at hsh
              rcases Nat.lt_or_ge (K.mu n) K.w.heap.size with hlt | hge
              · exact hlt
              · rw [Array.getElem?_eq_none hge] at hsh; exact absurd hsh (by simp)
            have hadd : (Option.map (fun a : Addr => a.add (l.toNat * k'.size)) (some ⟨K.mu n, off * k'.size, none⟩)) = some ⟨K.mu n, (off + l.toNat) * k'.size, none⟩ := by simp only [Option.map_some, add_plain, Nat.add_mul]
            by_cases hc1 : l.toNat = ln ∧ l.toNat ≠ 0
            · rw [if_pos hc1]
              have e0 : h'.toNat - l.toNat = 0 := by omega
              rw [e0]
              have : ∀ o, VR K (.sl k' .free []) (.slice (some ⟨K.mu n, o, none⟩) 0 (cap - l.toNat)) := fun o =>
                VR.sl k' .free [] (K.mu n) o (cap - l.toNat) (fun _ => Go.undef) hlt (by simp) (by simp) (by simp) (by simp) (by simp) (by simp) (by simp) (by simp)
              split
              · exact this _
              · rw [hadd]; exact this _
            · rw [if_neg hc1]
              split
              · rename_i e
                have : l.toNat = 0 := by omega
                rw [this]
                exact VR.rs n k' off (h'.toNat - 0) (cap - 0) hn (by omega) ⟨T, mm, hsh, hmm⟩
              · rw [hadd]
                refine VR.rs n k' (off + l.toNat) (h'.toNat - l.toNat) (cap - l.toNat) hn (by omega) ⟨T, mm, hsh, ?_⟩
                have : off + l.toNat + (cap - l.toNat) = off + cap := by omega
                rw [this]; exact hmm
        · exact hsem.elim
      · exact hsem.elim
    · rename_i hu
      split at hl
      · simp at hl
      · rename_i hmn
        obtain ⟨lx, hx, hl⟩ := Option.bind_eq_some_iff.1 hl
        obtain ⟨llo, hlo, hl⟩ := Option.bind_eq_some_iff.1 hl
        obtain ⟨lhi, hhi, rfl⟩ := Option.map_eq_some_iff.1 hl
        have vx := lowerArg_sound hx hs
        have hmn : mx = none := by simpa using hmn
        simp only [LVal.sem] at hsem
        split at hsem
        · rename_i s he
          split at hsem
          · rename_i l h' b1 b2
            obtain ⟨l0, l1, l2, hR⟩ := hsem
            rw [he] at vx
            generalize hcv : act.eval x = cv at vx
            cases vx
            have hb := hb false s.size s.size llo lhi none l h' s.size hlo hhi (by rw [hmn]; rfl) b1 b2 rfl l0 l1 l2 (Int.le_refl _) (fun _ => rfl) (Nat.le_refl _)
            subst hmn
            simp only [Option.map_none] at hb
            exact ⟨_, _, by simp only [execOp, hop, Instr.sliceAt, Sem.run_bind, run_underlying hu, Result.andThen_ok, hcv, Instr.slice, Option.map_none, Option.isSome_none, Bool.false_eq_true, if_false, hb, Sem.run_pure], .str _, hR⟩
          · exact hsem.elim
        · exact hsem.elim
    · simp at hl
  case h_17 args ts hop =>
    split at hl
    · rename_i x t hxs hts
      have ha : args = #[x] := by apply Array.ext'; simpa using hxs
      have ht : ts = #[t] := by apply Array.ext'; simpa using hts
      subst ha ht
      split at hl
      · rename_i e hu
        obtain ⟨lx, hx, rfl⟩ := Option.map_eq_some_iff.1 hl
        have vx := lowerArg_sound hx hs
        simp only [LVal.sem] at hsem
        split at hsem
        · rename_i k own es he
          rw [he] at vx
          generalize hcv : act.eval x = cv at vx
          cases vx <;> exact ⟨_, _, by simp [execOp, hop, resolve, invoke, builtin, Builtin.len_, hcv, run_underlying hu, goInt], .int _ _, hsem⟩
        · rename_i n k off ln he
          rw [he] at vx
          generalize hcv : act.eval x = cv at vx
          cases vx
          exact ⟨_, _, by simp [execOp, hop, resolve, invoke, builtin, Builtin.len_, hcv, run_underlying hu, goInt], .int _ _, hsem⟩
        · exact hsem.elim
      · rename_i hu
        obtain ⟨lx, hx, rfl⟩ := Option.map_eq_some_iff.1 hl
        have vx := lowerArg_sound hx hs
        simp only [LVal.sem] at hsem
        split at hsem
        · rename_i s he
          rw [he] at vx
          generalize hcv : act.eval x = cv at vx
          cases vx
          exact ⟨_, _, by simp [execOp, hop, resolve, invoke, builtin, Builtin.len_, hcv, run_underlying hu, goInt], .int _ _, hsem⟩
        · exact hsem.elim
      · simp at hl
    · simp at hl
  case h_18 t parts hop =>
    split at hl
    · rename_i fs z hu hz
      split at hl
      · rename_i zs hzs
        split at hl
        · rename_i hck
          obtain ⟨lp, hlp, rfl⟩ := Option.map_eq_some_iff.1 hl
          simp only [Bool.and_eq_true, List.all_eq_true] at hck
          obtain ⟨hfit, hR⟩ := hsem
          have vz := absV_sound hzs K
          obtain ⟨it, hit, hiz⟩ := Option.bind_eq_some_iff.1 hz
          have hpl : fs.toList.mapM (fun f => (P.info? f.type).map fun i => (f.offset, i.size)) = some (fs.toList.map fun f => (f.offset, ((shOf P f.type).map Sh.size).getD 0)) := by
            have : ∀ l : List Field, (∀ f ∈ l, (shOf P f.type).isSome = true) → l.mapM (fun f => (P.info? f.type).map fun i => (f.offset, i.size)) = some (l.map fun f => (f.offset, ((shOf P f.type).map Sh.size).getD 0)) := by
              intro l
              induction l with
              | nil => intro _; rfl
              | cons f l ih =>
                intro hl
                obtain ⟨k, hk⟩ := Option.isSome_iff_exists.1 (hl f (by simp))
                obtain ⟨i, d, hi, hd, hsz, _⟩ := shOf_some hk
                simp [List.mapM_cons, hi, ih (fun f hf => hl f (by simp [hf])), hk, hsz]
            exact this _ hck.2
          cases vz with
          | agg _ cz hlen hv =>
            obtain ⟨cz', q1, q2⟩ := fill_sound hs (fs.toList.map fun f => (f.offset, ((shOf P f.type).map Sh.size).getD 0)).toArray (fun i f k hf hk => by
              have : fs.toList[i]? = some f := by simpa using hf
              simp [hf, hk]) zs.length parts.toList lp zs cz hlp rfl hlen.symm hv hfit
            refine ⟨_, _, ?_, q2, hR⟩
            have hb : P.built t (parts.map fun (i, x) => (i, act.eval x)).toList = some cz' := by
              unfold Program.built
              simp only [hit, hu, hiz, hpl]
              have hcc : (Value.agg cz).cells = cz := rfl
              rw [hcc]
              simpa using q1
            simp only [execOp, hop, Sem.run_bind, run_build K.w t _ cz' hb, Result.andThen_ok, Sem.run_pure]
        · simp at hl
      · simp at hl
    · simp at hl
  case h_19 x hop =>
    injection hl with hl
    subst hl
    exact hsem.elim
  case h_20 args ts hop =>
    split at hl
    · rename_i x t hxs hts
      have ha : args = #[x] := by apply Array.ext'; simpa using hxs
      have ht : ts = #[t] := by apply Array.ext'; simpa using hts
      subst ha ht
      split at hl
      · rename_i e hu
        obtain ⟨lx, hx, rfl⟩ := Option.map_eq_some_iff.1 hl
        have vx := lowerArg_sound hx hs
        simp only [LVal.sem] at hsem
        split at hsem
        · rename_i k es he
          rw [he] at vx
          generalize hcv : act.eval x = cv at vx
          cases vx with
          | slnil => exact ⟨_, _, by simp [execOp, hop, resolve, invoke, builtin, Builtin.cap_, hcv, run_underlying hu, goInt], .int _ _, hsem⟩
          | sl _ _ _ b off cap f hb' hfit' hcell hst hv hcap hnil hfull htok => exact absurd rfl hnil
        · rename_i k es he
          rw [he] at vx
          generalize hcv : act.eval x = cv at vx
          cases vx with
          | sl _ _ _ b off cap f hb' hfit' hcell hst hv hcap hnil hfull htok =>
            have hc := hfull rfl
            subst hc
            exact ⟨_, _, by simp [execOp, hop, resolve, invoke, builtin, Builtin.cap_, hcv, run_underlying hu, goInt], .int _ _, hsem⟩
        · exact hsem.elim
      · simp at hl
    · simp at hl
  case h_21 args ts hop =>
    split at hl
    · rename_i x y hxs
      have ha : args = #[x, y] := by apply Array.ext'; simpa using hxs
      subst ha
      obtain ⟨lx, hx, hl⟩ := Option.bind_eq_some_iff.1 hl
      obtain ⟨ly, hy, rfl⟩ := Option.map_eq_some_iff.1 hl
      have vx := lowerArg_sound hx hs
      have vy := lowerArg_sound hy hs
      simp only [LVal.sem] at hsem
      split at hsem
      · rename_i k a k' b he he'
        obtain ⟨rfl, hsem⟩ := hsem
        rw [he] at vx
        rw [he'] at vy
        generalize hcv : act.eval x = cv at vx
        generalize hcu : act.eval y = cu at vy
        cases vx
        cases vy
        exact ⟨_, _, by simp [execOp, hop, resolve, invoke, builtin, Builtin.min_, Builtin.min2, hcv, hcu]; rfl, .int _ _, hsem⟩
      · exact hsem.elim
    · simp at hl
  case h_22 args ts hop =>
    split at hl
    · rename_i x y hxs
      have ha : args = #[x, y] := by apply Array.ext'; simpa using hxs
      subst ha
      obtain ⟨lx, hx, hl⟩ := Option.bind_eq_some_iff.1 hl
      obtain ⟨ly, hy, rfl⟩ := Option.map_eq_some_iff.1 hl
      have vx := lowerArg_sound hx hs
      have vy := lowerArg_sound hy hs
      simp only [LVal.sem] at hsem
      split at hsem
      · rename_i k a k' b he he'
        obtain ⟨rfl, hsem⟩ := hsem
        rw [he] at vx
        rw [he'] at vy
        generalize hcv : act.eval x = cv at vx
        generalize hcu : act.eval y = cu at vy
        cases vx
        cases vy
        exact ⟨_, _, by simp [execOp, hop, resolve, invoke, builtin, Builtin.max_, Builtin.max2, hcv, hcu]; rfl, .int _ _, hsem⟩
      · exact hsem.elim
    · simp at hl
  case h_23 x xt t hop =>
    split at hl
    · simp at hl
    · rename_i d z hd1 hd hz
      obtain ⟨vz, hvz, hl⟩ := Option.bind_eq_some_iff.1 hl
      obtain ⟨lx, hx, rfl⟩ := Option.map_eq_some_iff.1 hl
      obtain ⟨i, hi, hz⟩ := Option.bind_eq_some_iff.1 hz
      have vx := lowerArg_sound hx hs
      have hzr := absV_sound hvz K
      have hzv : (zeroValue t).run P K.w = .ok z K.w := by simp [zeroValue, typeInfo, hi, hz]
      have two : ∀ (v : V) (cv : Value) (b : Bool), VR K v cv → VR K (.tup [v, .bool b]) (.tuple #[cv, .bool b]) := fun v cv b h => .tup _ _ rfl fun i hi => by
        match i, hi with
        | 0, _ => exact h
        | 1, _ => exact .bool b
      simp only [LVal.sem] at hsem
      split at hsem
      · rename_i t' v he
        rw [he] at vx
        generalize hcv : act.eval x = cv at vx
        cases vx with
        | iface _ _ cv h =>
          by_cases e : t' = t
          · subst e
            simp only [if_true, decide_true] at hsem
            refine ⟨_, _, ?_, two _ _ true h, hsem⟩
            simp only [execOp, hop, hcv, Instr.typeAssert, Sem.run_bind, run_underlying hd, Result.andThen_ok]
            cases d <;> first | (simp; done) | (exfalso; exact hd1 _ hd) | (exfalso; exact hd1 _ rfl)
          · simp only [if_neg e, decide_eq_false e] at hsem
            refine ⟨_, _, ?_, two _ _ false hzr, hsem⟩
            simp only [execOp, hop, hcv, Instr.typeAssert, Sem.run_bind, run_underlying hd, Result.andThen_ok]
            cases d <;> first | (simp [e, hzv]; done) | (exfalso; exact hd1 _ hd) | (exfalso; exact hd1 _ rfl)
      · rename_i he
        rw [he] at vx
        generalize hcv : act.eval x = cv at vx
        cases vx
        refine ⟨_, _, ?_, two _ _ false hzr, hsem⟩
        simp only [execOp, hop, hcv, Instr.typeAssert, Sem.run_bind, run_underlying hd, Result.andThen_ok]
        cases d <;> first | (simp [hzv]; done) | (exfalso; exact hd1 _ hd) | (exfalso; exact hd1 _ rfl)
      · exact hsem.elim
    · simp at hl
  case h_24 x xt t hop =>
    split at hl
    · simp at hl
    · rename_i d hd1 hd
      obtain ⟨lx, hx, rfl⟩ := Option.map_eq_some_iff.1 hl
      have vx := lowerArg_sound hx hs
      simp only [LVal.sem] at hsem
      split at hsem
      · rename_i t' v he
        obtain ⟨rfl, hsem⟩ := hsem
        rw [he] at vx
        generalize hcv : act.eval x = cv at vx
        cases vx with
        | iface _ _ cv h =>
          refine ⟨_, _, ?_, h, hsem⟩
          simp only [execOp, hop, hcv, Instr.typeAssert, Sem.run_bind, run_underlying hd, Result.andThen_ok]
          cases d <;> first | (simp; done) | (exfalso; exact hd1 _ hd) | (exfalso; exact hd1 _ rfl)
      · exact hsem.elim
    · simp at hl
  case h_25 => simp at hl

end
end Go.Proofs.Ythcedfamidlbdaa
