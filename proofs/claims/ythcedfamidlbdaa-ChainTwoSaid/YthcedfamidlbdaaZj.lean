/-
The abstract layer, tenth part: append. No program in sight. No conditions.
-/
import Derived.Test.YthcedfamidlbdaaZi
namespace Go.Proofs.Ythcedfamidlbdaa
set_option linter.unusedSimpArgs false
set_option linter.unusedVariables false
set_option linter.unusedSectionVars false
open Go.RowKit

def appOwn (a : Nat) (own : Own) (ys : List V) : Own :=
  match own with
  | .nil => if ys.isEmpty then .nil else .tok a
  | .full => if ys.isEmpty then .full else .tok a
  | .tok _ => .tok a
  | .free => .free
def appHp (h : Hp) (a : Nat) (own : Own) (ys : List V) : Hp :=
  match own with
  | .nil => if ys.isEmpty then h else h.set a .tip
  | .full => if ys.isEmpty then h else h.set a .tip
  | .tok n => (h.del n).set a .tip
  | .free => h

/-- A slice whose elements are these. -/
def SlCells (K : Ker) (k : Sh) (es : List V) (cv : Value) : Prop := ∃ a cap, cv = .slice a es.length cap ∧ es.length ≤ cap ∧ (∀ e ∈ es, e.fits k = true) ∧ ∃ f : Nat → Value,
    (∀ j, j < es.length * k.size → ∃ ad, a = some ad ∧ K.w.cell? (ad.add j) = some (f j)) ∧ (∀ j, j < es.length * k.size → (f j).oneCell' = true) ∧
    ∀ i, i < es.length → ∀ j, j < k.size → VR K ((es.getD i V.undef).cell j) (f (i * k.size + j))

theorem cells_one {K : Ker} {k : Sh} {es : List V} (hfit : ∀ e ∈ es, e.fits k = true) {f : Nat → Value} (hv : ∀ i, i < es.length → ∀ j, j < k.size → VR K ((es.getD i V.undef).cell j) (f (i * k.size + j))) : ∀ j, j < es.length * k.size → (f j).oneCell' = true := by
  intro j hj
  obtain ⟨h1, h2, h3⟩ := div_split hj
  have := hv (j / k.size) h1 (j % k.size) h2
  rw [h3] at this
  have hmem : es.getD (j / k.size) V.undef ∈ es := by
    rw [List.getD_eq_getElem?_getD, List.getElem?_eq_getElem h1]; exact List.getElem_mem _
  refine this.oneCell ?_
  have hf := hfit _ hmem
  cases k with
  | leaf =>
    have : j % Sh.leaf.size = 0 := by simp [Sh.size, Nat.mod_one]
    rw [this]
    simp only [V.fits] at hf
    generalize es.getD (j / Sh.leaf.size) V.undef = e at hf
    cases e <;> first | rfl | (simp [V.leafy] at hf)
  | agg n =>
    generalize es.getD (j / (Sh.agg n).size) V.undef = e at hf
    cases e <;> simp [V.fits] at hf
    rename_i cs
    show ((cs).getD (j % (Sh.agg n).size) V.undef).leafy = true
    have hlt : j % (Sh.agg n).size < cs.length := by rw [hf.1]; exact h2
    rw [List.getD_eq_getElem?_getD, List.getElem?_eq_getElem hlt]
    exact hf.2 _ (List.getElem_mem _)

/-- The cells of a slice's elements, in the machine's memory. -/
theorem sl_cells {K : Ker} {k : Sh} {own : Own} {es : List V} {cv : Value} (r : VR K (.sl k own es) cv) : SlCells K k es cv := by
  cases r with
  | slnil => exact ⟨none, 0, rfl, Nat.le_refl _, fun e he => absurd he (by simp), fun _ => Go.undef, fun j hj => by simp at hj, fun j hj => by simp at hj, fun i hi => by simp at hi⟩
  | slz _ ad => exact ⟨some ad, 0, rfl, Nat.le_refl _, fun e he => absurd he (by simp), fun _ => Go.undef, fun j hj => by simp at hj, fun j hj => by simp at hj, fun i hi => by simp at hi⟩
  | sl _ _ _ b off cap f hb hfit hcell hst hv hcap hnil hfull htok =>
    exact ⟨some ⟨b, off, none⟩, cap, rfl, hcap, hfit, f, fun j hj => ⟨_, rfl, by rw [add_plain]; exact hcell j hj⟩, cells_one hfit hv, hv⟩

/-- The elements of a slice, of whichever kind. -/
def selems (h : Hp) : V → Option (Sh × List V)
  | .sl k _ es => some (k, es)
  | .rs n k off len => match h n with
    | some (.arr k' es) => if k' = k ∧ off + len ≤ es.length then some (k, (es.drop off).take len) else none
    | _ => none
  | _ => none

theorem selems_cells {K : Ker} {h : Hp} (hr : Rel K h) {v : V} {cv : Value} (r : VR K v cv) {k : Sh} {es : List V} (he : selems h v = some (k, es)) : SlCells K k es cv := by
  cases v with
  | sl k' own es' => simp only [selems, Option.some.injEq, Prod.mk.injEq] at he; obtain ⟨rfl, rfl⟩ := he; exact sl_cells r
  | rs n k' off len =>
    simp only [selems] at he
    cases hn : h n with
    | none => simp [hn] at he
    | some b => cases b with
      | tip => simp [hn] at he
      | obj o _ => simp [hn] at he
      | arr k2 es2 =>
        rw [hn] at he
        simp only at he
        split at he
        · rename_i hc
          obtain ⟨rfl, hle⟩ := hc
          simp only [Option.some.injEq, Prod.mk.injEq] at he
          obtain ⟨rfl, rfl⟩ := he
          have hb := hr.blk n _ hn
          cases hb with
          | arr _ _ c T hh hsz himm hfit hv =>
            cases r with
            | rs _ _ _ _ cap hl hcap hm =>
              have hlen : ((es2.drop off).take len).length = len := by simp; omega
              have hfit' : ∀ e ∈ (es2.drop off).take len, e.fits k2 = true := fun e he => hfit e (List.mem_of_mem_drop (List.mem_of_mem_take he))
              have hget : ∀ i, i < len → ((es2.drop off).take len).getD i V.undef = es2.getD (off + i) V.undef := fun i hi => by
                simp only [List.getD_eq_getElem?_getD, List.getElem?_take, if_pos hi, List.getElem?_drop]
              have hv' : ∀ i, i < ((es2.drop off).take len).length → ∀ j, j < k2.size → VR K ((((es2.drop off).take len).getD i V.undef).cell j) ((fun j => c.getD (off * k2.size + j) Go.undef) (i * k2.size + j)) := by
                intro i hi j hj
                rw [hlen] at hi
                rw [hget i hi]
                have := hv (off + i) (by omega) j hj
                have e : (off + i) * k2.size + j = off * k2.size + (i * k2.size + j) := by rw [Nat.add_mul]; omega
                rw [e] at this
                exact this
              refine ⟨some ⟨K.mu n, off * k2.size, none⟩, cap, by rw [hlen], by rw [hlen]; exact hcap, hfit', fun j => c.getD (off * k2.size + j) Go.undef, ?_, cells_one hfit' hv', hv'⟩
              intro j hj
              rw [hlen] at hj
              refine ⟨_, rfl, ?_⟩
              rw [add_plain]
              have : (off + len) * k2.size ≤ es2.length * k2.size := Nat.mul_le_mul_right _ hle
              rw [Nat.add_mul] at this
              simp only [World.cell?, hh]
              rw [Array.getD_eq_getD_getElem?, Array.getElem?_eq_getElem (by omega)]
              rfl
        · simp at he
  | _ => simp [selems] at he

theorem fits_append {k : Sh} {xs ys : List V} (hx : ∀ e ∈ xs, e.fits k = true) (hy : ∀ e ∈ ys, e.fits k = true) : ∀ e ∈ xs ++ ys, e.fits k = true := fun e he => by
  rcases List.mem_append.1 he with h | h
  · exact hx e h
  · exact hy e h

/-- The values of two rows one behind the other. -/
theorem rows_append {K : Ker} {k : Sh} {xs ys : List V} {f g : Nat → Value} {c : Nat → Value} (hx : ∀ i, i < xs.length → ∀ j, j < k.size → VR K ((xs.getD i V.undef).cell j) (f (i * k.size + j)))
    (hy : ∀ i, i < ys.length → ∀ j, j < k.size → VR K ((ys.getD i V.undef).cell j) (g (i * k.size + j)))
    (hf : ∀ j, j < xs.length * k.size → c j = f j) (hg : ∀ j, j < ys.length * k.size → c (xs.length * k.size + j) = g j) :
    ∀ i, i < (xs ++ ys).length → ∀ j, j < k.size → VR K (((xs ++ ys).getD i V.undef).cell j) (c (i * k.size + j)) := by
  intro i hi j hj
  rw [List.length_append] at hi
  by_cases e : i < xs.length
  · have e1 : (xs ++ ys).getD i V.undef = xs.getD i V.undef := by simp only [List.getD_eq_getElem?_getD]; rw [List.getElem?_append_left e]
    rw [e1, hf _ (idx_split hj e)]
    exact hx i e j hj
  · have e1 : (xs ++ ys).getD i V.undef = ys.getD (i - xs.length) V.undef := by simp only [List.getD_eq_getElem?_getD]; rw [List.getElem?_append_right (by omega)]
    have e2 : i * k.size + j = xs.length * k.size + ((i - xs.length) * k.size + j) := by
      rw [← Nat.add_assoc, ← Nat.add_mul]
      congr 2
      omega
    rw [e1, e2, hg _ (idx_split hj (by omega))]
    exact hy _ (by omega) j hj

theorem append_yields {P : Program} {K : Ker} {h : Hp} (hr : Rel K h) {a : Nat} (ha : ¬ K.live a) {k : Sh} {t e : TypeId} {i : TypeInfo} {z : Value} (ht : P.underlying t = some (.slice e)) (hi : P.info? e = some i) (hz : i.zero = some z)
    (hsz : i.size = k.size) (hzs : z.cells.size = k.size) (hpos : 0 < k.size) {ty : TypeId} {own : Own} {xs ys : List V} {cx cy : Value} (hx : VR K (.sl k own xs) cx) (hy : SlCells K k ys cy)
    (hown : own ≠ .free) (htokn : ∀ n, own = .tok n → h n = some .tip) (hb : (xs.length + ys.length) * i.bytes ≤ 140737488355328) (hm : xs.length + ys.length ≤ 9223372036854775807) :
    ∃ cv K', (Builtin.append_ #[t, t] ty #[cx, cy]).run P K.w = .ok cv K'.w ∧ K.le K' ∧ (∀ n, K'.live n → K.live n ∨ n = a) ∧ VR K' (.sl k (appOwn a own ys) (xs ++ ys)) cv ∧ Rel K' (appHp h a own ys) := by
  obtain ⟨ay, capy, rfl, hcy, hfy, g, gc, gl, gv⟩ := hy
  obtain ⟨ax, capx, rfl, hcx, hfx, f, fc, fl, fv⟩ := sl_cells hx
  have hfit := fits_append hfx hfy
  have hnl : ((List.range (ys.length * k.size)).map g).length = ys.length * i.size := by simp [hsz]
  have hol : ((List.range (xs.length * k.size)).map f).length = xs.length * i.size := by simp [hsz]
  have hz2 : z.cells.size = i.size := by omega
  -- what is new, wherever it lies
  have grown : ∀ (K0 : Ker) (h0 : Hp) (w0 : World) (nc : Nat), K0.w = w0 → K.le K0 → (∀ n, K0.live n → K.live n) → Rel K0 h0 → xs.length + ys.length ≤ nc →
      ∃ K', K'.w = w0.alloc (.cells (((List.range (xs.length * k.size)).map f).toArray ++ ((List.range (ys.length * k.size)).map g).toArray ++ Builtin.zeroCells z.cells (nc - (xs.length + ys.length))) e) ∧ K.le K' ∧ (∀ n, K'.live n → K.live n ∨ n = a) ∧
        VR K' (.sl k (.tok a) (xs ++ ys)) (.slice (some ⟨w0.heap.size, 0, none⟩) (xs ++ ys).length nc) ∧ Rel K' (h0.set a .tip) := by
    intro K0 h0 w0 nc hw0 hle0 hl0 hr0 hnc
    subst hw0
    have hcs : ∀ j, j < (xs.length + ys.length) * k.size → (((List.range (xs.length * k.size)).map f).toArray ++ ((List.range (ys.length * k.size)).map g).toArray ++ Builtin.zeroCells z.cells (nc - (xs.length + ys.length))).getD j Go.undef = if j < xs.length * k.size then f j else g (j - xs.length * k.size) := by
      intro j hj
      rw [Nat.add_mul] at hj
      rw [Array.getD_eq_getD_getElem?, Array.getElem?_append_left (by simp; omega)]
      by_cases e : j < xs.length * k.size
      · rw [Array.getElem?_append_left (by simp; omega), if_pos e]
        simp [e]
      · rw [Array.getElem?_append_right (by simp; omega), if_neg e]
        have : j - xs.length * k.size < ys.length * k.size := by omega
        simp [this]
    obtain ⟨K', q1, q2, q3, q4, q5⟩ := newRow_yields (K := K0) (h := h0) hr0 (fun hl => ha (hl0 a hl)) (k := k) (es := xs ++ ys) hfit (((List.range (xs.length * k.size)).map f).toArray ++ ((List.range (ys.length * k.size)).map g).toArray ++ Builtin.zeroCells z.cells (nc - (xs.length + ys.length))) e nc (by simpa using hnc)
      (by
        simp only [Array.size_append, List.size_toArray, List.length_map, List.length_range, size_zeroCells, hzs]
        have : nc * k.size = (xs.length + ys.length) * k.size + (nc - (xs.length + ys.length)) * k.size := by rw [← Nat.add_mul]; congr 1; omega
        rw [this, Nat.add_mul]
        omega)
      (rows_append (f := f) (g := g) (fun i hi j hj => (fv i hi j hj).mono hle0) (fun i hi j hj => (gv i hi j hj).mono hle0) (c := fun j => (((List.range (xs.length * k.size)).map f).toArray ++ ((List.range (ys.length * k.size)).map g).toArray ++ Builtin.zeroCells z.cells (nc - (xs.length + ys.length))).getD j Go.undef)
        (fun j hj => by rw [hcs j (by rw [Nat.add_mul]; omega), if_pos hj])
        (fun j hj => by rw [hcs _ (by rw [Nat.add_mul]; omega), if_neg (by omega)]; congr 1; omega))
    exact ⟨K', q1, hle0.trans q2, fun n hn => (q3 n hn).imp (hl0 n) id, q4, q5⟩
  have hxe : xs = [] → ((List.range (xs.length * k.size)).map f).toArray = #[] := fun e => by subst e; simp
  by_cases hye : ys = []
  · -- nothing is appended
    subst hye
    have hrun : ∀ (b : Option Addr), (Builtin.append_ #[t, t] ty #[.slice b xs.length capx, .slice ay 0 capy]).run P K.w = .ok (.slice b xs.length capx) K.w := by
      intro b
      have h1 : xs.length ≤ capx := hcx
      cases ay <;> cases b <;> simp [Builtin.append_, run_underlying ht, sizeOf, typeInfo, hi, Builtin.lenOf, Builtin.firstCells, loadCells, loadCellsFrom, h1, storeCells]
    simp only [List.append_nil]
    cases hx with
    | slnil => exact ⟨_, K, hrun none, .refl K, fun n hn => .inl hn, by simpa [appOwn] using VR.slnil k, by simpa [appHp] using hr⟩
    | slz => exact absurd rfl hown
    | sl _ _ _ b off cap f' hb' hfit' hcell hst hv hcap hnil hfull htok =>
      cases own with
      | nil => exact absurd rfl hnil
      | free => exact absurd rfl hown
      | full => exact ⟨_, K, hrun _, .refl K, fun n hn => .inl hn, by simpa [appOwn] using VR.sl k .full xs b off capx f' hb' hfit' hcell hst hv hcap hnil hfull htok, by simpa [appHp] using hr⟩
      | tok n =>
        have htn := htokn n rfl
        obtain ⟨hln, htk⟩ := htok n rfl
        have hle := K.le_claim (b := K.mu n) (m := K.imm (K.mu n)) ha (Nat.le_refl _)
        refine ⟨_, K.claim a (K.mu n) (K.imm (K.mu n)), hrun _, hle, fun n hn => hn.symm, ?_, ?_⟩
        · refine .sl k (.tok a) xs b off capx f' hb' hfit' hcell (fun j hj => hle.still hb' (hst j hj)) (fun i hi j hj => (hv i hi j hj).mono hle) hcap (by simp) (by simp) ?_
          intro m hm
          injection hm with hm
          subst hm
          refine ⟨.inl rfl, ?_⟩
          rcases htk with q | ⟨q1, q2, q3⟩
          · exact .inl q
          · refine .inr ⟨by simp [Ker.claim, q1], ?_, q3⟩
            have hbr := hr.blk n _ htn
            cases hbr with
            | tip c T hh hi ht => simp [Ker.claim, hi, q2]
        · refine hr.claim htn ha (Nat.le_refl _) ?_
          have hbr := hr.blk n _ htn
          cases hbr with
          | tip c T hh hi ht => exact .tip c T (by simpa [Ker.claim] using hh) (by simp [Ker.claim]) (by simpa [Ker.claim, hi] using ht)
  · have hyl : 0 < ys.length := List.length_pos_iff.2 hye
    have hemp : ys.isEmpty = false := by cases ys with
      | nil => exact absurd rfl hye
      | cons _ _ => rfl
    obtain ⟨ady, hady⟩ : ∃ ad, ay = some ad := by
      obtain ⟨ad, h1, _⟩ := gc 0 (Nat.mul_pos hyl hpos)
      exact ⟨ad, h1⟩
    subst hady
    have hnews : ∀ j u, ((List.range (ys.length * k.size)).map g)[j]? = some u → K.w.cell? (ady.add j) = some u := by
      intro j u hju
      have hlt : j < ys.length * k.size := by
        have := (List.getElem?_eq_some_iff.1 hju).1
        simpa using this
      obtain ⟨ad, e1, e2⟩ := gc j hlt
      injection e1 with e1
      subst e1
      rw [e2]
      simp [hlt] at hju
      rw [hju]
    cases hx with
    | slz => exact absurd rfl hown
    | slnil =>
      have hrun := run_append_nil (P := P) K.w t ty e i z ht hi hz ady ys.length capy _ hnl hnews hyl (by simp at hm; omega) (by simp at hb; omega)
      obtain ⟨K', q1, q2, q3, q4, q5⟩ := grown K.drew h K.w.drew (grownCap K.w ys.length 0 e) rfl K.le_drew (fun n hn => hn) hr.drew (by have := grownCap_ge K.w ys.length 0 e; simpa using this)
      refine ⟨_, K', ?_, q2, q3, by simpa [appOwn, hemp] using q4, by simpa [appHp, hemp] using q5⟩
      rw [q1]
      rw [show ([] : List V).length = 0 from rfl, hrun]
      simp
    | sl _ _ _ b off cap f' hb' hfit' hcell hst hv hcap hnil hfull htok =>
      have holds : ∀ j u, ((List.range (xs.length * k.size)).map f)[j]? = some u → K.w.cell? ((⟨b, off, none⟩ : Addr).add j) = some u := by
        intro j u hju
        have hlt : j < xs.length * k.size := by
          have := (List.getElem?_eq_some_iff.1 hju).1
          simpa using this
        obtain ⟨ad, e1, e2⟩ := fc j hlt
        injection e1 with e1
        subst e1
        rw [e2]
        simp [hlt] at hju
        rw [hju]
      by_cases hroom : xs.length + ys.length ≤ capx
      · -- in place
        cases own with
        | nil => exact absurd rfl hnil
        | free => exact absurd rfl hown
        | full => have := hfull rfl; omega
        | tok n =>
          have htn := htokn n rfl
          obtain ⟨hln, htk⟩ := htok n rfl
          rcases htk with q | ⟨q1, q2, T, m, q4, q5⟩
          · omega
          · have q3 : ¬ K.fro b := by rw [← q1]; exact hr.base n _ htn
            have hbr := hr.blk n _ htn
            cases hbr with
            | tip c T' hh hi' ht' =>
              rw [q1] at hh hi'
              have hcs : m = c.size := by simp [World.shape?, hh] at q4; exact q4.2.symm
              subst hcs
              have hfitc : off + xs.length * k.size + ys.length * k.size ≤ c.size := by
                have : (xs.length + ys.length) * k.size ≤ capx * k.size := Nat.mul_le_mul_right _ hroom
                rw [Nat.add_mul] at this
                omega
              have hst' := run_storeCells_at P b (off + xs.length * k.size) T' ((List.range (ys.length * k.size)).map g) 0 c K.w hh (by simpa using hfitc) (by
                intro u hu
                obtain ⟨j, hj, rfl⟩ := List.mem_map.1 hu
                exact gl j (by simpa using hj))
              simp only [Nat.add_zero, List.length_map, List.length_range] at hst'
              generalize hc' : (c.toList.take (off + xs.length * k.size) ++ (List.range (ys.length * k.size)).map g ++ c.toList.drop (off + xs.length * k.size + ys.length * k.size)).toArray = c' at hst'
              have hcsz : c'.size = c.size := by rw [← hc']; simp; omega
              have hcl : ∀ j, j < off + xs.length * k.size → c'[j]? = c[j]? := by
                intro j hj
                rw [← hc']
                simp only [List.getElem?_toArray, List.append_assoc]
                rw [List.getElem?_append_left (by simp; omega), List.getElem?_take, if_pos hj]
                simp
              have hcr : ∀ j, j < ys.length * k.size → c'[off + xs.length * k.size + j]? = some (g j) := by
                intro j hj
                rw [← hc']
                simp only [List.getElem?_toArray, List.append_assoc]
                rw [List.getElem?_append_right (by simp; omega), List.getElem?_append_left (by simp; omega)]
                have : off + xs.length * k.size + j - (c.toList.take (off + xs.length * k.size)).length = j := by simp; omega
                rw [this]
                simp [hj]
              have himm : K.imm b = off + xs.length * k.size := by rw [hi', q2]
              have hle1 := K.le_row b c' c T' hh hcsz q3 (fun o ho => hcl o (by omega))
              have hrow := hr.row (b1 := .tip) htn c' c T' (by rw [q1]; exact hh) hcsz (fun o ho => hcl o (by rw [q1] at ho; omega)) (by
                rw [q1]
                exact .tip c' T' (by show (K.w.setRow b c').heap[K.mu n]? = _; rw [q1]; exact setRow_heap K.w b c c' T' (0, 0) hh) (by show K.imm (K.mu n) = K.tp n; rw [q1, himm, q2]) (by show K.tp n ≤ _; rw [hcsz]; omega))
              rw [q1] at hrow
              have hn1 : (h.set n .tip) n = some .tip := by simp [Hp.set]
              have hmu1 : (K.row b c').mu n = b := q1
              have hle2 := (K.row b c').le_claim (a := a) (b := b) (m := off + (xs.length + ys.length) * k.size) ha (by show K.imm b ≤ _; rw [himm, Nat.add_mul]; omega)
              have hcl2 := hrow.claim hn1 (a := a) (m := off + (xs.length + ys.length) * k.size) ha (by rw [hmu1]; show K.imm b ≤ _; rw [himm, Nat.add_mul]; omega) (b1 := .tip) (by
                rw [hmu1]
                refine .tip c' T' ?_ ?_ ?_
                · show (K.w.setRow b c').heap[if a = a then b else K.mu a]? = _
                  rw [if_pos rfl]
                  exact setRow_heap K.w b c c' T' (0, 0) hh
                · simp [Ker.claim]
                · simp only [Ker.claim, if_true]; rw [hcsz, Nat.add_mul]; omega)
              rw [hmu1] at hcl2
              have hdel : ((h.set n .tip).del n).set a .tip = (h.del n).set a .tip := by
                funext x
                unfold Hp.set Hp.del
                by_cases e1 : x = a
                · simp [e1]
                · by_cases e2 : x = n <;> simp [e1, e2]
              rw [hdel] at hcl2
              have hle := hle1.trans hle2
              have hsz2 : xs.length * i.size = xs.length * k.size := by rw [hsz]
              have hf := run_firstCells_some (P := P) K.w i.size ys.length ady ys.length capy _ hnl hnews
              refine ⟨.slice (some ⟨b, off, none⟩) (xs.length + ys.length) capx, (K.row b c').claim a b (off + (xs.length + ys.length) * k.size), ?_, hle, fun n hn => hn.symm, ?_, by simpa [appHp] using hcl2⟩
              · have had : (⟨b, off, none⟩ : Addr).add (xs.length * k.size) = ⟨b, off + xs.length * k.size, none⟩ := add_plain _ _ _
                simp only [hsz] at hf
                simp only [Builtin.append_, Sem.run_bind, run_underlying ht, Result.andThen_ok, sizeOf, typeInfo, hi, Builtin.lenOf, hroom, hf, hsz, had]
                simp [run_underlying ht, hroom, hf, hi, hsz, had, hst', Builtin.lenOf]
                rfl
              · have hres := VR.sl (K := (K.row b c').claim a b (off + (xs.length + ys.length) * k.size)) k (.tok a) (xs ++ ys) b off capx (fun j => c'.getD (off + j) Go.undef)
                  (by show b < (K.w.setRow b c').heap.size; rw [setRow_size]; exact hb') hfit
                  (fun j hj => by
                    show (K.w.setRow b c').cell? _ = _
                    simp only [World.cell?, setRow_heap K.w b c c' T' (0, 0) hh]
                    rw [List.length_append, Nat.add_mul] at hj
                    rw [Array.getD_eq_getD_getElem?, Array.getElem?_eq_getElem (by omega)]
                    rfl)
                  (fun j hj => .inr (by
                    show off + j < (if b = b then _ else _)
                    rw [if_pos rfl]
                    rw [List.length_append] at hj
                    omega))
                  (rows_append (f := f') (g := g) (fun i hi j hj => (hv i hi j hj).mono hle) (fun i hi j hj => (gv i hi j hj).mono hle) (c := fun j => c'.getD (off + j) Go.undef)
                    (fun j hj => by
                      have h1 := hcell j hj
                      simp only [World.cell?, hh] at h1
                      have h2 := hcl (off + j) (by omega)
                      simp only [Array.getD_eq_getD_getElem?, h2]
                      simp at h1
                      rw [h1]; rfl)
                    (fun j hj => by
                      have h2 := hcr j hj
                      simp only [Array.getD_eq_getD_getElem?, ← Nat.add_assoc, h2]
                      rfl))
                  (by simpa using hroom) (by simp) (by simp)
                  (fun n' hn' => by
                    injection hn' with hn'
                    subst hn'
                    refine ⟨.inl rfl, .inr ⟨by simp [Ker.claim], by simp [Ker.claim], T', c.size, ?_, q5⟩⟩
                    show (K.w.setRow b c').shape? b = _
                    simp only [World.shape?, setRow_heap K.w b c c' T' (0, 0) hh, hcsz])
                simpa [appOwn] using hres
      · -- it grows
        have hrun := run_append_grow (P := P) K.w t ty e i z ht hi hz ⟨b, off, none⟩ xs.length capx _ hol holds ady ys.length capy _ hnl hnews (by omega) (by omega) (growslice_fits (by omega) hb)
        have hd : ∀ n, own = .tok n → (h.del n).le h := fun n _ => h.del_le n
        have hne : own ≠ .nil := hnil
        have hge := grownCap_ge K.w (xs.length + ys.length) capx e
        cases own with
        | nil => exact absurd rfl hnil
        | free => exact absurd rfl hown
        | full =>
          obtain ⟨K', q1, q2, q3, q4, q5⟩ := grown K.drew h K.w.drew (grownCap K.w (xs.length + ys.length) capx e) rfl K.le_drew (fun n hn => hn) hr.drew hge
          exact ⟨_, K', by rw [q1]; exact hrun, q2, q3, by simpa [appOwn, hemp] using q4, by simpa [appHp, hemp] using q5⟩
        | tok n =>
          obtain ⟨K', q1, q2, q3, q4, q5⟩ := grown K.drew (h.del n) K.w.drew (grownCap K.w (xs.length + ys.length) capx e) rfl K.le_drew (fun n hn => hn) (hr.drew.weaken (h.del_le n)) hge
          exact ⟨_, K', by rw [q1]; exact hrun, q2, q3, by simpa [appOwn] using q4, by simpa [appHp] using q5⟩

/-- A fresh row that the code owns. -/
theorem ownRow_yields {K : Ker} {h : Hp} (hr : Rel K h) {a : Nat} (ha : ¬ K.live a) {k : Sh} {es : List V} (hf : ∀ e ∈ es, e.fits k = true) (c : Array Value) (e : TypeId) (cap : Nat) (hcap : es.length ≤ cap) (hsz : cap * k.size ≤ c.size)
    (hv : ∀ i, i < es.length → ∀ j, j < k.size → VR K ((es.getD i V.undef).cell j) (c.getD (i * k.size + j) Go.undef)) :
    ∃ K', K'.w = K.w.alloc (.cells c e) ∧ K.le K' ∧ (∀ n, K'.live n → K.live n ∨ n = a) ∧ VR K' (.rs a k 0 es.length) (.slice (some ⟨K.w.heap.size, 0, none⟩) es.length cap) ∧ Rel K' (h.set a (.arr k es)) := by
  have hle := K.le_push a ha (.cells c e) 0
  have hmu : (K.push a (.cells c e) 0).mu a = K.w.heap.size := by simp [Ker.push]
  have hlen : es.length * k.size ≤ cap * k.size := Nat.mul_le_mul_right _ hcap
  refine ⟨K.push a (.cells c e) 0, rfl, hle, fun n hn => hn.symm, ?_, ?_⟩
  · have := VR.rs (K := K.push a (.cells c e) 0) a k 0 es.length cap (.inl rfl) hcap ⟨e, c.size, by
      rw [hmu]
      show (K.w.alloc _).shape? _ = _
      simp only [World.shape?, alloc_heap_eq], by simpa using hsz⟩
    rw [hmu] at this
    simpa using this
  · refine hr.set_push ha _ _ (.arr k es c e ?_ (by omega) ?_ hf fun i hi j hj => (hv i hi j hj).mono hle)
    · rw [hmu]; exact alloc_heap_eq _ _
    · rw [hmu]; simp [Ker.push]

theorem cells_of {k : Sh} {xs ys : List V} {f g : Nat → Value} {z : Array Value} (hz : z.size = k.size) (nc : Nat) (hnc : xs.length + ys.length ≤ nc) :
    (((List.range (xs.length * k.size)).map f).toArray ++ ((List.range (ys.length * k.size)).map g).toArray ++ Builtin.zeroCells z (nc - (xs.length + ys.length))).size = nc * k.size ∧
    (∀ j, j < xs.length * k.size → (((List.range (xs.length * k.size)).map f).toArray ++ ((List.range (ys.length * k.size)).map g).toArray ++ Builtin.zeroCells z (nc - (xs.length + ys.length))).getD j Go.undef = f j) ∧
    ∀ j, j < ys.length * k.size → (((List.range (xs.length * k.size)).map f).toArray ++ ((List.range (ys.length * k.size)).map g).toArray ++ Builtin.zeroCells z (nc - (xs.length + ys.length))).getD (xs.length * k.size + j) Go.undef = g j := by
  refine ⟨?_, ?_, ?_⟩
  · simp only [Array.size_append, List.size_toArray, List.length_map, List.length_range, size_zeroCells, hz]
    have : nc * k.size = (xs.length + ys.length) * k.size + (nc - (xs.length + ys.length)) * k.size := by rw [← Nat.add_mul]; congr 1; omega
    rw [this, Nat.add_mul]
  · intro j hj
    rw [Array.getD_eq_getD_getElem?, Array.getElem?_append_left (by simp; omega), Array.getElem?_append_left (by simp; omega)]
    simp [hj]
  · intro j hj
    rw [Array.getD_eq_getD_getElem?, Array.getElem?_append_left (by simp; omega), Array.getElem?_append_right (by simp)]
    simp [hj]

/-- append to an array that the code owns whole; to nil, where what comes of it is to be owned. -/
theorem append_own_yields {P : Program} {K : Ker} {h : Hp} (hr : Rel K h) {a : Nat} (ha : ¬ K.live a) {k : Sh} {t e : TypeId} {i : TypeInfo} {z : Value} (ht : P.underlying t = some (.slice e)) (hi : P.info? e = some i) (hz : i.zero = some z)
    (hsz : i.size = k.size) (hzs : z.cells.size = k.size) (hpos : 0 < k.size) {ty : TypeId} {x : V} {xs ys : List V} {cx cy : Value} (hx : VR K x cx) (hy : SlCells K k ys cy) (hye : ys ≠ [])
    (hown : (x = .sl k .nil [] ∧ xs = []) ∨ ∃ n, x = .rs n k 0 xs.length ∧ h n = some (.arr k xs)) (hb : (xs.length + ys.length) * i.bytes ≤ 140737488355328) (hm : xs.length + ys.length ≤ 9223372036854775807) :
    ∃ cv K', (Builtin.append_ #[t, t] ty #[cx, cy]).run P K.w = .ok cv K'.w ∧ K.le K' ∧ (∀ n, K'.live n → K.live n ∨ n = a) ∧ VR K' (.rs a k 0 (xs.length + ys.length)) cv ∧ Rel K' ((match x with | .rs n _ _ _ => h.del n | _ => h).set a (.arr k (xs ++ ys))) := by
  obtain ⟨ay, capy, rfl, hcy, hfy, g, gc, gl, gv⟩ := hy
  have hyl : 0 < ys.length := List.length_pos_iff.2 hye
  have hnl : ((List.range (ys.length * k.size)).map g).length = ys.length * i.size := by simp [hsz]
  obtain ⟨ady, hady⟩ : ∃ ad, ay = some ad := by
    obtain ⟨ad, h1, _⟩ := gc 0 (Nat.mul_pos hyl hpos)
    exact ⟨ad, h1⟩
  subst hady
  have hnews : ∀ j u, ((List.range (ys.length * k.size)).map g)[j]? = some u → K.w.cell? (ady.add j) = some u := by
    intro j u hju
    have hlt : j < ys.length * k.size := by
      have := (List.getElem?_eq_some_iff.1 hju).1
      simpa using this
    obtain ⟨ad, e1, e2⟩ := gc j hlt
    injection e1 with e1
    subst e1
    rw [e2]
    simp [hlt] at hju
    rw [hju]
  rcases hown with ⟨rfl, rfl⟩ | ⟨n, rfl, hn⟩
  · cases hx with
    | slnil =>
      have hrun := run_append_nil (P := P) K.w t ty e i z ht hi hz ady ys.length capy _ hnl hnews hyl (by simp at hm; omega) (by simp at hb; omega)
      have hge : ys.length ≤ grownCap K.w ys.length 0 e := by have := grownCap_ge K.w ys.length 0 e; simpa using this
      obtain ⟨c1, c2, c3⟩ := cells_of (k := k) (xs := []) (ys := ys) (f := g) (g := g) (z := z.cells) hzs (grownCap K.w ys.length 0 e) (by simpa using hge)
      simp only [List.length_nil, Nat.zero_mul, Nat.zero_add] at c1 c3
      obtain ⟨K', q1, q2, q3, q4, q5⟩ := ownRow_yields (K := K.drew) (h := h) hr.drew (a := a) ha hfy _ e (grownCap K.w ys.length 0 e) hge (by rw [c1]; exact Nat.le_refl _) (fun i hi j hj => by
        rw [c3 _ (idx_split hj hi)]
        exact (gv i hi j hj).mono K.le_drew)
      refine ⟨_, K', ?_, K.le_drew.trans q2, q3, by simpa using q4, by simpa using q5⟩
      rw [q1, hrun]
      simp
      exact ⟨rfl, rfl⟩
    | sl _ _ _ b off cap f' hb' hfit' hcell hst hv hcap hnil hfull htok => exact absurd rfl hnil
  · have hbr := hr.blk n _ hn
    cases hbr with
    | arr _ _ c T hh hcs himm hfit hv =>
      cases hx with
      | rs _ _ _ _ cap hl hcap hmm =>
        obtain ⟨T', m, hm1, hm2⟩ := hmm
        have hcm : m = c.size := by simp [World.shape?, hh] at hm1; exact hm1.2.symm
        subst hcm
        simp only [Nat.zero_add, Nat.zero_mul] at hm2 ⊢
        have hfitA := fits_append hfit hfy
        by_cases hroom : xs.length + ys.length ≤ cap
        · have hfitc : xs.length * k.size + ys.length * k.size ≤ c.size := by
            have : (xs.length + ys.length) * k.size ≤ cap * k.size := Nat.mul_le_mul_right _ hroom
            rw [Nat.add_mul] at this
            omega
          have hst' := run_storeCells_at P (K.mu n) (xs.length * k.size) T ((List.range (ys.length * k.size)).map g) 0 c K.w hh (by simpa using hfitc) (by
            intro u hu
            obtain ⟨j, hj, rfl⟩ := List.mem_map.1 hu
            exact gl j (by simpa using hj))
          simp only [Nat.add_zero, List.length_map, List.length_range] at hst'
          generalize hc' : (c.toList.take (xs.length * k.size) ++ (List.range (ys.length * k.size)).map g ++ c.toList.drop (xs.length * k.size + ys.length * k.size)).toArray = c' at hst'
          have hcsz : c'.size = c.size := by rw [← hc']; simp; omega
          have hcl : ∀ j, j < xs.length * k.size → c'[j]? = c[j]? := by
            intro j hj
            rw [← hc']
            simp only [List.getElem?_toArray, List.append_assoc]
            rw [List.getElem?_append_left (by simp; omega), List.getElem?_take, if_pos hj]
            simp
          have hcr : ∀ j, j < ys.length * k.size → c'[xs.length * k.size + j]? = some (g j) := by
            intro j hj
            rw [← hc']
            simp only [List.getElem?_toArray, List.append_assoc]
            rw [List.getElem?_append_right (by simp; omega), List.getElem?_append_left (by simp; omega)]
            have : xs.length * k.size + j - (c.toList.take (xs.length * k.size)).length = j := by simp; omega
            rw [this]
            simp [hj]
          have hle1 := K.le_row (K.mu n) c' c T hh hcsz (hr.base n _ hn) (fun o ho => by rw [himm] at ho; omega)
          have hvs : ∀ i, i < (xs ++ ys).length → ∀ j, j < k.size → VR (K.row (K.mu n) c') (((xs ++ ys).getD i V.undef).cell j) (c'.getD (i * k.size + j) Go.undef) :=
            rows_append (f := fun j => c.getD j Go.undef) (g := g) (fun i hi j hj => (hv i hi j hj).mono hle1) (fun i hi j hj => (gv i hi j hj).mono hle1) (c := fun j => c'.getD j Go.undef)
              (fun j hj => by simp only [Array.getD_eq_getD_getElem?, hcl j hj]) (fun j hj => by simp only [Array.getD_eq_getD_getElem?, hcr j hj]; rfl)
          have hrow := hr.row (b1 := .arr k (xs ++ ys)) hn c' c T hh hcsz (fun o ho => by rw [himm] at ho; omega) (.arr k (xs ++ ys) c' T (by show (K.w.setRow (K.mu n) c').heap[K.mu n]? = _; exact setRow_heap K.w (K.mu n) c c' T (0, 0) hh) (by rw [List.length_append, Nat.add_mul, hcsz]; exact hfitc) himm hfitA hvs)
          have hn1 : (h.set n (.arr k (xs ++ ys))) n = some (.arr k (xs ++ ys)) := by simp [Hp.set]
          have hmu1 : (K.row (K.mu n) c').mu n = K.mu n := rfl
          have hle2 := (K.row (K.mu n) c').le_claim (a := a) (b := K.mu n) (m := 0) ha (by show K.imm (K.mu n) ≤ 0; omega)
          have hcl2 := hrow.claim hn1 (a := a) (m := 0) ha (by show K.imm (K.mu n) ≤ 0; omega) (b1 := .arr k (xs ++ ys)) (.arr k (xs ++ ys) c' T (by
            show (K.w.setRow (K.mu n) c').heap[if a = a then K.mu n else K.mu a]? = _
            rw [if_pos rfl]
            exact setRow_heap K.w (K.mu n) c c' T (0, 0) hh) (by rw [List.length_append, Nat.add_mul, hcsz]; exact hfitc) (by simp [Ker.claim]) hfitA (fun i hi j hj => (hvs i hi j hj).mono hle2))
          have hdel : ((h.set n (.arr k (xs ++ ys))).del n).set a (.arr k (xs ++ ys)) = (h.del n).set a (.arr k (xs ++ ys)) := by
            funext x
            unfold Hp.set Hp.del
            by_cases e1 : x = a
            · simp [e1]
            · by_cases e2 : x = n <;> simp [e1, e2]
          rw [hdel] at hcl2
          have hf := run_firstCells_some (P := P) K.w i.size ys.length ady ys.length capy _ hnl hnews
          refine ⟨.slice (some ⟨K.mu n, 0, none⟩) (xs.length + ys.length) cap, (K.row (K.mu n) c').claim a (K.mu n) 0, ?_, hle1.trans hle2, fun n hn => hn.symm, ?_, hcl2⟩
          · have had : (⟨K.mu n, 0, none⟩ : Addr).add (xs.length * k.size) = ⟨K.mu n, xs.length * k.size, none⟩ := by rw [add_plain, Nat.zero_add]
            simp only [hsz] at hf
            simp only [Builtin.append_, Sem.run_bind, run_underlying ht, Result.andThen_ok, sizeOf, typeInfo, hi, Builtin.lenOf, hroom, hf, hsz, had]
            simp [run_underlying ht, hroom, hf, hi, hsz, had, hst', Builtin.lenOf]
            rfl
          · have := VR.rs (K := (K.row (K.mu n) c').claim a (K.mu n) 0) a k 0 (xs.length + ys.length) cap (.inl rfl) hroom ⟨T, c.size, by
              have hma : ((K.row (K.mu n) c').claim a (K.mu n) 0).mu a = K.mu n := by simp [Ker.claim]
              rw [hma]
              show (K.w.setRow (K.mu n) c').shape? _ = _
              simp only [World.shape?, setRow_heap K.w (K.mu n) c c' T (0, 0) hh, hcsz], by simpa using hm2⟩
            have hma : ((K.row (K.mu n) c').claim a (K.mu n) 0).mu a = K.mu n := by simp [Ker.claim]
            rw [hma] at this
            simpa using this
        · have hol : ((List.range (xs.length * k.size)).map fun j => c.getD j Go.undef).length = xs.length * i.size := by simp [hsz]
          have holds : ∀ j u, ((List.range (xs.length * k.size)).map fun j => c.getD j Go.undef)[j]? = some u → K.w.cell? ((⟨K.mu n, 0, none⟩ : Addr).add j) = some u := by
            intro j u hju
            have hlt : j < xs.length * k.size := by
              have := (List.getElem?_eq_some_iff.1 hju).1
              simpa using this
            rw [add_plain, Nat.zero_add]
            simp [hlt] at hju
            simp only [World.cell?, hh]
            rw [← hju, Array.getElem?_eq_getElem (by omega)]
            rfl
          have hrun := run_append_grow (P := P) K.w t ty e i z ht hi hz ⟨K.mu n, 0, none⟩ xs.length cap _ hol holds ady ys.length capy _ hnl hnews (by omega) (by omega) (growslice_fits (by omega) hb)
          have hge := grownCap_ge K.w (xs.length + ys.length) cap e
          obtain ⟨c1, c2, c3⟩ := cells_of (k := k) (xs := xs) (ys := ys) (f := fun j => c.getD j Go.undef) (g := g) (z := z.cells) hzs (grownCap K.w (xs.length + ys.length) cap e) hge
          obtain ⟨K', q1, q2, q3, q4, q5⟩ := ownRow_yields (K := K.drew) (h := h.del n) (hr.drew.weaken (h.del_le n)) (a := a) ha hfitA _ e (grownCap K.w (xs.length + ys.length) cap e) (by simpa using hge) (by rw [c1]; exact Nat.le_refl _)
            (rows_append (f := fun j => c.getD j Go.undef) (g := g) (fun i hi j hj => (hv i hi j hj).mono K.le_drew) (fun i hi j hj => (gv i hi j hj).mono K.le_drew) (c := fun j => _) c2 c3)
          refine ⟨_, K', ?_, K.le_drew.trans q2, q3, by simpa using q4, by simpa using q5⟩
          rw [q1]
          exact hrun

end Go.Proofs.Ythcedfamidlbdaa
