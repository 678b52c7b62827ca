/-
The abstract layer, nineteenth part: how a walk goes: straight operations by evaluation, calls by contracts, loops by a family of states. No conditions.
-/
import Derived.Test.YthcedfamidlbdaaZr
namespace Go.Proofs.Ythcedfamidlbdaa
set_option linter.unusedSimpArgs false
set_option linter.unusedVariables false
set_option linter.unusedSectionVars false
open Go.RowKit

def LVal.out (sl : List V) (h : Hp) : LVal → V
  | .move x => x.ev sl
  | .pick c a b => match c.ev sl with
    | .bool t => V.pick t (a.ev sl) (b.ev sl)
    | _ => .undef
  | .load t x => match x.ev sl with
    | .ptr n _ i o => match h n with
      | some (.arr _ es) => loadPart t o (es.getD i V.undef)
      | _ => .undef
    | .ept _ es i o => loadPart t o (es.getD i V.undef)
    | _ => .undef
  | .nilCheck x => x.ev sl
  | .bin op x y => match x.ev sl, y.ev sl with
    | .int k a, .int _ b => match op with
      | .add => .int k (k.wrap (a + b))
      | .sub => .int k (k.wrap (a - b))
      | .mul => .int k (k.wrap (a * b))
      | .quo => .int k (k.wrap (a.tdiv b))
      | .rem => .int k (a.tmod b)
      | .eql => .bool (a == b)
      | .neq => .bool (a != b)
      | .lss => .bool (decide (a < b))
      | .leq => .bool (decide (a ≤ b))
      | .gtr => .bool (decide (b < a))
      | .geq => .bool (decide (b ≤ a))
      | _ => .undef
    | .str s, .str t => match op with
      | .add => .str (s ++ t)
      | .eql => .bool (s.toList == t.toList)
      | .neq => .bool (!(s.toList == t.toList))
      | .lss => .bool (Op.bytesLess s.toList t.toList)
      | .leq => .bool (Op.bytesLess s.toList t.toList || s.toList == t.toList)
      | .gtr => .bool (!(Op.bytesLess s.toList t.toList || s.toList == t.toList))
      | .geq => .bool (!Op.bytesLess s.toList t.toList)
      | _ => .undef
    | _, _ => .undef
  | .eq ng ty x y => .bool (if ng then !((veq ty (x.ev sl) (y.ev sl)).getD false) else (veq ty (x.ev sl) (y.ev sl)).getD false)
  | .not x => match x.ev sl with
    | .bool b => .bool (!b)
    | _ => .undef
  | .neg x => match x.ev sl with
    | .int k n => .int k (k.wrap (0 - n))
    | _ => .undef
  | .conv k x => match x.ev sl with
    | .int _ n => .int k (k.wrap n)
    | _ => .undef
  | .mkif t x => .iface t (x.ev sl)
  | .mkfn f first cap => .fn f (first.map (LArg.ev sl)) (cap.map (LArg.ev sl))
  | .fldA off x => match x.ev sl with
    | .ptr n k i o => .ptr n k i (o + off)
    | .ept k es i o => .ept k es i (o + off)
    | _ => .undef
  | .fld t off x => match x.ev sl with
    | .agg cs => loadPart t off (.agg cs)
    | _ => .undef
  | .idxA k x i => match x.ev sl, i.ev sl with
    | .sl _ _ es, .int _ j => .ept k es j.toNat 0
    | .rs n _ off _, .int _ j => .ptr n k (off + j.toNat) 0
    | _, _ => .undef
  | .idxP _ k x i => match x.ev sl, i.ev sl with
    | .ptr n k' i' o, .int _ j => .ptr n k' i' (o + j.toNat * k.size)
    | _, _ => .undef
  | .len x => match x.ev sl with
    | .sl _ _ es => .int .i64 es.length
    | .rs _ _ _ ln => .int .i64 ln
    | _ => .undef
  | .slen x => match x.ev sl with
    | .str s => .int .i64 s.size
    | _ => .undef
  | .ext x i => match x.ev sl with
    | .tup vs => vs.getD i V.undef
    | _ => .undef
  | .build z parts => .agg (fillV z (parts.map fun p => (p.1, (p.2.2.ev sl).cells)))
  | .slc k x lo hi mx => match x.ev sl with
    | .sl _ own es => .sl k (cutE own es (ogive sl hi) (ogive sl mx)) ((es.take ((bval sl es.length hi).getD 0).toNat).drop ((bval sl 0 lo).getD 0).toNat)
    | .rs n _ off ln => if ((bval sl 0 lo).getD 0).toNat = ln ∧ ((bval sl 0 lo).getD 0).toNat ≠ 0 then .sl k .free [] else .rs n k (off + ((bval sl 0 lo).getD 0).toNat) (((bval sl ln hi).getD 0).toNat - ((bval sl 0 lo).getD 0).toNat)
    | _ => .undef
  | .slcs x lo hi => match x.ev sl with
    | .str s => .str (s.extract ((bval sl 0 lo).getD 0).toNat ((bval sl s.size hi).getD 0).toNat)
    | _ => .undef
  | .never => .undef
  | .capv x => match x.ev sl with
    | .sl _ .nil _ => .int .i64 0
    | .sl _ .full es => .int .i64 es.length
    | _ => .undef
  | .mnx mx x y => match x.ev sl, y.ev sl with
    | .int k a, .int _ b => .int k (mnxI mx a b)
    | _, _ => .undef
  | .asrt t z x => match x.ev sl with
    | .iface t' v => .tup [if t' = t then v else z, .bool (decide (t' = t))]
    | .nilIface => .tup [z, .bool false]
    | _ => .undef
  | .asrq _ x => match x.ev sl with
    | .iface _ v => v
    | _ => .undef

def binOK (op : BinOp) (x y : V) : Prop :=
  match x, y with
  | .int k _, .int k' b => k = k' ∧ (match op with
    | .add | .sub | .mul | .eql | .neq | .lss | .leq | .gtr | .geq => True
    | .quo | .rem => b ≠ 0
    | _ => False)
  | .str s, .str t => match op with
    | .add => ((s.size + t.size : Nat) : Int) ≤ 9223372036854775807
    | .eql | .neq | .lss | .leq | .gtr | .geq => True
    | _ => False
  | _, _ => False

def LVal.ok (sl : List V) (h : Hp) : LVal → Prop
  | .move _ => True
  | .pick c _ _ => match c.ev sl with
    | .bool _ => True
    | _ => False
  | .load t x => match x.ev sl with
    | .ptr n k i o => match h n with
      | some (.arr k' es) => k' = k ∧ i < es.length ∧ partOK k t o
      | _ => False
    | .ept k es i o => i < es.length ∧ partOK k t o
    | _ => False
  | .nilCheck x => match x.ev sl with
    | .ptr _ _ _ _ => True
    | .ept _ _ _ _ => True
    | _ => False
  | .bin op x y => binOK op (x.ev sl) (y.ev sl)
  | .eq _ ty x y => (veq ty (x.ev sl) (y.ev sl)).isSome = true
  | .not x => match x.ev sl with
    | .bool _ => True
    | _ => False
  | .neg x => match x.ev sl with
    | .int _ _ => True
    | _ => False
  | .conv _ x => match x.ev sl with
    | .int _ _ => True
    | _ => False
  | .mkif _ _ => True
  | .mkfn _ _ _ => True
  | .fldA _ x => match x.ev sl with
    | .ptr _ _ _ _ => True
    | .ept _ _ _ _ => True
    | _ => False
  | .fld t off x => match x.ev sl with
    | .agg cs => partOK (.agg cs.length) t off ∧ cs.all V.leafy = true
    | _ => False
  | .idxA k x i => match x.ev sl, i.ev sl with
    | .sl k' _ es, .int _ j => k' = k ∧ 0 ≤ j ∧ j < es.length
    | .rs _ k' _ ln, .int _ j => k' = k ∧ 0 ≤ j ∧ j < ln
    | _, _ => False
  | .idxP ln _ x i => match x.ev sl, i.ev sl with
    | .ptr _ _ _ _, .int _ j => 0 ≤ j ∧ j < ln
    | _, _ => False
  | .len x => match x.ev sl with
    | .sl _ _ _ => True
    | .rs _ _ _ _ => True
    | _ => False
  | .slen x => match x.ev sl with
    | .str _ => True
    | _ => False
  | .ext x i => match x.ev sl with
    | .tup vs => i < vs.length
    | _ => False
  | .build z parts => ∀ p ∈ parts, (p.2.2.ev sl).fits p.2.1 = true ∧ p.1 + p.2.1.size ≤ z.length
  | .slc k x lo hi mx => match x.ev sl with
    | .sl k' _ es => match bval sl 0 lo, bval sl es.length hi, bval sl es.length mx with
      | some l, some h', some m => k' = k ∧ 0 ≤ l ∧ l ≤ h' ∧ h' ≤ m ∧ m ≤ es.length ∧ (hi.isNone = true → mx.isNone = true)
      | _, _, _ => False
    | .rs _ k' _ ln => match bval sl 0 lo, bval sl ln hi, mx with
      | some l, some h', none => k' = k ∧ 0 ≤ l ∧ l ≤ h' ∧ h' ≤ ln
      | _, _, _ => False
    | _ => False
  | .slcs x lo hi => match x.ev sl with
    | .str s => match bval sl 0 lo, bval sl s.size hi with
      | some l, some h' => 0 ≤ l ∧ l ≤ h' ∧ h' ≤ s.size
      | _, _ => False
    | _ => False
  | .never => False
  | .capv x => match x.ev sl with
    | .sl _ .nil _ => True
    | .sl _ .full _ => True
    | _ => False
  | .mnx _ x y => match x.ev sl, y.ev sl with
    | .int k _, .int k' _ => k = k'
    | _, _ => False
  | .asrt _ _ x => match x.ev sl with
    | .iface _ _ => True
    | .nilIface => True
    | _ => False
  | .asrq t x => match x.ev sl with
    | .iface t' _ => t' = t
    | _ => False

theorem LVal.sem_of_ok {sl : List V} {h : Hp} {R : V → Prop} {l : LVal} (ho : l.ok sl h) (hR : R (l.out sl h)) : l.sem sl h R := by
  cases l <;> simp only [LVal.ok, LVal.out, LVal.sem] at ho hR ⊢
  case bin op x y =>
    generalize x.ev sl = v at ho hR ⊢
    generalize y.ev sl = u at ho hR ⊢
    cases v <;> try (exact ho.elim)
    · cases u <;> try (exact ho.elim)
      obtain ⟨rfl, ho⟩ := ho
      cases op <;> simp only at ho hR <;> first | exact ho.elim | exact ⟨rfl, hR⟩ | exact ⟨rfl, ho, hR⟩
    · cases u <;> try (exact ho.elim)
      simp only [binOK] at ho
      cases op <;> simp only at ho hR <;> first | exact ho.elim | exact hR | exact ⟨ho, hR⟩
  case eq ng ty x y =>
    cases hv : veq ty (x.ev sl) (y.ev sl) with
    | none => simp [hv] at ho
    | some r => simpa [hv] using hR
  case load t x =>
    generalize x.ev sl = v at ho hR ⊢
    cases v <;> try (exact ho.elim)
    · rename_i n k i o
      simp only at ho hR ⊢
      cases hn : h n with
      | none => rw [hn] at ho; exact ho.elim
      | some b => cases b with
        | tip => rw [hn] at ho; exact ho.elim
        | obj o _ => rw [hn] at ho; exact ho.elim
        | arr k' es => rw [hn] at ho hR; exact ⟨ho.1, ho.2.1, ho.2.2, hR⟩
    · exact ⟨ho.1, ho.2, hR⟩
  case idxA k x i =>
    generalize x.ev sl = v at ho hR ⊢
    generalize i.ev sl = u at ho hR ⊢
    cases v <;> try (exact ho.elim)
    · cases u <;> first | exact ho.elim | exact ⟨ho.1, ho.2.1, ho.2.2, hR⟩
    · cases u <;> first | exact ho.elim | exact ⟨ho.1, ho.2.1, ho.2.2, hR⟩
  case idxP n k x i =>
    generalize x.ev sl = v at ho hR ⊢
    generalize i.ev sl = u at ho hR ⊢
    cases v <;> try (exact ho.elim)
    cases u <;> first | exact ho.elim | exact ⟨ho.1, ho.2, hR⟩
  case pick c a b =>
    generalize c.ev sl = v at ho hR ⊢
    cases v <;> first | exact ho.elim | exact hR
  case build z ps => exact ⟨ho, hR⟩
  case slc k x lo hi mx =>
    generalize x.ev sl = v at ho hR ⊢
    cases v <;> try (exact ho.elim)
    · rename_i k' own es
      simp only at ho hR ⊢
      generalize ogive sl hi = og1 at hR ⊢
      generalize ogive sl mx = og2 at hR ⊢
      generalize bval sl 0 lo = b1 at ho hR ⊢
      generalize bval sl es.length hi = b2 at ho hR ⊢
      generalize bval sl es.length mx = b3 at ho hR ⊢
      cases b1 <;> try (exact ho.elim)
      cases b2 <;> try (exact ho.elim)
      cases b3 <;> try (exact ho.elim)
      exact ⟨ho.1, ho.2.1, ho.2.2.1, ho.2.2.2.1, ho.2.2.2.2.1, ho.2.2.2.2.2, hR⟩
    · rename_i n k' off ln
      simp only at ho hR ⊢
      generalize bval sl 0 lo = b1 at ho hR ⊢
      generalize bval sl ln hi = b2 at ho hR ⊢
      cases b1 <;> try (exact ho.elim)
      cases b2 <;> try (exact ho.elim)
      cases mx <;> try (exact ho.elim)
      exact ⟨ho.1, ho.2.1, ho.2.2.1, ho.2.2.2, hR⟩
  case slcs x lo hi =>
    generalize x.ev sl = v at ho hR ⊢
    cases v <;> try (exact ho.elim)
    rename_i s
    simp only at ho hR ⊢
    generalize bval sl 0 lo = b1 at ho hR ⊢
    generalize bval sl s.size hi = b2 at ho hR ⊢
    cases b1 <;> try (exact ho.elim)
    cases b2 <;> try (exact ho.elim)
    exact ⟨ho.1, ho.2.1, ho.2.2, hR⟩
  case capv x =>
    generalize x.ev sl = v at ho hR ⊢
    cases v <;> try (exact ho.elim)
    rename_i k own es
    cases own <;> first | exact ho.elim | exact hR
  case mnx b x y =>
    generalize x.ev sl = v at ho hR ⊢
    generalize y.ev sl = u at ho hR ⊢
    cases v <;> try (exact ho.elim)
    cases u <;> first | exact ho.elim | exact ⟨ho, hR⟩
  case asrt t z x =>
    generalize x.ev sl = v at ho hR ⊢
    cases v <;> first | exact ho.elim | exact hR
  case asrq t x =>
    generalize x.ev sl = v at ho hR ⊢
    cases v <;> first | exact ho.elim | exact ⟨ho, hR⟩
  case move => exact hR
  case mkif => exact hR
  case mkfn => exact hR
  case nilCheck x =>
    generalize x.ev sl = v at ho hR ⊢
    cases v <;> first | exact ho.elim | exact hR | exact ⟨ho, hR⟩ | exact ⟨ho.1, ho.2, hR⟩
  case not x =>
    generalize x.ev sl = v at ho hR ⊢
    cases v <;> first | exact ho.elim | exact hR | exact ⟨ho, hR⟩ | exact ⟨ho.1, ho.2, hR⟩
  case neg x =>
    generalize x.ev sl = v at ho hR ⊢
    cases v <;> first | exact ho.elim | exact hR | exact ⟨ho, hR⟩ | exact ⟨ho.1, ho.2, hR⟩
  case conv k x =>
    generalize x.ev sl = v at ho hR ⊢
    cases v <;> first | exact ho.elim | exact hR | exact ⟨ho, hR⟩ | exact ⟨ho.1, ho.2, hR⟩
  case fldA o x =>
    generalize x.ev sl = v at ho hR ⊢
    cases v <;> first | exact ho.elim | exact hR | exact ⟨ho, hR⟩ | exact ⟨ho.1, ho.2, hR⟩
  case fld t o x =>
    generalize x.ev sl = v at ho hR ⊢
    cases v <;> first | exact ho.elim | exact hR | exact ⟨ho, hR⟩ | exact ⟨ho.1, ho.2, hR⟩
  case len x =>
    generalize x.ev sl = v at ho hR ⊢
    cases v <;> first | exact ho.elim | exact hR | exact ⟨ho, hR⟩ | exact ⟨ho.1, ho.2, hR⟩
  case slen x =>
    generalize x.ev sl = v at ho hR ⊢
    cases v <;> first | exact ho.elim | exact hR | exact ⟨ho, hR⟩ | exact ⟨ho.1, ho.2, hR⟩
  case ext x i =>
    generalize x.ev sl = v at ho hR ⊢
    cases v <;> first | exact ho.elim | exact hR | exact ⟨ho, hR⟩ | exact ⟨ho.1, ho.2, hR⟩

end Go.Proofs.Ythcedfamidlbdaa
