/-
The abstract layer, sixth part: the lowering of the operations that only yield a value, and that it is right. No program in sight. No conditions.
-/
import Derived.Test.YthcedfamidlbdaaZe
namespace Go.Proofs.Ythcedfamidlbdaa
set_option linter.unusedSimpArgs false
set_option linter.unusedVariables false
set_option linter.unusedSectionVars false
open Go.RowKit

def isConstB : Operand → Bool
  | .const _ => true
  | _ => false
def eqTyOf (P : Program) (t : TypeId) (x y : Operand) : Option EqTy :=
  match P.underlying t with
  | some .bool => (kindsOf P 1 t).bind fun ks => (shOf P t).map fun k => .plain k ks
  | some (.pointer _) => some .ptr
  | some (.slice _) => some .slice
  | some (.func _ _ _) => some .func
  | some (.interface _) => some (.iface (isConstB x || isConstB y))
  | some (.map _ _) => some .map
  | some (.chan _ _) => some .chan
  | some (.struct _) => if P.eqGuardType P.depth t then none else (kindsOf P 10 t).bind fun ks => (shOf P t).map fun k => .plain k ks
  | _ => none
def isNeq : BinOp → Option Bool
  | .eql => some false
  | .neq => some true
  | _ => none
def lowerBin (P : Program) (op : BinOp) (t yt : TypeId) (x y : Operand) : Option LVal :=
  (lowerArg P t x).bind fun lx => (lowerArg P t y).bind fun ly =>
    match P.underlying t with
    | some (.int _) => if op = .shl ∨ op = .shr then none else some (.bin op lx ly)
    | some .string => some (.bin op lx ly)
    | _ => (isNeq op).bind fun ng => (eqTyOf P t x y).map fun e => .eq ng e lx ly
def lowerArgs (P : Program) : List TypeId → List Operand → Option (List LArg)
  | _, [] => some []
  | ts, x :: xs => match lowerArg P (ts.headD 0) x, lowerArgs P ts.tail xs with
    | some a, some as => some (a :: as)
    | _, _ => none
def lowerParts (P : Program) (fs : Array Field) : List (Nat × Operand) → Option (List (Nat × Sh × LArg))
  | [] => some []
  | (i, x) :: r => match fs[i]? with
    | some f => (shOf P f.type).bind fun k => (lowerArg P f.type x).bind fun l => (lowerParts P fs r).map ((f.offset, k, l) :: ·)
    | none => none
def lowerOpt (P : Program) : Option Operand → Option (Option LArg)
  | none => some none
  | some x => (lowerArg P 0 x).map some
def lowerVal (P : Program) (o : Oper) : Option LVal :=
  match o.op with
  | .move x => (lowerArg P o.type x).map .move
  | .assign x => (lowerArg P o.type x).map .move
  | .pick c a b => (lowerArg P 0 c).bind fun c => (lowerArg P o.type a).bind fun a => (lowerArg P o.type b).map fun b => .pick c a b
  | .load t x => (shOf P t).bind fun k => (lowerArg P 0 x).map fun x => .load k x
  | .nilCheck x => (lowerArg P 0 x).map .nilCheck
  | .binOp op t x y yt => lowerBin P op t yt x y
  | .unOp .not _ x => (lowerArg P 0 x).map .not
  | .unOp .neg _ x => (lowerArg P 0 x).map .neg
  | .convert s d x => match P.underlying s, P.underlying d with
    | some (.int _), some (.int k) => (lowerArg P 0 x).map (.conv k)
    | _, _ => none
  | .makeInterface t x => match P.underlying t with
    | some (.interface _) => none
    | some _ => (lowerArg P t x).map (.mkif t)
    | none => none
  | .makeFunc f first cap => (lowerArgs P [] first.toList).bind fun a => (lowerArgs P [] cap.toList).map fun b => .mkfn f a b
  | .fieldAddr s x f => match P.underlying s with
    | some (.struct fs) => match fs[f]? with
      | some fl => if P.cellsOf fl.type = 0 then none else (lowerArg P 0 x).map (.fldA fl.offset)
      | none => none
    | _ => none
  | .field s x f => match P.underlying s with
    | some (.struct fs) => match fs[f]? with
      | some fl => (shOf P fl.type).bind fun k => (lowerArg P s x).map (.fld k fl.offset)
      | none => none
    | _ => none
  | .indexAddr t x i => match P.underlying t with
    | some (.slice e) => (shOf P e).bind fun k => (lowerArg P t x).bind fun x => (lowerArg P 0 i).map fun i => .idxA k x i
    | some (.array n e) => (shOf P e).bind fun k => (lowerArg P t x).bind fun x => (lowerArg P 0 i).map fun i => .idxP n k x i
    | _ => none
  | .extract x i => (lowerArg P 0 x).map fun x => .ext x i
  | .slice t x lo hi mx => match P.underlying t with
    | some (.slice e) => (shOf P e).bind fun k => (lowerArg P t x).bind fun x => (lowerOpt P lo).bind fun lo => (lowerOpt P hi).bind fun hi => (lowerOpt P mx).map fun mx => .slc k x lo hi mx
    | some .string => if mx.isSome then none else (lowerArg P t x).bind fun x => (lowerOpt P lo).bind fun lo => (lowerOpt P hi).map fun hi => .slcs x lo hi
    | _ => none
  | .call { callee := .builtin .len, args := args, argTypes := ts } => match args.toList, ts.toList with
    | [x], [t] => match P.underlying t with
      | some (.slice _) => (lowerArg P t x).map .len
      | some .string => (lowerArg P t x).map .slen
      | _ => none
    | _, _ => none
  | .build t parts => match P.underlying t, (P.info? t).bind (·.zero) with
    | some (.struct fs), some z => match absV P t z with
      | some (.agg zs) => if (zs.all V.leafy && fs.toList.all (fun f => (shOf P f.type).isSome)) = true then (lowerParts P fs parts.toList).map (.build zs) else none
      | _ => none
    | _, _ => none
  | .panic _ => some .never
  | .call { callee := .builtin .cap, args := args, argTypes := ts } => match args.toList, ts.toList with
    | [x], [t] => match P.underlying t with
      | some (.slice _) => (lowerArg P t x).map .capv
      | _ => none
    | _, _ => none
  | .call { callee := .builtin .min, args := args, argTypes := ts } => match args.toList with
    | [x, y] => (lowerArg P (ts.toList.headD 0) x).bind fun x => (lowerArg P (ts.toList.headD 0) y).map fun y => .mnx false x y
    | _ => none
  | .call { callee := .builtin .max, args := args, argTypes := ts } => match args.toList with
    | [x, y] => (lowerArg P (ts.toList.headD 0) x).bind fun x => (lowerArg P (ts.toList.headD 0) y).map fun y => .mnx true x y
    | _ => none
  | .typeAssert x _ t true => match P.underlying t, (P.info? t).bind (·.zero) with
    | some (.interface _), _ => none
    | some _, some z => (absV P t z).bind fun z => (lowerArg P 0 x).map fun x => .asrt t z x
    | _, _ => none
  | .typeAssert x _ t false => match P.underlying t with
    | some (.interface _) => none
    | some _ => (lowerArg P 0 x).map fun x => .asrq t x
    | _ => none
  | _ => none

theorem lowerArgs_sound {P : Program} {K : Ker} {sl : List V} {a : Act} (hs : ∀ t, VR K (sl.getD t V.undef) (a.tmps.getD t Go.undef)) : ∀ (xs : List Operand) (ts : List TypeId) (ls : List LArg), lowerArgs P ts xs = some ls →
    ls.length = xs.length ∧ ∀ i, i < ls.length → VR K ((ls.map (LArg.ev sl)).getD i V.undef) ((xs.map a.eval).getD i Go.undef)
  | [], ts, ls, h => by simp [lowerArgs] at h; subst h; exact ⟨rfl, fun i hi => absurd hi (by simp)⟩
  | x :: xs, ts, ls, h => by
    unfold lowerArgs at h
    split at h
    · rename_i l r h1 h2
      injection h with h; subst h
      obtain ⟨e1, e2⟩ := lowerArgs_sound hs xs _ r h2
      refine ⟨by simp [e1], fun i hi => ?_⟩
      cases i with
      | zero => simpa using lowerArg_sound h1 hs
      | succ i => simpa using e2 i (by simpa using hi)
    · simp at h

theorem ite_same {α : Type} {c : Prop} [Decidable c] {x r : α} (h : x = r) : (if c then r else x) = r := by split <;> first | rfl | exact h

theorem run_eqGuard_plain {P : Program} (op : BinOp) (t : TypeId) (x y : Operand) (a b : Value) (w : World) (h1 : ¬ (a = .nilIface ∧ b = .nilIface)) (h2 : ∀ xs ys, ¬ (a = .agg xs ∧ b = .agg ys)) : (eqGuard op t x y a b).run P w = .ok () w := by
  unfold eqGuard
  simp only [Sem.run_ite, Sem.run_pure]
  refine ite_same ?_
  split
  · exact absurd ⟨rfl, rfl⟩ h1
  · exact absurd ⟨rfl, rfl⟩ (h2 _ _)
  · rfl

theorem run_eqGuard_const {P : Program} (op : BinOp) (t : TypeId) (x y : Operand) (w : World) (h : (isConstB x || isConstB y) = true) : (eqGuard op t x y .nilIface .nilIface).run P w = .ok () w := by
  unfold eqGuard
  simp only [Sem.run_ite, Sem.run_pure]
  refine ite_same ?_
  rw [if_pos]
  cases x <;> cases y <;> simp_all [isConstB]

/-- '==' and '!=' of whatever is neither a number nor a string. -/
theorem run_eqs {P : Program} {op : BinOp} {ng : Bool} (hn : isNeq op = some ng) (t : TypeId) (x y : Operand) (a b : Value) (w : World) (r : Bool) (hg : (eqGuard op t x y a b).run P w = .ok () w) (hi : ∀ k n k' n', ¬ (a = .int k n ∧ b = .int k' n')) (hs : ∀ s s', ¬ (a = .string s ∧ b = .string s')) (hnf : ∀ k n k' n', ¬ (a = .float k n ∧ b = .float k' n')) (hnc : ∀ k n m k' n' m', ¬ (a = .complex k n m ∧ b = .complex k' n' m'))
    (he : (Op.equal t a b).run P w = .ok r w) : (do eqGuard op t x y a b; binOp op t a b : Sem Value).run P w = .ok (.bool (if ng then !r else r)) w := by
  simp only [Sem.run_bind, hg, Result.andThen_ok]
  cases op <;> simp [isNeq] at hn
  all_goals
    subst hn
    unfold binOp
    split <;> first
      | (simp only [Sem.run_bind, he, Result.andThen_ok, Sem.run_pure]; rfl)
      | (exfalso; rename_i h; exact BinOp.noConfusion h)
      | (exfalso; first | exact hi _ _ _ _ ⟨rfl, rfl⟩ | exact hs _ _ ⟨rfl, rfl⟩ | exact hnf _ _ _ _ ⟨rfl, rfl⟩ | exact hnc _ _ _ _ _ _ ⟨rfl, rfl⟩)
      | (exfalso; simp_all; done)

end Go.Proofs.Ythcedfamidlbdaa
