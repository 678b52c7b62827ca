/-
  No cell of these rows narrows 'for every input' (looked for: loops, veiled, ifaces, maps, wideKeys, modest, calm, conditions, laid).
  DERIVED. THE GIVEN ROWS OF THIS SEAT. 4 by the template 'for every input the law returns true; each argument reads behind the call as it read before'; 0 by the template 'total and deterministic' (their statements: YthcedfamidlbdaaTotals.lean).
  GIVEN WITH THE SEED: the statements are not yours to turn. If you find one false, say at which input.
  Laid BY PROGRAM, IN A SANDBOX (cutbox-rows.mjs): the forced cells as the released guide's own fill.sh prints them over the translation 330f49480b0c0080… (all of the seat's roots in one cut). By AI agents, Wed Nov 11 2026. No macro, syntax, notation, axiom, sorry.
-/
import Derived.Test.YthcedfamidlbdaaChecked
import GoSem.Claim
import GoSem.ClaimJoined
import GoSem.ClaimMapViews
import Derived.JoinedTies
import Derived.KernelRfl
namespace Go.Proofs.Ythcedfamidlbdaa
/- THE CELL 'sum', in the pinned program and in every row, IS THE sha256 OF THE DUMP (.gsa) THAT YthcedfamidlbdaaProg.lean LOADS. Nothing in Lean hashes anything: it is a label: what it is worth is what the hold of that sum in a sandbox is worth. -/
noncomputable def Try.pinned : Pinned := { name := "ythcedfamidlbdaa", sum := "330f49480b0c0080ec7ec246d40274cb76851bd8c3e8b86f94e4102d6bd51e9a", checked := Try.checked }
namespace Rows
def none {H : Type} : Left H := { results := [], args := [] }

/-- 'corollarylaw21.ChainTells': WHATEVER THE INPUT: true; the input reads as it did. -/
def chainTellsSpec : ChangeSpec := { name := "chainTells", fn := fun _ => fun
  | [d1, d2, d3] => { results := [.lit (.bool true)], args := [d1, d2, d3] }
  | _ => none }
def chainTellsRow : OpenClaim := { program := "ythcedfamidlbdaa", sum := "330f49480b0c0080ec7ec246d40274cb76851bd8c3e8b86f94e4102d6bd51e9a", func := "corollary/corollarylaw21.ChainTells", spec := "chainTells", unfollowed := true, recurses := true, apart := false }
def ChainTellsSaid : Prop := chainTellsRow.holds Try.pinned (OpenSpec.ofChange chainTellsSpec)

/-- ITS FALSE NEIGHBOUR: 'it returns false'. Refute it at one input. -/
def chainTellsWrong : ChangeSpec := { name := "chainTells", fn := fun _ => fun
  | [d1, d2, d3] => { results := [.lit (.bool false)], args := [d1, d2, d3] }
  | _ => none }
def ChainTellsWrongFalsely : Prop := chainTellsRow.holds Try.pinned (OpenSpec.ofChange chainTellsWrong)

/-- 'corollarylaw21.ChainOf': WHATEVER THE INPUT: true; the input reads as it did. -/
def chainOfSpec : ChangeSpec := { name := "chainOf", fn := fun _ => fun
  | [d1, d2] => { results := [.lit (.bool true)], args := [d1, d2] }
  | _ => none }
def chainOfRow : OpenClaim := { program := "ythcedfamidlbdaa", sum := "330f49480b0c0080ec7ec246d40274cb76851bd8c3e8b86f94e4102d6bd51e9a", func := "corollary/corollarylaw21.ChainOf", spec := "chainOf", unfollowed := true, recurses := true, apart := false }
def ChainOfSaid : Prop := chainOfRow.holds Try.pinned (OpenSpec.ofChange chainOfSpec)

/-- ITS FALSE NEIGHBOUR: 'it returns false'. Refute it at one input. -/
def chainOfWrong : ChangeSpec := { name := "chainOf", fn := fun _ => fun
  | [d1, d2] => { results := [.lit (.bool false)], args := [d1, d2] }
  | _ => none }
def ChainOfWrongFalsely : Prop := chainOfRow.holds Try.pinned (OpenSpec.ofChange chainOfWrong)

/-- 'corollarylaw21.ChainLaws': WHATEVER THE INPUT: true; the input reads as it did. -/
def chainLawsSpec : ChangeSpec := { name := "chainLaws", fn := fun _ => fun
  | [d1, d2, d3] => { results := [.lit (.bool true)], args := [d1, d2, d3] }
  | _ => none }
def chainLawsRow : OpenClaim := { program := "ythcedfamidlbdaa", sum := "330f49480b0c0080ec7ec246d40274cb76851bd8c3e8b86f94e4102d6bd51e9a", func := "corollary/corollarylaw21.ChainLaws", spec := "chainLaws", unfollowed := true, recurses := true, apart := false }
def ChainLawsSaid : Prop := chainLawsRow.holds Try.pinned (OpenSpec.ofChange chainLawsSpec)

/-- ITS FALSE NEIGHBOUR: 'it returns false'. Refute it at one input. -/
def chainLawsWrong : ChangeSpec := { name := "chainLaws", fn := fun _ => fun
  | [d1, d2, d3] => { results := [.lit (.bool false)], args := [d1, d2, d3] }
  | _ => none }
def ChainLawsWrongFalsely : Prop := chainLawsRow.holds Try.pinned (OpenSpec.ofChange chainLawsWrong)

/-- 'corollarylaw21.ChainTwo': WHATEVER THE INPUT: true; the input reads as it did. -/
def chainTwoSpec : ChangeSpec := { name := "chainTwo", fn := fun _ => fun
  | [d1, d2, d3] => { results := [.lit (.bool true)], args := [d1, d2, d3] }
  | _ => none }
def chainTwoRow : OpenClaim := { program := "ythcedfamidlbdaa", sum := "330f49480b0c0080ec7ec246d40274cb76851bd8c3e8b86f94e4102d6bd51e9a", func := "corollary/corollarylaw21.ChainTwo", spec := "chainTwo", unfollowed := true, recurses := true, apart := false }
def ChainTwoSaid : Prop := chainTwoRow.holds Try.pinned (OpenSpec.ofChange chainTwoSpec)

/-- ITS FALSE NEIGHBOUR: 'it returns false'. Refute it at one input. -/
def chainTwoWrong : ChangeSpec := { name := "chainTwo", fn := fun _ => fun
  | [d1, d2, d3] => { results := [.lit (.bool false)], args := [d1, d2, d3] }
  | _ => none }
def ChainTwoWrongFalsely : Prop := chainTwoRow.holds Try.pinned (OpenSpec.ofChange chainTwoWrong)

/- THE SECOND FORM. 'bulk': how many values and letters a reading holds, each counted each time it is reached (what is shared counts as often as it is met; a slice's spare places count too). A statement '..UptoSaid' is the law's where the arguments, and the package variables that the reading takes, are together of bulk at most 1048576: NARROWER than '..Said'. Prove '..Said' where nothing that the law and all that it calls make is longer than what came in: it says more and counts as full. Else prove '..UptoSaid'. A law counts once. -/
mutual
def uptoBulk {H : Type} : DataW H → Nat
  | .lit (.string bytes) => bytes.length + 1
  | .lit _ => 1
  | .nil => 1
  | .ptr d => uptoBulk d + 1
  | .slice elems spare => uptoBulkAll elems + uptoBulkAll spare + 1
  | .agg parts => uptoBulkAll parts + 1
  | .iface _ d => uptoBulk d + 1
  | .map entries => uptoBulkEntries entries + 1
  | .held _ => 1
def uptoBulkAll {H : Type} : List (DataW H) → Nat
  | [] => 0
  | d :: r => uptoBulk d + uptoBulkAll r
def uptoBulkEntries {H : Type} : List (Lit × DataW H) → Nat
  | [] => 0
  | x :: r => uptoBulkEntry x + uptoBulkEntries r
def uptoBulkEntry {H : Type} : Lit × DataW H → Nat
  | (.string bytes, d) => bytes.length + uptoBulk d + 1
  | (_, d) => uptoBulk d + 1
 end
def uptoSmall : (H : Type) → List (DataW H) → Bool := fun _ ds => decide (uptoBulkAll ds ≤ 1048576)
def OpenSpec.upto (s : _root_.Go.ChangeSpec) : _root_.Go.OpenSpec := { _root_.Go.OpenSpec.ofChange s with cond := some uptoSmall }

/-- 'corollarylaw21.ChainTells', WHERE WHAT IT READS IS OF BULK AT MOST 1048576: true; the input reads as it did. -/
def chainTellsUptoRow : OpenClaim := { program := "ythcedfamidlbdaa", sum := "330f49480b0c0080ec7ec246d40274cb76851bd8c3e8b86f94e4102d6bd51e9a", func := "corollary/corollarylaw21.ChainTells", spec := "chainTells", unfollowed := true, recurses := true, apart := false, narrowed := true }
def ChainTellsUptoSaid : Prop := chainTellsUptoRow.holds Try.pinned (OpenSpec.upto chainTellsSpec)

/-- 'corollarylaw21.ChainOf', WHERE WHAT IT READS IS OF BULK AT MOST 1048576: true; the input reads as it did. -/
def chainOfUptoRow : OpenClaim := { program := "ythcedfamidlbdaa", sum := "330f49480b0c0080ec7ec246d40274cb76851bd8c3e8b86f94e4102d6bd51e9a", func := "corollary/corollarylaw21.ChainOf", spec := "chainOf", unfollowed := true, recurses := true, apart := false, narrowed := true }
def ChainOfUptoSaid : Prop := chainOfUptoRow.holds Try.pinned (OpenSpec.upto chainOfSpec)

/-- 'corollarylaw21.ChainLaws', WHERE WHAT IT READS IS OF BULK AT MOST 1048576: true; the input reads as it did. -/
def chainLawsUptoRow : OpenClaim := { program := "ythcedfamidlbdaa", sum := "330f49480b0c0080ec7ec246d40274cb76851bd8c3e8b86f94e4102d6bd51e9a", func := "corollary/corollarylaw21.ChainLaws", spec := "chainLaws", unfollowed := true, recurses := true, apart := false, narrowed := true }
def ChainLawsUptoSaid : Prop := chainLawsUptoRow.holds Try.pinned (OpenSpec.upto chainLawsSpec)

/-- 'corollarylaw21.ChainTwo', WHERE WHAT IT READS IS OF BULK AT MOST 1048576: true; the input reads as it did. -/
def chainTwoUptoRow : OpenClaim := { program := "ythcedfamidlbdaa", sum := "330f49480b0c0080ec7ec246d40274cb76851bd8c3e8b86f94e4102d6bd51e9a", func := "corollary/corollarylaw21.ChainTwo", spec := "chainTwo", unfollowed := true, recurses := true, apart := false, narrowed := true }
def ChainTwoUptoSaid : Prop := chainTwoUptoRow.holds Try.pinned (OpenSpec.upto chainTwoSpec)

end Rows
end Go.Proofs.Ythcedfamidlbdaa
