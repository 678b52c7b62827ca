/-
  No cell of these rows narrows 'for every input' (looked for: loops, veiled, ifaces, maps, wideKeys, modest, calm, conditions, laid).
  DERIVED. THE GIVEN ROWS OF THIS SEAT. 9 by the template 'for every input the law returns true; each argument reads behind the call as it read before'; 0 by the template 'total and deterministic' (their statements: YthikfnmcjipobaaGreatTotals.lean).
  GIVEN WITH THE SEED: the statements are not yours to turn. If you find one false, say at which input.
  Laid BY PROGRAM, IN A SANDBOX (cutbox-rows.mjs): the forced cells as the released guide's own fill.sh prints them over the translation 2134a335473d03a0… (all of the seat's roots in one cut). By AI agents, Wed Nov 11 2026. No macro, syntax, notation, axiom, sorry.
-/
import Derived.Test.YthikfnmcjipobaaGreatChecked
import GoSem.Claim
import GoSem.ClaimJoined
import GoSem.ClaimMapViews
import Derived.JoinedTies
import Derived.KernelRfl
namespace Go.Proofs.YthikfnmcjipobaaGreat
/- THE CELL 'sum', in the pinned program and in every row, IS THE sha256 OF THE DUMP (.gsa) THAT YthikfnmcjipobaaGreatProg.lean LOADS. Nothing in Lean hashes anything: it is a label: what it is worth is what the hold of that sum in a sandbox is worth. -/
noncomputable def Tryz.pinned : Pinned := { name := "ythikfnmcjipobaagreat", sum := "2134a335473d03a0413bd688f1fa7e309cbd016b2414f6e7cbe857841b18b58e", checked := Tryz.checked }
namespace Rows
def none {H : Type} : Left H := { results := [], args := [] }

/-- 'corollarylaw23.CountSums': WHATEVER THE INPUT: true; the input reads as it did. -/
def countSumsSpec : ChangeSpec := { name := "countSums", fn := fun _ => fun
  | [d1, d2, d3] => { results := [.lit (.bool true)], args := [d1, d2, d3] }
  | _ => none }
def countSumsRow : OpenClaim := { program := "ythikfnmcjipobaagreat", sum := "2134a335473d03a0413bd688f1fa7e309cbd016b2414f6e7cbe857841b18b58e", func := "corollary/corollarylaw23.CountSums", spec := "countSums", inPlace := ["maps.clone"], unfollowed := true, recurses := true, plainKeys := false, apart := false }
def CountSumsSaid : Prop := countSumsRow.holds Tryz.pinned (OpenSpec.ofChange countSumsSpec)

/-- ITS FALSE NEIGHBOUR: 'it returns false'. Refute it at one input. -/
def countSumsWrong : ChangeSpec := { name := "countSums", fn := fun _ => fun
  | [d1, d2, d3] => { results := [.lit (.bool false)], args := [d1, d2, d3] }
  | _ => none }
def CountSumsWrongFalsely : Prop := countSumsRow.holds Tryz.pinned (OpenSpec.ofChange countSumsWrong)

/-- 'corollarylaw23.CountBack': WHATEVER THE INPUT: true; the input reads as it did. -/
def countBackSpec : ChangeSpec := { name := "countBack", fn := fun _ => fun
  | [d1, d2] => { results := [.lit (.bool true)], args := [d1, d2] }
  | _ => none }
def countBackRow : OpenClaim := { program := "ythikfnmcjipobaagreat", sum := "2134a335473d03a0413bd688f1fa7e309cbd016b2414f6e7cbe857841b18b58e", func := "corollary/corollarylaw23.CountBack", spec := "countBack", inPlace := ["maps.clone"], unfollowed := true, recurses := true, plainKeys := false, apart := false }
def CountBackSaid : Prop := countBackRow.holds Tryz.pinned (OpenSpec.ofChange countBackSpec)

/-- ITS FALSE NEIGHBOUR: 'it returns false'. Refute it at one input. -/
def countBackWrong : ChangeSpec := { name := "countBack", fn := fun _ => fun
  | [d1, d2] => { results := [.lit (.bool false)], args := [d1, d2] }
  | _ => none }
def CountBackWrongFalsely : Prop := countBackRow.holds Tryz.pinned (OpenSpec.ofChange countBackWrong)

/-- 'corollarylaw23.CountLaws': WHATEVER THE INPUT: true; the input reads as it did. -/
def countLawsSpec : ChangeSpec := { name := "countLaws", fn := fun _ => fun
  | [d1, d2, d3] => { results := [.lit (.bool true)], args := [d1, d2, d3] }
  | _ => none }
def countLawsRow : OpenClaim := { program := "ythikfnmcjipobaagreat", sum := "2134a335473d03a0413bd688f1fa7e309cbd016b2414f6e7cbe857841b18b58e", func := "corollary/corollarylaw23.CountLaws", spec := "countLaws", inPlace := ["maps.clone"], unfollowed := true, recurses := true, plainKeys := false, apart := false }
def CountLawsSaid : Prop := countLawsRow.holds Tryz.pinned (OpenSpec.ofChange countLawsSpec)

/-- ITS FALSE NEIGHBOUR: 'it returns false'. Refute it at one input. -/
def countLawsWrong : ChangeSpec := { name := "countLaws", fn := fun _ => fun
  | [d1, d2, d3] => { results := [.lit (.bool false)], args := [d1, d2, d3] }
  | _ => none }
def CountLawsWrongFalsely : Prop := countLawsRow.holds Tryz.pinned (OpenSpec.ofChange countLawsWrong)

/-- 'corollarylaw23.CountPlays': WHATEVER THE INPUT: true; the input reads as it did. -/
def countPlaysSpec : ChangeSpec := { name := "countPlays", fn := fun _ => fun
  | [d1, d2] => { results := [.lit (.bool true)], args := [d1, d2] }
  | _ => none }
def countPlaysRow : OpenClaim := { program := "ythikfnmcjipobaagreat", sum := "2134a335473d03a0413bd688f1fa7e309cbd016b2414f6e7cbe857841b18b58e", func := "corollary/corollarylaw23.CountPlays", spec := "countPlays", inPlace := ["maps.clone"], unfollowed := true, recurses := true, plainKeys := false, apart := false }
def CountPlaysSaid : Prop := countPlaysRow.holds Tryz.pinned (OpenSpec.ofChange countPlaysSpec)

/-- ITS FALSE NEIGHBOUR: 'it returns false'. Refute it at one input. -/
def countPlaysWrong : ChangeSpec := { name := "countPlays", fn := fun _ => fun
  | [d1, d2] => { results := [.lit (.bool false)], args := [d1, d2] }
  | _ => none }
def CountPlaysWrongFalsely : Prop := countPlaysRow.holds Tryz.pinned (OpenSpec.ofChange countPlaysWrong)

/-- 'corollarylaw23.CountNil': WHATEVER THE INPUT: true; the input reads as it did. -/
def countNilSpec : ChangeSpec := { name := "countNil", fn := fun _ => fun
  | [d1, d2] => { results := [.lit (.bool true)], args := [d1, d2] }
  | _ => none }
def countNilRow : OpenClaim := { program := "ythikfnmcjipobaagreat", sum := "2134a335473d03a0413bd688f1fa7e309cbd016b2414f6e7cbe857841b18b58e", func := "corollary/corollarylaw23.CountNil", spec := "countNil", inPlace := ["maps.clone"], unfollowed := true, recurses := true, plainKeys := false, apart := false }
def CountNilSaid : Prop := countNilRow.holds Tryz.pinned (OpenSpec.ofChange countNilSpec)

/-- ITS FALSE NEIGHBOUR: 'it returns false'. Refute it at one input. -/
def countNilWrong : ChangeSpec := { name := "countNil", fn := fun _ => fun
  | [d1, d2] => { results := [.lit (.bool false)], args := [d1, d2] }
  | _ => none }
def CountNilWrongFalsely : Prop := countNilRow.holds Tryz.pinned (OpenSpec.ofChange countNilWrong)

/-- 'corollarylaw24.FrontSafe': WHATEVER THE INPUT: true; the input reads as it did. -/
def frontSafeSpec : ChangeSpec := { name := "frontSafe", fn := fun _ => fun
  | [d1, d2, d3] => { results := [.lit (.bool true)], args := [d1, d2, d3] }
  | _ => none }
def frontSafeRow : OpenClaim := { program := "ythikfnmcjipobaagreat", sum := "2134a335473d03a0413bd688f1fa7e309cbd016b2414f6e7cbe857841b18b58e", func := "corollary/corollarylaw24.FrontSafe", spec := "frontSafe", inPlace := ["maps.clone"], unfollowed := true, recurses := true, plainKeys := false, apart := false }
def FrontSafeSaid : Prop := frontSafeRow.holds Tryz.pinned (OpenSpec.ofChange frontSafeSpec)

/-- ITS FALSE NEIGHBOUR: 'it returns false'. Refute it at one input. -/
def frontSafeWrong : ChangeSpec := { name := "frontSafe", fn := fun _ => fun
  | [d1, d2, d3] => { results := [.lit (.bool false)], args := [d1, d2, d3] }
  | _ => none }
def FrontSafeWrongFalsely : Prop := frontSafeRow.holds Tryz.pinned (OpenSpec.ofChange frontSafeWrong)

/-- 'corollarylaw24.FrontMakes': WHATEVER THE INPUT: true; the input reads as it did. -/
def frontMakesSpec : ChangeSpec := { name := "frontMakes", fn := fun _ => fun
  | [d1, d2, d3] => { results := [.lit (.bool true)], args := [d1, d2, d3] }
  | _ => none }
def frontMakesRow : OpenClaim := { program := "ythikfnmcjipobaagreat", sum := "2134a335473d03a0413bd688f1fa7e309cbd016b2414f6e7cbe857841b18b58e", func := "corollary/corollarylaw24.FrontMakes", spec := "frontMakes", inPlace := ["maps.clone"], unfollowed := true, recurses := true, plainKeys := false, apart := false }
def FrontMakesSaid : Prop := frontMakesRow.holds Tryz.pinned (OpenSpec.ofChange frontMakesSpec)

/-- ITS FALSE NEIGHBOUR: 'it returns false'. Refute it at one input. -/
def frontMakesWrong : ChangeSpec := { name := "frontMakes", fn := fun _ => fun
  | [d1, d2, d3] => { results := [.lit (.bool false)], args := [d1, d2, d3] }
  | _ => none }
def FrontMakesWrongFalsely : Prop := frontMakesRow.holds Tryz.pinned (OpenSpec.ofChange frontMakesWrong)

/-- 'corollarylaw24.FrontSettles': WHATEVER THE INPUT: true; the input reads as it did. -/
def frontSettlesSpec : ChangeSpec := { name := "frontSettles", fn := fun _ => fun
  | [d1, d2, d3] => { results := [.lit (.bool true)], args := [d1, d2, d3] }
  | _ => none }
def frontSettlesRow : OpenClaim := { program := "ythikfnmcjipobaagreat", sum := "2134a335473d03a0413bd688f1fa7e309cbd016b2414f6e7cbe857841b18b58e", func := "corollary/corollarylaw24.FrontSettles", spec := "frontSettles", inPlace := ["maps.clone"], unfollowed := true, recurses := true, plainKeys := false, apart := false }
def FrontSettlesSaid : Prop := frontSettlesRow.holds Tryz.pinned (OpenSpec.ofChange frontSettlesSpec)

/-- ITS FALSE NEIGHBOUR: 'it returns false'. Refute it at one input. -/
def frontSettlesWrong : ChangeSpec := { name := "frontSettles", fn := fun _ => fun
  | [d1, d2, d3] => { results := [.lit (.bool false)], args := [d1, d2, d3] }
  | _ => none }
def FrontSettlesWrongFalsely : Prop := frontSettlesRow.holds Tryz.pinned (OpenSpec.ofChange frontSettlesWrong)

/-- 'corollarylaw24.FrontPlays': WHATEVER THE INPUT: true; the input reads as it did. -/
def frontPlaysSpec : ChangeSpec := { name := "frontPlays", fn := fun _ => fun
  | [d1, d2, d3] => { results := [.lit (.bool true)], args := [d1, d2, d3] }
  | _ => none }
def frontPlaysRow : OpenClaim := { program := "ythikfnmcjipobaagreat", sum := "2134a335473d03a0413bd688f1fa7e309cbd016b2414f6e7cbe857841b18b58e", func := "corollary/corollarylaw24.FrontPlays", spec := "frontPlays", inPlace := ["maps.clone"], unfollowed := true, recurses := true, plainKeys := false, apart := false }
def FrontPlaysSaid : Prop := frontPlaysRow.holds Tryz.pinned (OpenSpec.ofChange frontPlaysSpec)

/-- ITS FALSE NEIGHBOUR: 'it returns false'. Refute it at one input. -/
def frontPlaysWrong : ChangeSpec := { name := "frontPlays", fn := fun _ => fun
  | [d1, d2, d3] => { results := [.lit (.bool false)], args := [d1, d2, d3] }
  | _ => none }
def FrontPlaysWrongFalsely : Prop := frontPlaysRow.holds Tryz.pinned (OpenSpec.ofChange frontPlaysWrong)

/- THE SECOND FORM. 'bulk': how many values and letters a reading holds, each counted each time it is reached (what is shared counts as often as it is met; a slice's spare places count too). A statement '..UptoSaid' is the law's where the arguments, and the package variables that the reading takes, are together of bulk at most 1048576: NARROWER than '..Said'. Prove '..Said' where nothing that the law and all that it calls make is longer than what came in: it says more and counts as full. Else prove '..UptoSaid'. A law counts once. -/
mutual
def uptoBulk {H : Type} : DataW H → Nat
  | .lit (.string bytes) => bytes.length + 1
  | .lit _ => 1
  | .nil => 1
  | .ptr d => uptoBulk d + 1
  | .slice elems spare => uptoBulkAll elems + uptoBulkAll spare + 1
  | .agg parts => uptoBulkAll parts + 1
  | .iface _ d => uptoBulk d + 1
  | .map entries => uptoBulkEntries entries + 1
  | .held _ => 1
def uptoBulkAll {H : Type} : List (DataW H) → Nat
  | [] => 0
  | d :: r => uptoBulk d + uptoBulkAll r
def uptoBulkEntries {H : Type} : List (Lit × DataW H) → Nat
  | [] => 0
  | x :: r => uptoBulkEntry x + uptoBulkEntries r
def uptoBulkEntry {H : Type} : Lit × DataW H → Nat
  | (.string bytes, d) => bytes.length + uptoBulk d + 1
  | (_, d) => uptoBulk d + 1
 end
def uptoSmall : (H : Type) → List (DataW H) → Bool := fun _ ds => decide (uptoBulkAll ds ≤ 1048576)
def OpenSpec.upto (s : _root_.Go.ChangeSpec) : _root_.Go.OpenSpec := { _root_.Go.OpenSpec.ofChange s with cond := some uptoSmall }

/-- 'corollarylaw23.CountSums', WHERE WHAT IT READS IS OF BULK AT MOST 1048576: true; the input reads as it did. -/
def countSumsUptoRow : OpenClaim := { program := "ythikfnmcjipobaagreat", sum := "2134a335473d03a0413bd688f1fa7e309cbd016b2414f6e7cbe857841b18b58e", func := "corollary/corollarylaw23.CountSums", spec := "countSums", inPlace := ["maps.clone"], unfollowed := true, recurses := true, plainKeys := false, apart := false, narrowed := true }
def CountSumsUptoSaid : Prop := countSumsUptoRow.holds Tryz.pinned (OpenSpec.upto countSumsSpec)

/-- 'corollarylaw23.CountBack', WHERE WHAT IT READS IS OF BULK AT MOST 1048576: true; the input reads as it did. -/
def countBackUptoRow : OpenClaim := { program := "ythikfnmcjipobaagreat", sum := "2134a335473d03a0413bd688f1fa7e309cbd016b2414f6e7cbe857841b18b58e", func := "corollary/corollarylaw23.CountBack", spec := "countBack", inPlace := ["maps.clone"], unfollowed := true, recurses := true, plainKeys := false, apart := false, narrowed := true }
def CountBackUptoSaid : Prop := countBackUptoRow.holds Tryz.pinned (OpenSpec.upto countBackSpec)

/-- 'corollarylaw23.CountLaws', WHERE WHAT IT READS IS OF BULK AT MOST 1048576: true; the input reads as it did. -/
def countLawsUptoRow : OpenClaim := { program := "ythikfnmcjipobaagreat", sum := "2134a335473d03a0413bd688f1fa7e309cbd016b2414f6e7cbe857841b18b58e", func := "corollary/corollarylaw23.CountLaws", spec := "countLaws", inPlace := ["maps.clone"], unfollowed := true, recurses := true, plainKeys := false, apart := false, narrowed := true }
def CountLawsUptoSaid : Prop := countLawsUptoRow.holds Tryz.pinned (OpenSpec.upto countLawsSpec)

/-- 'corollarylaw23.CountPlays', WHERE WHAT IT READS IS OF BULK AT MOST 1048576: true; the input reads as it did. -/
def countPlaysUptoRow : OpenClaim := { program := "ythikfnmcjipobaagreat", sum := "2134a335473d03a0413bd688f1fa7e309cbd016b2414f6e7cbe857841b18b58e", func := "corollary/corollarylaw23.CountPlays", spec := "countPlays", inPlace := ["maps.clone"], unfollowed := true, recurses := true, plainKeys := false, apart := false, narrowed := true }
def CountPlaysUptoSaid : Prop := countPlaysUptoRow.holds Tryz.pinned (OpenSpec.upto countPlaysSpec)

/-- 'corollarylaw23.CountNil', WHERE WHAT IT READS IS OF BULK AT MOST 1048576: true; the input reads as it did. -/
def countNilUptoRow : OpenClaim := { program := "ythikfnmcjipobaagreat", sum := "2134a335473d03a0413bd688f1fa7e309cbd016b2414f6e7cbe857841b18b58e", func := "corollary/corollarylaw23.CountNil", spec := "countNil", inPlace := ["maps.clone"], unfollowed := true, recurses := true, plainKeys := false, apart := false, narrowed := true }
def CountNilUptoSaid : Prop := countNilUptoRow.holds Tryz.pinned (OpenSpec.upto countNilSpec)

/-- 'corollarylaw24.FrontSafe', WHERE WHAT IT READS IS OF BULK AT MOST 1048576: true; the input reads as it did. -/
def frontSafeUptoRow : OpenClaim := { program := "ythikfnmcjipobaagreat", sum := "2134a335473d03a0413bd688f1fa7e309cbd016b2414f6e7cbe857841b18b58e", func := "corollary/corollarylaw24.FrontSafe", spec := "frontSafe", inPlace := ["maps.clone"], unfollowed := true, recurses := true, plainKeys := false, apart := false, narrowed := true }
def FrontSafeUptoSaid : Prop := frontSafeUptoRow.holds Tryz.pinned (OpenSpec.upto frontSafeSpec)

/-- 'corollarylaw24.FrontMakes', WHERE WHAT IT READS IS OF BULK AT MOST 1048576: true; the input reads as it did. -/
def frontMakesUptoRow : OpenClaim := { program := "ythikfnmcjipobaagreat", sum := "2134a335473d03a0413bd688f1fa7e309cbd016b2414f6e7cbe857841b18b58e", func := "corollary/corollarylaw24.FrontMakes", spec := "frontMakes", inPlace := ["maps.clone"], unfollowed := true, recurses := true, plainKeys := false, apart := false, narrowed := true }
def FrontMakesUptoSaid : Prop := frontMakesUptoRow.holds Tryz.pinned (OpenSpec.upto frontMakesSpec)

/-- 'corollarylaw24.FrontSettles', WHERE WHAT IT READS IS OF BULK AT MOST 1048576: true; the input reads as it did. -/
def frontSettlesUptoRow : OpenClaim := { program := "ythikfnmcjipobaagreat", sum := "2134a335473d03a0413bd688f1fa7e309cbd016b2414f6e7cbe857841b18b58e", func := "corollary/corollarylaw24.FrontSettles", spec := "frontSettles", inPlace := ["maps.clone"], unfollowed := true, recurses := true, plainKeys := false, apart := false, narrowed := true }
def FrontSettlesUptoSaid : Prop := frontSettlesUptoRow.holds Tryz.pinned (OpenSpec.upto frontSettlesSpec)

/-- 'corollarylaw24.FrontPlays', WHERE WHAT IT READS IS OF BULK AT MOST 1048576: true; the input reads as it did. -/
def frontPlaysUptoRow : OpenClaim := { program := "ythikfnmcjipobaagreat", sum := "2134a335473d03a0413bd688f1fa7e309cbd016b2414f6e7cbe857841b18b58e", func := "corollary/corollarylaw24.FrontPlays", spec := "frontPlays", inPlace := ["maps.clone"], unfollowed := true, recurses := true, plainKeys := false, apart := false, narrowed := true }
def FrontPlaysUptoSaid : Prop := frontPlaysUptoRow.holds Tryz.pinned (OpenSpec.upto frontPlaysSpec)

end Rows
end Go.Proofs.YthikfnmcjipobaaGreat
