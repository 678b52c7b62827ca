/-
  No cell of these rows narrows 'for every input' (looked for: loops, veiled, ifaces, maps, wideKeys, modest, calm, conditions, laid).
  DERIVED. THE GIVEN ROWS OF THIS SEAT. 4 by the template 'for every input the law returns true; each argument reads behind the call as it read before'; 0 by the template 'total and deterministic' (their statements: YtecepaehmojpgaaGreatTotals.lean).
  GIVEN WITH THE SEED: the statements are not yours to turn. If you find one false, say at which input.
  Laid BY PROGRAM, IN A SANDBOX (cutbox-rows.mjs): the forced cells as the released guide's own fill.sh prints them over the translation ffd15c7d1596ffee… (all of the seat's roots in one cut). By AI agents, Wed Nov 11 2026. No macro, syntax, notation, axiom, sorry.
-/
import Derived.Test.YtecepaehmojpgaaGreatChecked
import GoSem.Claim
import GoSem.ClaimJoined
import GoSem.ClaimMapViews
import Derived.JoinedTies
import Derived.KernelRfl
namespace Go.Proofs.YtecepaehmojpgaaGreat
/- THE CELL 'sum', in the pinned program and in every row, IS THE sha256 OF THE DUMP (.gsa) THAT YtecepaehmojpgaaGreatProg.lean LOADS. Nothing in Lean hashes anything: it is a label: what it is worth is what the hold of that sum in a sandbox is worth. -/
noncomputable def Tryz.pinned : Pinned := { name := "ytecepaehmojpgaagreat", sum := "ffd15c7d1596ffee90157de40f6618be5e66eea6abf3e1f756b3e576d9a1919d", checked := Tryz.checked }
namespace Rows
def none {H : Type} : Left H := { results := [], args := [] }

/-- 'corollarylaw24.FrontSafe': WHATEVER THE INPUT: true; the input reads as it did. -/
def frontSafeSpec : ChangeSpec := { name := "frontSafe", fn := fun _ => fun
  | [d1, d2, d3] => { results := [.lit (.bool true)], args := [d1, d2, d3] }
  | _ => none }
def frontSafeRow : OpenClaim := { program := "ytecepaehmojpgaagreat", sum := "ffd15c7d1596ffee90157de40f6618be5e66eea6abf3e1f756b3e576d9a1919d", func := "corollary/corollarylaw24.FrontSafe", spec := "frontSafe", inPlace := ["maps.clone"], unfollowed := true, recurses := true, plainKeys := false, apart := false }
def FrontSafeSaid : Prop := frontSafeRow.holds Tryz.pinned (OpenSpec.ofChange frontSafeSpec)

/-- ITS FALSE NEIGHBOUR: 'it returns false'. Refute it at one input. -/
def frontSafeWrong : ChangeSpec := { name := "frontSafe", fn := fun _ => fun
  | [d1, d2, d3] => { results := [.lit (.bool false)], args := [d1, d2, d3] }
  | _ => none }
def FrontSafeWrongFalsely : Prop := frontSafeRow.holds Tryz.pinned (OpenSpec.ofChange frontSafeWrong)

/-- 'corollarylaw24.FrontMakes': WHATEVER THE INPUT: true; the input reads as it did. -/
def frontMakesSpec : ChangeSpec := { name := "frontMakes", fn := fun _ => fun
  | [d1, d2, d3] => { results := [.lit (.bool true)], args := [d1, d2, d3] }
  | _ => none }
def frontMakesRow : OpenClaim := { program := "ytecepaehmojpgaagreat", sum := "ffd15c7d1596ffee90157de40f6618be5e66eea6abf3e1f756b3e576d9a1919d", func := "corollary/corollarylaw24.FrontMakes", spec := "frontMakes", inPlace := ["maps.clone"], unfollowed := true, recurses := true, plainKeys := false, apart := false }
def FrontMakesSaid : Prop := frontMakesRow.holds Tryz.pinned (OpenSpec.ofChange frontMakesSpec)

/-- ITS FALSE NEIGHBOUR: 'it returns false'. Refute it at one input. -/
def frontMakesWrong : ChangeSpec := { name := "frontMakes", fn := fun _ => fun
  | [d1, d2, d3] => { results := [.lit (.bool false)], args := [d1, d2, d3] }
  | _ => none }
def FrontMakesWrongFalsely : Prop := frontMakesRow.holds Tryz.pinned (OpenSpec.ofChange frontMakesWrong)

/-- 'corollarylaw24.FrontSettles': WHATEVER THE INPUT: true; the input reads as it did. -/
def frontSettlesSpec : ChangeSpec := { name := "frontSettles", fn := fun _ => fun
  | [d1, d2, d3] => { results := [.lit (.bool true)], args := [d1, d2, d3] }
  | _ => none }
def frontSettlesRow : OpenClaim := { program := "ytecepaehmojpgaagreat", sum := "ffd15c7d1596ffee90157de40f6618be5e66eea6abf3e1f756b3e576d9a1919d", func := "corollary/corollarylaw24.FrontSettles", spec := "frontSettles", inPlace := ["maps.clone"], unfollowed := true, recurses := true, plainKeys := false, apart := false }
def FrontSettlesSaid : Prop := frontSettlesRow.holds Tryz.pinned (OpenSpec.ofChange frontSettlesSpec)

/-- ITS FALSE NEIGHBOUR: 'it returns false'. Refute it at one input. -/
def frontSettlesWrong : ChangeSpec := { name := "frontSettles", fn := fun _ => fun
  | [d1, d2, d3] => { results := [.lit (.bool false)], args := [d1, d2, d3] }
  | _ => none }
def FrontSettlesWrongFalsely : Prop := frontSettlesRow.holds Tryz.pinned (OpenSpec.ofChange frontSettlesWrong)

/-- 'corollarylaw24.FrontPlays': WHATEVER THE INPUT: true; the input reads as it did. -/
def frontPlaysSpec : ChangeSpec := { name := "frontPlays", fn := fun _ => fun
  | [d1, d2, d3] => { results := [.lit (.bool true)], args := [d1, d2, d3] }
  | _ => none }
def frontPlaysRow : OpenClaim := { program := "ytecepaehmojpgaagreat", sum := "ffd15c7d1596ffee90157de40f6618be5e66eea6abf3e1f756b3e576d9a1919d", func := "corollary/corollarylaw24.FrontPlays", spec := "frontPlays", inPlace := ["maps.clone"], unfollowed := true, recurses := true, plainKeys := false, apart := false }
def FrontPlaysSaid : Prop := frontPlaysRow.holds Tryz.pinned (OpenSpec.ofChange frontPlaysSpec)

/-- ITS FALSE NEIGHBOUR: 'it returns false'. Refute it at one input. -/
def frontPlaysWrong : ChangeSpec := { name := "frontPlays", fn := fun _ => fun
  | [d1, d2, d3] => { results := [.lit (.bool false)], args := [d1, d2, d3] }
  | _ => none }
def FrontPlaysWrongFalsely : Prop := frontPlaysRow.holds Tryz.pinned (OpenSpec.ofChange frontPlaysWrong)

/- THE SECOND FORM. 'bulk': how many values and letters a reading holds, each counted each time it is reached (what is shared counts as often as it is met; a slice's spare places count too). A statement '..UptoSaid' is the law's where the arguments, and the package variables that the reading takes, are together of bulk at most 1048576: NARROWER than '..Said'. Prove '..Said' where nothing that the law and all that it calls make is longer than what came in: it says more and counts as full. Else prove '..UptoSaid'. A law counts once. -/
mutual
def uptoBulk {H : Type} : DataW H → Nat
  | .lit (.string bytes) => bytes.length + 1
  | .lit _ => 1
  | .nil => 1
  | .ptr d => uptoBulk d + 1
  | .slice elems spare => uptoBulkAll elems + uptoBulkAll spare + 1
  | .agg parts => uptoBulkAll parts + 1
  | .iface _ d => uptoBulk d + 1
  | .map entries => uptoBulkEntries entries + 1
  | .held _ => 1
def uptoBulkAll {H : Type} : List (DataW H) → Nat
  | [] => 0
  | d :: r => uptoBulk d + uptoBulkAll r
def uptoBulkEntries {H : Type} : List (Lit × DataW H) → Nat
  | [] => 0
  | x :: r => uptoBulkEntry x + uptoBulkEntries r
def uptoBulkEntry {H : Type} : Lit × DataW H → Nat
  | (.string bytes, d) => bytes.length + uptoBulk d + 1
  | (_, d) => uptoBulk d + 1
 end
def uptoSmall : (H : Type) → List (DataW H) → Bool := fun _ ds => decide (uptoBulkAll ds ≤ 1048576)
def OpenSpec.upto (s : _root_.Go.ChangeSpec) : _root_.Go.OpenSpec := { _root_.Go.OpenSpec.ofChange s with cond := some uptoSmall }

/-- 'corollarylaw24.FrontSafe', WHERE WHAT IT READS IS OF BULK AT MOST 1048576: true; the input reads as it did. -/
def frontSafeUptoRow : OpenClaim := { program := "ytecepaehmojpgaagreat", sum := "ffd15c7d1596ffee90157de40f6618be5e66eea6abf3e1f756b3e576d9a1919d", func := "corollary/corollarylaw24.FrontSafe", spec := "frontSafe", inPlace := ["maps.clone"], unfollowed := true, recurses := true, plainKeys := false, apart := false, narrowed := true }
def FrontSafeUptoSaid : Prop := frontSafeUptoRow.holds Tryz.pinned (OpenSpec.upto frontSafeSpec)

/-- 'corollarylaw24.FrontMakes', WHERE WHAT IT READS IS OF BULK AT MOST 1048576: true; the input reads as it did. -/
def frontMakesUptoRow : OpenClaim := { program := "ytecepaehmojpgaagreat", sum := "ffd15c7d1596ffee90157de40f6618be5e66eea6abf3e1f756b3e576d9a1919d", func := "corollary/corollarylaw24.FrontMakes", spec := "frontMakes", inPlace := ["maps.clone"], unfollowed := true, recurses := true, plainKeys := false, apart := false, narrowed := true }
def FrontMakesUptoSaid : Prop := frontMakesUptoRow.holds Tryz.pinned (OpenSpec.upto frontMakesSpec)

/-- 'corollarylaw24.FrontSettles', WHERE WHAT IT READS IS OF BULK AT MOST 1048576: true; the input reads as it did. -/
def frontSettlesUptoRow : OpenClaim := { program := "ytecepaehmojpgaagreat", sum := "ffd15c7d1596ffee90157de40f6618be5e66eea6abf3e1f756b3e576d9a1919d", func := "corollary/corollarylaw24.FrontSettles", spec := "frontSettles", inPlace := ["maps.clone"], unfollowed := true, recurses := true, plainKeys := false, apart := false, narrowed := true }
def FrontSettlesUptoSaid : Prop := frontSettlesUptoRow.holds Tryz.pinned (OpenSpec.upto frontSettlesSpec)

/-- 'corollarylaw24.FrontPlays', WHERE WHAT IT READS IS OF BULK AT MOST 1048576: true; the input reads as it did. -/
def frontPlaysUptoRow : OpenClaim := { program := "ytecepaehmojpgaagreat", sum := "ffd15c7d1596ffee90157de40f6618be5e66eea6abf3e1f756b3e576d9a1919d", func := "corollary/corollarylaw24.FrontPlays", spec := "frontPlays", inPlace := ["maps.clone"], unfollowed := true, recurses := true, plainKeys := false, apart := false, narrowed := true }
def FrontPlaysUptoSaid : Prop := frontPlaysUptoRow.holds Tryz.pinned (OpenSpec.upto frontPlaysSpec)

end Rows
end Go.Proofs.YtecepaehmojpgaaGreat
