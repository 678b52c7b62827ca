/-
  No cell of these rows narrows 'for every input' (looked for: loops, veiled, ifaces, maps, wideKeys, modest, calm, conditions, laid).
  DERIVED. THE GIVEN ROWS OF THIS SEAT. 4 by the template 'for every input the law returns true; each argument reads behind the call as it read before'; 0 by the template 'total and deterministic' (their statements: YtmpmngakheoacaaTotals.lean).
  GIVEN WITH THE SEED: the statements are not yours to turn. If you find one false, say at which input.
  Laid BY PROGRAM, IN A SANDBOX (cutbox-rows.mjs): the forced cells as the released guide's own fill.sh prints them over the translation 4d5078df26b2f3de… (all of the seat's roots in one cut). By AI agents, Wed Nov 11 2026. No macro, syntax, notation, axiom, sorry.
-/
import Derived.Test.YtmpmngakheoacaaChecked
import GoSem.Claim
import GoSem.ClaimJoined
import GoSem.ClaimMapViews
import Derived.JoinedTies
import Derived.KernelRfl
namespace Go.Proofs.Ytmpmngakheoacaa
/- THE CELL 'sum', in the pinned program and in every row, IS THE sha256 OF THE DUMP (.gsa) THAT YtmpmngakheoacaaProg.lean LOADS. Nothing in Lean hashes anything: it is a label: what it is worth is what the hold of that sum in a sandbox is worth. -/
noncomputable def Try.pinned : Pinned := { name := "ytmpmngakheoacaa", sum := "4d5078df26b2f3de0499d227415d5ed6be5ffe7d8becf34cad5d99628c1a4102", checked := Try.checked }
namespace Rows
def none {H : Type} : Left H := { results := [], args := [] }

/-- 'corollarylaw22.PathMaps': WHATEVER THE INPUT: true; the input reads as it did. -/
def pathMapsSpec : ChangeSpec := { name := "pathMaps", fn := fun _ => fun
  | [d] => { results := [.lit (.bool true)], args := [d] }
  | _ => none }
def pathMapsRow : OpenClaim := { program := "ytmpmngakheoacaa", sum := "4d5078df26b2f3de0499d227415d5ed6be5ffe7d8becf34cad5d99628c1a4102", func := "corollary/corollarylaw22.PathMaps", spec := "pathMaps", unfollowed := true, recurses := true, apart := false }
def PathMapsSaid : Prop := pathMapsRow.holds Try.pinned (OpenSpec.ofChange pathMapsSpec)

/-- ITS FALSE NEIGHBOUR: 'it returns false'. Refute it at one input. -/
def pathMapsWrong : ChangeSpec := { name := "pathMaps", fn := fun _ => fun
  | [d] => { results := [.lit (.bool false)], args := [d] }
  | _ => none }
def PathMapsWrongFalsely : Prop := pathMapsRow.holds Try.pinned (OpenSpec.ofChange pathMapsWrong)

/-- 'corollarylaw22.PathThrough': WHATEVER THE INPUT: true; the input reads as it did. -/
def pathThroughSpec : ChangeSpec := { name := "pathThrough", fn := fun _ => fun
  | [d1, d2] => { results := [.lit (.bool true)], args := [d1, d2] }
  | _ => none }
def pathThroughRow : OpenClaim := { program := "ytmpmngakheoacaa", sum := "4d5078df26b2f3de0499d227415d5ed6be5ffe7d8becf34cad5d99628c1a4102", func := "corollary/corollarylaw22.PathThrough", spec := "pathThrough", unfollowed := true, recurses := true, apart := false }
def PathThroughSaid : Prop := pathThroughRow.holds Try.pinned (OpenSpec.ofChange pathThroughSpec)

/-- ITS FALSE NEIGHBOUR: 'it returns false'. Refute it at one input. -/
def pathThroughWrong : ChangeSpec := { name := "pathThrough", fn := fun _ => fun
  | [d1, d2] => { results := [.lit (.bool false)], args := [d1, d2] }
  | _ => none }
def PathThroughWrongFalsely : Prop := pathThroughRow.holds Try.pinned (OpenSpec.ofChange pathThroughWrong)

/-- 'corollarylaw22.PathAdds': WHATEVER THE INPUT: true; the input reads as it did. -/
def pathAddsSpec : ChangeSpec := { name := "pathAdds", fn := fun _ => fun
  | [d1, d2, d3] => { results := [.lit (.bool true)], args := [d1, d2, d3] }
  | _ => none }
def pathAddsRow : OpenClaim := { program := "ytmpmngakheoacaa", sum := "4d5078df26b2f3de0499d227415d5ed6be5ffe7d8becf34cad5d99628c1a4102", func := "corollary/corollarylaw22.PathAdds", spec := "pathAdds", unfollowed := true, recurses := true, apart := false }
def PathAddsSaid : Prop := pathAddsRow.holds Try.pinned (OpenSpec.ofChange pathAddsSpec)

/-- ITS FALSE NEIGHBOUR: 'it returns false'. Refute it at one input. -/
def pathAddsWrong : ChangeSpec := { name := "pathAdds", fn := fun _ => fun
  | [d1, d2, d3] => { results := [.lit (.bool false)], args := [d1, d2, d3] }
  | _ => none }
def PathAddsWrongFalsely : Prop := pathAddsRow.holds Try.pinned (OpenSpec.ofChange pathAddsWrong)

/-- 'corollarylaw22.PathAll': WHATEVER THE INPUT: true; the input reads as it did. -/
def pathAllSpec : ChangeSpec := { name := "pathAll", fn := fun _ => fun
  | [d1, d2, d3] => { results := [.lit (.bool true)], args := [d1, d2, d3] }
  | _ => none }
def pathAllRow : OpenClaim := { program := "ytmpmngakheoacaa", sum := "4d5078df26b2f3de0499d227415d5ed6be5ffe7d8becf34cad5d99628c1a4102", func := "corollary/corollarylaw22.PathAll", spec := "pathAll", unfollowed := true, recurses := true, apart := false }
def PathAllSaid : Prop := pathAllRow.holds Try.pinned (OpenSpec.ofChange pathAllSpec)

/-- ITS FALSE NEIGHBOUR: 'it returns false'. Refute it at one input. -/
def pathAllWrong : ChangeSpec := { name := "pathAll", fn := fun _ => fun
  | [d1, d2, d3] => { results := [.lit (.bool false)], args := [d1, d2, d3] }
  | _ => none }
def PathAllWrongFalsely : Prop := pathAllRow.holds Try.pinned (OpenSpec.ofChange pathAllWrong)

/- THE SECOND FORM. 'bulk': how many values and letters a reading holds, each counted each time it is reached (what is shared counts as often as it is met; a slice's spare places count too). A statement '..UptoSaid' is the law's where the arguments, and the package variables that the reading takes, are together of bulk at most 1048576: NARROWER than '..Said'. Prove '..Said' where nothing that the law and all that it calls make is longer than what came in: it says more and counts as full. Else prove '..UptoSaid'. A law counts once. -/
mutual
def uptoBulk {H : Type} : DataW H → Nat
  | .lit (.string bytes) => bytes.length + 1
  | .lit _ => 1
  | .nil => 1
  | .ptr d => uptoBulk d + 1
  | .slice elems spare => uptoBulkAll elems + uptoBulkAll spare + 1
  | .agg parts => uptoBulkAll parts + 1
  | .iface _ d => uptoBulk d + 1
  | .map entries => uptoBulkEntries entries + 1
  | .held _ => 1
def uptoBulkAll {H : Type} : List (DataW H) → Nat
  | [] => 0
  | d :: r => uptoBulk d + uptoBulkAll r
def uptoBulkEntries {H : Type} : List (Lit × DataW H) → Nat
  | [] => 0
  | x :: r => uptoBulkEntry x + uptoBulkEntries r
def uptoBulkEntry {H : Type} : Lit × DataW H → Nat
  | (.string bytes, d) => bytes.length + uptoBulk d + 1
  | (_, d) => uptoBulk d + 1
 end
def uptoSmall : (H : Type) → List (DataW H) → Bool := fun _ ds => decide (uptoBulkAll ds ≤ 1048576)
def OpenSpec.upto (s : _root_.Go.ChangeSpec) : _root_.Go.OpenSpec := { _root_.Go.OpenSpec.ofChange s with cond := some uptoSmall }

/-- 'corollarylaw22.PathMaps', WHERE WHAT IT READS IS OF BULK AT MOST 1048576: true; the input reads as it did. -/
def pathMapsUptoRow : OpenClaim := { program := "ytmpmngakheoacaa", sum := "4d5078df26b2f3de0499d227415d5ed6be5ffe7d8becf34cad5d99628c1a4102", func := "corollary/corollarylaw22.PathMaps", spec := "pathMaps", unfollowed := true, recurses := true, apart := false, narrowed := true }
def PathMapsUptoSaid : Prop := pathMapsUptoRow.holds Try.pinned (OpenSpec.upto pathMapsSpec)

/-- 'corollarylaw22.PathThrough', WHERE WHAT IT READS IS OF BULK AT MOST 1048576: true; the input reads as it did. -/
def pathThroughUptoRow : OpenClaim := { program := "ytmpmngakheoacaa", sum := "4d5078df26b2f3de0499d227415d5ed6be5ffe7d8becf34cad5d99628c1a4102", func := "corollary/corollarylaw22.PathThrough", spec := "pathThrough", unfollowed := true, recurses := true, apart := false, narrowed := true }
def PathThroughUptoSaid : Prop := pathThroughUptoRow.holds Try.pinned (OpenSpec.upto pathThroughSpec)

/-- 'corollarylaw22.PathAdds', WHERE WHAT IT READS IS OF BULK AT MOST 1048576: true; the input reads as it did. -/
def pathAddsUptoRow : OpenClaim := { program := "ytmpmngakheoacaa", sum := "4d5078df26b2f3de0499d227415d5ed6be5ffe7d8becf34cad5d99628c1a4102", func := "corollary/corollarylaw22.PathAdds", spec := "pathAdds", unfollowed := true, recurses := true, apart := false, narrowed := true }
def PathAddsUptoSaid : Prop := pathAddsUptoRow.holds Try.pinned (OpenSpec.upto pathAddsSpec)

/-- 'corollarylaw22.PathAll', WHERE WHAT IT READS IS OF BULK AT MOST 1048576: true; the input reads as it did. -/
def pathAllUptoRow : OpenClaim := { program := "ytmpmngakheoacaa", sum := "4d5078df26b2f3de0499d227415d5ed6be5ffe7d8becf34cad5d99628c1a4102", func := "corollary/corollarylaw22.PathAll", spec := "pathAll", unfollowed := true, recurses := true, apart := false, narrowed := true }
def PathAllUptoSaid : Prop := pathAllUptoRow.holds Try.pinned (OpenSpec.upto pathAllSpec)

end Rows
end Go.Proofs.Ytmpmngakheoacaa
