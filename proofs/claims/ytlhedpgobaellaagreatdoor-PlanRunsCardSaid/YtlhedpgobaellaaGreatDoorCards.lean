/-
  DERIVED. GIVEN WITH THE SEED: THE CARDS: each row of YtlhedpgobaellaaGreatDoorRows.lean that lists a variable, with what it lists TIED to the program's text (the seventh form; the later family's looks); each row that meets fmt, with fmt's text TOLD by the authors' own Lean function (tested against real Go, not proved from fmt's source: count such statements apart). THE CARD IS WHAT COUNTS. Prove the row's statement (the work); the ties are given (YtlhedpgobaellaaGreatDoorTie.lean); close each card by the builder's one call (the guide's Derived/Test/ToyasCard.lean, 'card_holds'). Laid BY PROGRAM, IN A SANDBOX (cutbox-door.mjs). By AI agents, Wed Nov 11 2026. No macro, syntax, notation, axiom, sorry.
-/
import Derived.Test.YtlhedpgobaellaaGreatDoorRows
import GoSem.ClaimSeven
namespace Go.Proofs.YtlhedpgobaellaaGreatDoor
namespace Rows

/-- THE TIED CARD OF 'corollarylaw15.JoinHolds'. -/
def joinHoldsCard : Claim7 := { stood := { row := joinHoldsRow, standIns := [], harness := (true, "385518114c7b768df11bb572b31ca261b5a840ba17dd4de1c26d80313fb92457"), looks := true }, kinds := [], alts := [], laidByText := true, laidKinds := [.data, .data, .data, .sentinel, .sentinel, .widerDeep, .data, .widerDeep, .widerDeep], laidTests := true, laidLooks := .later }
def JoinHoldsCardSaid : Prop := Claim7.holds Tryz.pinned (.plain (OpenSpec.ofChange joinHoldsSpec)) joinHoldsCard

/-- THE TIED CARD OF 'corollarylaw15.JoinFinds'. -/
def joinFindsCard : Claim7 := { stood := { row := joinFindsRow, standIns := [], harness := (true, "385518114c7b768df11bb572b31ca261b5a840ba17dd4de1c26d80313fb92457"), looks := true }, kinds := [], alts := [], laidByText := true, laidKinds := [.data, .data, .data, .sentinel, .sentinel, .widerDeep, .data, .widerDeep, .widerDeep], laidTests := true, laidLooks := .later }
def JoinFindsCardSaid : Prop := Claim7.holds Tryz.pinned (.plain (OpenSpec.ofChange joinFindsSpec)) joinFindsCard

/-- THE TIED CARD OF 'corollarylaw15.JoinMore'. -/
def joinMoreCard : Claim7 := { stood := { row := joinMoreRow, standIns := [], harness := (true, "385518114c7b768df11bb572b31ca261b5a840ba17dd4de1c26d80313fb92457"), looks := true }, kinds := [], alts := [], laidByText := true, laidKinds := [.data, .data, .data, .sentinel, .sentinel, .widerDeep, .data, .widerDeep, .widerDeep], laidTests := true, laidLooks := .later }
def JoinMoreCardSaid : Prop := Claim7.holds Tryz.pinned (.plain (OpenSpec.ofChange joinMoreSpec)) joinMoreCard

/-- THE TIED CARD OF 'corollarylaw18.PlanRuns'. -/
def planRunsCard : Claim7 := { stood := { row := planRunsRow, standIns := [], harness := (true, "385518114c7b768df11bb572b31ca261b5a840ba17dd4de1c26d80313fb92457"), looks := true }, kinds := [], alts := [], laidByText := true, laidKinds := [.data, .data, .data, .sentinel, .sentinel, .widerDeep, .data, .widerDeep, .widerDeep], laidTests := true, laidLooks := .later }
def PlanRunsCardSaid : Prop := Claim7.holds Tryz.pinned (.plain (OpenSpec.ofChange planRunsSpec)) planRunsCard

/-- THE SECOND FORM's CARD OF 'corollarylaw15.JoinHolds'. -/
def joinHoldsUptoCard : Claim7 := { stood := { row := joinHoldsUptoRow, standIns := [], harness := (true, "385518114c7b768df11bb572b31ca261b5a840ba17dd4de1c26d80313fb92457"), looks := true }, kinds := [], alts := [], laidByText := true, laidKinds := [.data, .data, .data, .sentinel, .sentinel, .widerDeep, .data, .widerDeep, .widerDeep], laidTests := true, laidLooks := .later }
def JoinHoldsUptoCardSaid : Prop := Claim7.holds Tryz.pinned (.plain (OpenSpec.upto joinHoldsSpec)) joinHoldsUptoCard

/-- THE SECOND FORM's CARD OF 'corollarylaw15.JoinFinds'. -/
def joinFindsUptoCard : Claim7 := { stood := { row := joinFindsUptoRow, standIns := [], harness := (true, "385518114c7b768df11bb572b31ca261b5a840ba17dd4de1c26d80313fb92457"), looks := true }, kinds := [], alts := [], laidByText := true, laidKinds := [.data, .data, .data, .sentinel, .sentinel, .widerDeep, .data, .widerDeep, .widerDeep], laidTests := true, laidLooks := .later }
def JoinFindsUptoCardSaid : Prop := Claim7.holds Tryz.pinned (.plain (OpenSpec.upto joinFindsSpec)) joinFindsUptoCard

/-- THE SECOND FORM's CARD OF 'corollarylaw15.JoinMore'. -/
def joinMoreUptoCard : Claim7 := { stood := { row := joinMoreUptoRow, standIns := [], harness := (true, "385518114c7b768df11bb572b31ca261b5a840ba17dd4de1c26d80313fb92457"), looks := true }, kinds := [], alts := [], laidByText := true, laidKinds := [.data, .data, .data, .sentinel, .sentinel, .widerDeep, .data, .widerDeep, .widerDeep], laidTests := true, laidLooks := .later }
def JoinMoreUptoCardSaid : Prop := Claim7.holds Tryz.pinned (.plain (OpenSpec.upto joinMoreSpec)) joinMoreUptoCard

/-- THE SECOND FORM's CARD OF 'corollarylaw18.PlanRuns'. -/
def planRunsUptoCard : Claim7 := { stood := { row := planRunsUptoRow, standIns := [], harness := (true, "385518114c7b768df11bb572b31ca261b5a840ba17dd4de1c26d80313fb92457"), looks := true }, kinds := [], alts := [], laidByText := true, laidKinds := [.data, .data, .data, .sentinel, .sentinel, .widerDeep, .data, .widerDeep, .widerDeep], laidTests := true, laidLooks := .later }
def PlanRunsUptoCardSaid : Prop := Claim7.holds Tryz.pinned (.plain (OpenSpec.upto planRunsSpec)) planRunsUptoCard
end Rows
end Go.Proofs.YtlhedpgobaellaaGreatDoor
