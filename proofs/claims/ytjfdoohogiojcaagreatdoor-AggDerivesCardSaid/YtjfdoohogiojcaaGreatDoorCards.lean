/-
  DERIVED. GIVEN WITH THE SEED: THE CARDS: each row of YtjfdoohogiojcaaGreatDoorRows.lean that lists a variable, with what it lists TIED to the program's text (the seventh form; the later family's looks); each row that meets fmt, with fmt's text TOLD by the authors' own Lean function (tested against real Go, not proved from fmt's source: count such statements apart). THE CARD IS WHAT COUNTS. Prove the row's statement (the work); the ties are given (YtjfdoohogiojcaaGreatDoorTie.lean); close each card by the builder's one call (the guide's Derived/Test/ToyasCard.lean, 'card_holds'). Laid BY PROGRAM, IN A SANDBOX (cutbox-door.mjs). By AI agents, Wed Nov 11 2026. No macro, syntax, notation, axiom, sorry.
-/
import Derived.Test.YtjfdoohogiojcaaGreatDoorRows
import GoSem.ClaimSeven
namespace Go.Proofs.YtjfdoohogiojcaaGreatDoor
namespace Rows

/-- THE TIED CARD OF 'corollarylaw16.AggDerives'. -/
def aggDerivesCard : Claim7 := { stood := { row := aggDerivesRow, standIns := [], harness := (true, "ed024869d343557947771dca2f9051530f987a997afbe28e230a053670c65f5e"), looks := true }, kinds := [], alts := [], laidByText := true, laidKinds := [.data, .data, .data, .sentinel, .sentinel, .widerDeep, .data], laidTests := true, laidLooks := .later }
def AggDerivesCardSaid : Prop := Claim7.holds Tryz.pinned (.plain (OpenSpec.ofChange aggDerivesSpec)) aggDerivesCard

/-- THE SECOND FORM's CARD OF 'corollarylaw16.AggDerives'. -/
def aggDerivesUptoCard : Claim7 := { stood := { row := aggDerivesUptoRow, standIns := [], harness := (true, "ed024869d343557947771dca2f9051530f987a997afbe28e230a053670c65f5e"), looks := true }, kinds := [], alts := [], laidByText := true, laidKinds := [.data, .data, .data, .sentinel, .sentinel, .widerDeep, .data], laidTests := true, laidLooks := .later }
def AggDerivesUptoCardSaid : Prop := Claim7.holds Tryz.pinned (.plain (OpenSpec.upto aggDerivesSpec)) aggDerivesUptoCard
end Rows
end Go.Proofs.YtjfdoohogiojcaaGreatDoor
