/-
  DERIVED. GIVEN WITH THE SEED: THE CARDS: each row of YtgbiopfghdilnaaGreatDoorRows.lean that lists a variable, with what it lists TIED to the program's text (the seventh form; the later family's looks); each row that meets fmt, with fmt's text TOLD by the authors' own Lean function (tested against real Go, not proved from fmt's source: count such statements apart). THE CARD IS WHAT COUNTS. Prove the row's statement (the work); the ties are given (YtgbiopfghdilnaaGreatDoorTie.lean); close each card by the builder's one call (the guide's Derived/Test/ToyasCard.lean, 'card_holds'). Laid BY PROGRAM, IN A SANDBOX (cutbox-door.mjs). By AI agents, Wed Nov 11 2026. No macro, syntax, notation, axiom, sorry.
-/
import Derived.Test.YtgbiopfghdilnaaGreatDoorRows
import GoSem.ClaimSeven
namespace Go.Proofs.YtgbiopfghdilnaaGreatDoor
namespace Rows

/-- THE TIED CARD OF 'corollarylaw18.PlanOrders'. -/
def planOrdersCard : Claim7 := { stood := { row := planOrdersRow, standIns := [], harness := (true, "65bcc8f6364c8f64eb7a91f0ecc0dd46c2b0d337d7e1b8d224af9c145682c57a"), looks := true }, kinds := [], alts := [], laidByText := true, laidKinds := [.data, .data, .data, .sentinel, .sentinel, .widerDeep, .data, .widerDeep, .widerDeep], laidTests := true, laidLooks := .later }
def PlanOrdersCardSaid : Prop := Claim7.holds Tryz.pinned (.plain (OpenSpec.ofChange planOrdersSpec)) planOrdersCard

/-- THE TIED CARD OF 'corollarylaw18.PlanSteps'. -/
def planStepsCard : Claim7 := { stood := { row := planStepsRow, standIns := [], harness := (true, "65bcc8f6364c8f64eb7a91f0ecc0dd46c2b0d337d7e1b8d224af9c145682c57a"), looks := true }, kinds := [], alts := [], laidByText := true, laidKinds := [.data, .data, .data, .sentinel, .sentinel, .widerDeep, .data, .widerDeep, .widerDeep], laidTests := true, laidLooks := .later }
def PlanStepsCardSaid : Prop := Claim7.holds Tryz.pinned (.plain (OpenSpec.ofChange planStepsSpec)) planStepsCard

/-- THE TIED CARD OF 'corollarylaw18.PlanKeys'. -/
def planKeysCard : Claim7 := { stood := { row := planKeysRow, standIns := [], harness := (true, "65bcc8f6364c8f64eb7a91f0ecc0dd46c2b0d337d7e1b8d224af9c145682c57a"), looks := true }, kinds := [], alts := [], laidByText := true, laidKinds := [.data, .data, .data, .sentinel, .sentinel, .widerDeep, .data, .widerDeep, .widerDeep], laidTests := true, laidLooks := .later }
def PlanKeysCardSaid : Prop := Claim7.holds Tryz.pinned (.plain (OpenSpec.ofChange planKeysSpec)) planKeysCard

/-- THE TIED CARD OF 'corollarylaw18.PlanRows'. -/
def planRowsCard : Claim7 := { stood := { row := planRowsRow, standIns := [], harness := (true, "65bcc8f6364c8f64eb7a91f0ecc0dd46c2b0d337d7e1b8d224af9c145682c57a"), looks := true }, kinds := [], alts := [], laidByText := true, laidKinds := [.data, .data, .data, .sentinel, .sentinel, .widerDeep, .data, .widerDeep, .widerDeep], laidTests := true, laidLooks := .later }
def PlanRowsCardSaid : Prop := Claim7.holds Tryz.pinned (.plain (OpenSpec.ofChange planRowsSpec)) planRowsCard

/-- THE SECOND FORM's CARD OF 'corollarylaw18.PlanOrders'. -/
def planOrdersUptoCard : Claim7 := { stood := { row := planOrdersUptoRow, standIns := [], harness := (true, "65bcc8f6364c8f64eb7a91f0ecc0dd46c2b0d337d7e1b8d224af9c145682c57a"), looks := true }, kinds := [], alts := [], laidByText := true, laidKinds := [.data, .data, .data, .sentinel, .sentinel, .widerDeep, .data, .widerDeep, .widerDeep], laidTests := true, laidLooks := .later }
def PlanOrdersUptoCardSaid : Prop := Claim7.holds Tryz.pinned (.plain (OpenSpec.upto planOrdersSpec)) planOrdersUptoCard

/-- THE SECOND FORM's CARD OF 'corollarylaw18.PlanSteps'. -/
def planStepsUptoCard : Claim7 := { stood := { row := planStepsUptoRow, standIns := [], harness := (true, "65bcc8f6364c8f64eb7a91f0ecc0dd46c2b0d337d7e1b8d224af9c145682c57a"), looks := true }, kinds := [], alts := [], laidByText := true, laidKinds := [.data, .data, .data, .sentinel, .sentinel, .widerDeep, .data, .widerDeep, .widerDeep], laidTests := true, laidLooks := .later }
def PlanStepsUptoCardSaid : Prop := Claim7.holds Tryz.pinned (.plain (OpenSpec.upto planStepsSpec)) planStepsUptoCard

/-- THE SECOND FORM's CARD OF 'corollarylaw18.PlanKeys'. -/
def planKeysUptoCard : Claim7 := { stood := { row := planKeysUptoRow, standIns := [], harness := (true, "65bcc8f6364c8f64eb7a91f0ecc0dd46c2b0d337d7e1b8d224af9c145682c57a"), looks := true }, kinds := [], alts := [], laidByText := true, laidKinds := [.data, .data, .data, .sentinel, .sentinel, .widerDeep, .data, .widerDeep, .widerDeep], laidTests := true, laidLooks := .later }
def PlanKeysUptoCardSaid : Prop := Claim7.holds Tryz.pinned (.plain (OpenSpec.upto planKeysSpec)) planKeysUptoCard

/-- THE SECOND FORM's CARD OF 'corollarylaw18.PlanRows'. -/
def planRowsUptoCard : Claim7 := { stood := { row := planRowsUptoRow, standIns := [], harness := (true, "65bcc8f6364c8f64eb7a91f0ecc0dd46c2b0d337d7e1b8d224af9c145682c57a"), looks := true }, kinds := [], alts := [], laidByText := true, laidKinds := [.data, .data, .data, .sentinel, .sentinel, .widerDeep, .data, .widerDeep, .widerDeep], laidTests := true, laidLooks := .later }
def PlanRowsUptoCardSaid : Prop := Claim7.holds Tryz.pinned (.plain (OpenSpec.upto planRowsSpec)) planRowsUptoCard
end Rows
end Go.Proofs.YtgbiopfghdilnaaGreatDoor
