/-
  DERIVED. GIVEN WITH THE SEED: THE CARDS: each row of YtjcmgpiapbeodaaDoorRows.lean that lists a variable, with what it lists TIED to the program's text (the seventh form; the later family's looks); each row that meets fmt, with fmt's text TOLD by the authors' own Lean function (tested against real Go, not proved from fmt's source: count such statements apart). THE CARD IS WHAT COUNTS. Prove the row's statement (the work); the ties are given (YtjcmgpiapbeodaaDoorTie.lean); close each card by the builder's one call (the guide's Derived/Test/ToyasCard.lean, 'card_holds'). Laid BY PROGRAM, IN A SANDBOX (cutbox-door.mjs). By AI agents, Wed Nov 11 2026. No macro, syntax, notation, axiom, sorry.
-/
import Derived.Test.YtjcmgpiapbeodaaDoorRows
import GoSem.ClaimSeven
namespace Go.Proofs.YtjcmgpiapbeodaaDoor
namespace Rows

/-- THE TIED CARD OF 'ledgerlaw09.ProofBytes'. -/
def proofBytesCard : Claim7 := { stood := { row := proofBytesRow, standIns := [], harness := (true, "5b4620d08434b7e40b5a2c8339787fd5fc20e622b9dc13a8aadf4b1ef35fedfd"), looks := true }, kinds := [], alts := [], laidByText := true, laidKinds := [.data, .data, .data, .widerDeep, .widerDeep], laidTests := true, laidLooks := .later }
def ProofBytesCardSaid : Prop := Claim7.holds Tryd.pinned (.plain (OpenSpec.ofChange proofBytesSpec)) proofBytesCard

/-- THE TIED CARD OF 'ledgerlaw09.ProofTrees'. -/
def proofTreesCard : Claim7 := { stood := { row := proofTreesRow, standIns := [], harness := (true, "5b4620d08434b7e40b5a2c8339787fd5fc20e622b9dc13a8aadf4b1ef35fedfd"), looks := true }, kinds := [], alts := [], laidByText := true, laidKinds := [.data, .data, .data, .widerDeep, .widerDeep], laidTests := true, laidLooks := .later }
def ProofTreesCardSaid : Prop := Claim7.holds Tryd.pinned (.plain (OpenSpec.ofChange proofTreesSpec)) proofTreesCard

/-- THE TIED CARD OF 'ledgerlaw09.ProofParts'. -/
def proofPartsCard : Claim7 := { stood := { row := proofPartsRow, standIns := [], harness := (true, "5b4620d08434b7e40b5a2c8339787fd5fc20e622b9dc13a8aadf4b1ef35fedfd"), looks := true }, kinds := [], alts := [], laidByText := true, laidKinds := [.data, .data, .data, .widerDeep, .widerDeep], laidTests := true, laidLooks := .later }
def ProofPartsCardSaid : Prop := Claim7.holds Tryd.pinned (.plain (OpenSpec.ofChange proofPartsSpec)) proofPartsCard

/-- THE TIED CARD OF 'ledgerlaw09.ProofLifts'. -/
def proofLiftsCard : Claim7 := { stood := { row := proofLiftsRow, standIns := [], harness := (true, "5b4620d08434b7e40b5a2c8339787fd5fc20e622b9dc13a8aadf4b1ef35fedfd"), looks := true }, kinds := [], alts := [], laidByText := true, laidKinds := [.data, .data, .data, .widerDeep, .widerDeep], laidTests := true, laidLooks := .later }
def ProofLiftsCardSaid : Prop := Claim7.holds Tryd.pinned (.plain (OpenSpec.ofChange proofLiftsSpec)) proofLiftsCard

/-- THE TIED CARD OF 'ledgerlaw09.ProofGiven'. -/
def proofGivenCard : Claim7 := { stood := { row := proofGivenRow, standIns := [], harness := (true, "5b4620d08434b7e40b5a2c8339787fd5fc20e622b9dc13a8aadf4b1ef35fedfd"), looks := true }, kinds := [], alts := [], laidByText := true, laidKinds := [.data, .data, .data, .widerDeep, .widerDeep], laidTests := true, laidLooks := .later }
def ProofGivenCardSaid : Prop := Claim7.holds Tryd.pinned (.plain (OpenSpec.ofChange proofGivenSpec)) proofGivenCard

/-- THE TIED CARD OF 'ledgerlaw09.ProofTakes'. -/
def proofTakesCard : Claim7 := { stood := { row := proofTakesRow, standIns := [], harness := (true, "5b4620d08434b7e40b5a2c8339787fd5fc20e622b9dc13a8aadf4b1ef35fedfd"), looks := true }, kinds := [], alts := [], laidByText := true, laidKinds := [.data, .data, .data, .widerDeep, .widerDeep], laidTests := true, laidLooks := .later }
def ProofTakesCardSaid : Prop := Claim7.holds Tryd.pinned (.plain (OpenSpec.ofChange proofTakesSpec)) proofTakesCard

/-- THE TIED CARD OF 'ledgerlaw09.ProofForged'. -/
def proofForgedCard : Claim7 := { stood := { row := proofForgedRow, standIns := [], harness := (true, "5b4620d08434b7e40b5a2c8339787fd5fc20e622b9dc13a8aadf4b1ef35fedfd"), looks := true }, kinds := [], alts := [], laidByText := true, laidKinds := [.data, .data, .data, .widerDeep, .widerDeep], laidTests := true, laidLooks := .later }
def ProofForgedCardSaid : Prop := Claim7.holds Tryd.pinned (.plain (OpenSpec.ofChange proofForgedSpec)) proofForgedCard

/-- THE SECOND FORM's CARD OF 'ledgerlaw09.ProofBytes'. -/
def proofBytesUptoCard : Claim7 := { stood := { row := proofBytesUptoRow, standIns := [], harness := (true, "5b4620d08434b7e40b5a2c8339787fd5fc20e622b9dc13a8aadf4b1ef35fedfd"), looks := true }, kinds := [], alts := [], laidByText := true, laidKinds := [.data, .data, .data, .widerDeep, .widerDeep], laidTests := true, laidLooks := .later }
def ProofBytesUptoCardSaid : Prop := Claim7.holds Tryd.pinned (.plain (OpenSpec.upto proofBytesSpec)) proofBytesUptoCard

/-- THE SECOND FORM's CARD OF 'ledgerlaw09.ProofTrees'. -/
def proofTreesUptoCard : Claim7 := { stood := { row := proofTreesUptoRow, standIns := [], harness := (true, "5b4620d08434b7e40b5a2c8339787fd5fc20e622b9dc13a8aadf4b1ef35fedfd"), looks := true }, kinds := [], alts := [], laidByText := true, laidKinds := [.data, .data, .data, .widerDeep, .widerDeep], laidTests := true, laidLooks := .later }
def ProofTreesUptoCardSaid : Prop := Claim7.holds Tryd.pinned (.plain (OpenSpec.upto proofTreesSpec)) proofTreesUptoCard

/-- THE SECOND FORM's CARD OF 'ledgerlaw09.ProofParts'. -/
def proofPartsUptoCard : Claim7 := { stood := { row := proofPartsUptoRow, standIns := [], harness := (true, "5b4620d08434b7e40b5a2c8339787fd5fc20e622b9dc13a8aadf4b1ef35fedfd"), looks := true }, kinds := [], alts := [], laidByText := true, laidKinds := [.data, .data, .data, .widerDeep, .widerDeep], laidTests := true, laidLooks := .later }
def ProofPartsUptoCardSaid : Prop := Claim7.holds Tryd.pinned (.plain (OpenSpec.upto proofPartsSpec)) proofPartsUptoCard

/-- THE SECOND FORM's CARD OF 'ledgerlaw09.ProofLifts'. -/
def proofLiftsUptoCard : Claim7 := { stood := { row := proofLiftsUptoRow, standIns := [], harness := (true, "5b4620d08434b7e40b5a2c8339787fd5fc20e622b9dc13a8aadf4b1ef35fedfd"), looks := true }, kinds := [], alts := [], laidByText := true, laidKinds := [.data, .data, .data, .widerDeep, .widerDeep], laidTests := true, laidLooks := .later }
def ProofLiftsUptoCardSaid : Prop := Claim7.holds Tryd.pinned (.plain (OpenSpec.upto proofLiftsSpec)) proofLiftsUptoCard

/-- THE SECOND FORM's CARD OF 'ledgerlaw09.ProofGiven'. -/
def proofGivenUptoCard : Claim7 := { stood := { row := proofGivenUptoRow, standIns := [], harness := (true, "5b4620d08434b7e40b5a2c8339787fd5fc20e622b9dc13a8aadf4b1ef35fedfd"), looks := true }, kinds := [], alts := [], laidByText := true, laidKinds := [.data, .data, .data, .widerDeep, .widerDeep], laidTests := true, laidLooks := .later }
def ProofGivenUptoCardSaid : Prop := Claim7.holds Tryd.pinned (.plain (OpenSpec.upto proofGivenSpec)) proofGivenUptoCard

/-- THE SECOND FORM's CARD OF 'ledgerlaw09.ProofTakes'. -/
def proofTakesUptoCard : Claim7 := { stood := { row := proofTakesUptoRow, standIns := [], harness := (true, "5b4620d08434b7e40b5a2c8339787fd5fc20e622b9dc13a8aadf4b1ef35fedfd"), looks := true }, kinds := [], alts := [], laidByText := true, laidKinds := [.data, .data, .data, .widerDeep, .widerDeep], laidTests := true, laidLooks := .later }
def ProofTakesUptoCardSaid : Prop := Claim7.holds Tryd.pinned (.plain (OpenSpec.upto proofTakesSpec)) proofTakesUptoCard

/-- THE SECOND FORM's CARD OF 'ledgerlaw09.ProofForged'. -/
def proofForgedUptoCard : Claim7 := { stood := { row := proofForgedUptoRow, standIns := [], harness := (true, "5b4620d08434b7e40b5a2c8339787fd5fc20e622b9dc13a8aadf4b1ef35fedfd"), looks := true }, kinds := [], alts := [], laidByText := true, laidKinds := [.data, .data, .data, .widerDeep, .widerDeep], laidTests := true, laidLooks := .later }
def ProofForgedUptoCardSaid : Prop := Claim7.holds Tryd.pinned (.plain (OpenSpec.upto proofForgedSpec)) proofForgedUptoCard
end Rows
end Go.Proofs.YtjcmgpiapbeodaaDoor
