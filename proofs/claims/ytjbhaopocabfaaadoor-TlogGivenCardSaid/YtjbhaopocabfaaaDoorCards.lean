/-
  DERIVED. GIVEN WITH THE SEED: THE CARDS: each row of YtjbhaopocabfaaaDoorRows.lean that lists a variable, with what it lists TIED to the program's text (the seventh form; the later family's looks); each row that meets fmt, with fmt's text TOLD by the authors' own Lean function (tested against real Go, not proved from fmt's source: count such statements apart). THE CARD IS WHAT COUNTS. Prove the row's statement (the work); the ties are given (YtjbhaopocabfaaaDoorTie.lean); close each card by the builder's one call (the guide's Derived/Test/ToyasCard.lean, 'card_holds'). Laid BY PROGRAM, IN A SANDBOX (cutbox-door.mjs). By AI agents, Wed Nov 11 2026. No macro, syntax, notation, axiom, sorry.
-/
import Derived.Test.YtjbhaopocabfaaaDoorRows
import GoSem.ClaimSeven
namespace Go.Proofs.YtjbhaopocabfaaaDoor
namespace Rows

/-- THE TIED CARD OF 'ledgerlaw08.TlogHashes'. -/
def tlogHashesCard : Claim7 := { stood := { row := tlogHashesRow, standIns := [], harness := (true, "ac8f38c5d8b9ce3bea0e1d19206a9226dad70170e6a1198d61f8c18290592f04"), looks := false }, kinds := [], alts := [], laidByText := true, laidKinds := [.data, .data, .data, .widerDeep, .widerDeep], laidTests := true, laidLooks := .later }
def TlogHashesCardSaid : Prop := Claim7.holds Tryd.pinned (.plain (OpenSpec.ofChange tlogHashesSpec)) tlogHashesCard

/-- THE TIED CARD OF 'ledgerlaw08.TlogKeeps'. -/
def tlogKeepsCard : Claim7 := { stood := { row := tlogKeepsRow, standIns := [], harness := (true, "ac8f38c5d8b9ce3bea0e1d19206a9226dad70170e6a1198d61f8c18290592f04"), looks := false }, kinds := [], alts := [], laidByText := true, laidKinds := [.data, .data, .data, .data, .data, .data, .widerDeep, .widerDeep], laidTests := true, laidLooks := .later }
def TlogKeepsCardSaid : Prop := Claim7.holds Tryd.pinned (.plain (OpenSpec.ofChange tlogKeepsSpec)) tlogKeepsCard

/-- THE TIED CARD OF 'ledgerlaw08.TlogFolds'. -/
def tlogFoldsCard : Claim7 := { stood := { row := tlogFoldsRow, standIns := [], harness := (true, "ac8f38c5d8b9ce3bea0e1d19206a9226dad70170e6a1198d61f8c18290592f04"), looks := false }, kinds := [], alts := [], laidByText := true, laidKinds := [.data, .data, .data, .widerDeep, .widerDeep], laidTests := true, laidLooks := .later }
def TlogFoldsCardSaid : Prop := Claim7.holds Tryd.pinned (.plain (OpenSpec.ofChange tlogFoldsSpec)) tlogFoldsCard

/-- THE TIED CARD OF 'ledgerlaw08.TlogBuilt'. -/
def tlogBuiltCard : Claim7 := { stood := { row := tlogBuiltRow, standIns := [], harness := (true, "ac8f38c5d8b9ce3bea0e1d19206a9226dad70170e6a1198d61f8c18290592f04"), looks := false }, kinds := [], alts := [], laidByText := true, laidKinds := [.data, .data, .data, .widerDeep, .widerDeep], laidTests := true, laidLooks := .later }
def TlogBuiltCardSaid : Prop := Claim7.holds Tryd.pinned (.plain (OpenSpec.ofChange tlogBuiltSpec)) tlogBuiltCard

/-- THE TIED CARD OF 'ledgerlaw08.TlogRoots'. -/
def tlogRootsCard : Claim7 := { stood := { row := tlogRootsRow, standIns := [], harness := (true, "ac8f38c5d8b9ce3bea0e1d19206a9226dad70170e6a1198d61f8c18290592f04"), looks := false }, kinds := [], alts := [], laidByText := true, laidKinds := [.data, .data, .data, .widerDeep, .widerDeep], laidTests := true, laidLooks := .later }
def TlogRootsCardSaid : Prop := Claim7.holds Tryd.pinned (.plain (OpenSpec.ofChange tlogRootsSpec)) tlogRootsCard

/-- THE TIED CARD OF 'ledgerlaw08.TlogTrees'. -/
def tlogTreesCard : Claim7 := { stood := { row := tlogTreesRow, standIns := [], harness := (true, "ac8f38c5d8b9ce3bea0e1d19206a9226dad70170e6a1198d61f8c18290592f04"), looks := false }, kinds := [], alts := [], laidByText := true, laidKinds := [.data, .data, .data, .data, .data, .data, .widerDeep, .widerDeep], laidTests := true, laidLooks := .later }
def TlogTreesCardSaid : Prop := Claim7.holds Tryd.pinned (.plain (OpenSpec.ofChange tlogTreesSpec)) tlogTreesCard

/-- THE TIED CARD OF 'ledgerlaw08.TlogAll'. -/
def tlogAllCard : Claim7 := { stood := { row := tlogAllRow, standIns := [], harness := (true, "ac8f38c5d8b9ce3bea0e1d19206a9226dad70170e6a1198d61f8c18290592f04"), looks := false }, kinds := [], alts := [], laidByText := true, laidKinds := [.data, .data, .data, .data, .data, .data, .widerDeep, .widerDeep], laidTests := true, laidLooks := .later }
def TlogAllCardSaid : Prop := Claim7.holds Tryd.pinned (.plain (OpenSpec.ofChange tlogAllSpec)) tlogAllCard

/-- THE TIED CARD OF 'ledgerlaw08.TlogGiven'. -/
def tlogGivenCard : Claim7 := { stood := { row := tlogGivenRow, standIns := [], harness := (true, "ac8f38c5d8b9ce3bea0e1d19206a9226dad70170e6a1198d61f8c18290592f04"), looks := false }, kinds := [], alts := [], laidByText := true, laidKinds := [.data, .data, .data, .widerDeep, .widerDeep], laidTests := true, laidLooks := .later }
def TlogGivenCardSaid : Prop := Claim7.holds Tryd.pinned (.plain (OpenSpec.ofChange tlogGivenSpec)) tlogGivenCard

/-- THE SECOND FORM's CARD OF 'ledgerlaw08.TlogHashes'. -/
def tlogHashesUptoCard : Claim7 := { stood := { row := tlogHashesUptoRow, standIns := [], harness := (true, "ac8f38c5d8b9ce3bea0e1d19206a9226dad70170e6a1198d61f8c18290592f04"), looks := false }, kinds := [], alts := [], laidByText := true, laidKinds := [.data, .data, .data, .widerDeep, .widerDeep], laidTests := true, laidLooks := .later }
def TlogHashesUptoCardSaid : Prop := Claim7.holds Tryd.pinned (.plain (OpenSpec.upto tlogHashesSpec)) tlogHashesUptoCard

/-- THE SECOND FORM's CARD OF 'ledgerlaw08.TlogKeeps'. -/
def tlogKeepsUptoCard : Claim7 := { stood := { row := tlogKeepsUptoRow, standIns := [], harness := (true, "ac8f38c5d8b9ce3bea0e1d19206a9226dad70170e6a1198d61f8c18290592f04"), looks := false }, kinds := [], alts := [], laidByText := true, laidKinds := [.data, .data, .data, .data, .data, .data, .widerDeep, .widerDeep], laidTests := true, laidLooks := .later }
def TlogKeepsUptoCardSaid : Prop := Claim7.holds Tryd.pinned (.plain (OpenSpec.upto tlogKeepsSpec)) tlogKeepsUptoCard

/-- THE SECOND FORM's CARD OF 'ledgerlaw08.TlogFolds'. -/
def tlogFoldsUptoCard : Claim7 := { stood := { row := tlogFoldsUptoRow, standIns := [], harness := (true, "ac8f38c5d8b9ce3bea0e1d19206a9226dad70170e6a1198d61f8c18290592f04"), looks := false }, kinds := [], alts := [], laidByText := true, laidKinds := [.data, .data, .data, .widerDeep, .widerDeep], laidTests := true, laidLooks := .later }
def TlogFoldsUptoCardSaid : Prop := Claim7.holds Tryd.pinned (.plain (OpenSpec.upto tlogFoldsSpec)) tlogFoldsUptoCard

/-- THE SECOND FORM's CARD OF 'ledgerlaw08.TlogBuilt'. -/
def tlogBuiltUptoCard : Claim7 := { stood := { row := tlogBuiltUptoRow, standIns := [], harness := (true, "ac8f38c5d8b9ce3bea0e1d19206a9226dad70170e6a1198d61f8c18290592f04"), looks := false }, kinds := [], alts := [], laidByText := true, laidKinds := [.data, .data, .data, .widerDeep, .widerDeep], laidTests := true, laidLooks := .later }
def TlogBuiltUptoCardSaid : Prop := Claim7.holds Tryd.pinned (.plain (OpenSpec.upto tlogBuiltSpec)) tlogBuiltUptoCard

/-- THE SECOND FORM's CARD OF 'ledgerlaw08.TlogRoots'. -/
def tlogRootsUptoCard : Claim7 := { stood := { row := tlogRootsUptoRow, standIns := [], harness := (true, "ac8f38c5d8b9ce3bea0e1d19206a9226dad70170e6a1198d61f8c18290592f04"), looks := false }, kinds := [], alts := [], laidByText := true, laidKinds := [.data, .data, .data, .widerDeep, .widerDeep], laidTests := true, laidLooks := .later }
def TlogRootsUptoCardSaid : Prop := Claim7.holds Tryd.pinned (.plain (OpenSpec.upto tlogRootsSpec)) tlogRootsUptoCard

/-- THE SECOND FORM's CARD OF 'ledgerlaw08.TlogTrees'. -/
def tlogTreesUptoCard : Claim7 := { stood := { row := tlogTreesUptoRow, standIns := [], harness := (true, "ac8f38c5d8b9ce3bea0e1d19206a9226dad70170e6a1198d61f8c18290592f04"), looks := false }, kinds := [], alts := [], laidByText := true, laidKinds := [.data, .data, .data, .data, .data, .data, .widerDeep, .widerDeep], laidTests := true, laidLooks := .later }
def TlogTreesUptoCardSaid : Prop := Claim7.holds Tryd.pinned (.plain (OpenSpec.upto tlogTreesSpec)) tlogTreesUptoCard

/-- THE SECOND FORM's CARD OF 'ledgerlaw08.TlogAll'. -/
def tlogAllUptoCard : Claim7 := { stood := { row := tlogAllUptoRow, standIns := [], harness := (true, "ac8f38c5d8b9ce3bea0e1d19206a9226dad70170e6a1198d61f8c18290592f04"), looks := false }, kinds := [], alts := [], laidByText := true, laidKinds := [.data, .data, .data, .data, .data, .data, .widerDeep, .widerDeep], laidTests := true, laidLooks := .later }
def TlogAllUptoCardSaid : Prop := Claim7.holds Tryd.pinned (.plain (OpenSpec.upto tlogAllSpec)) tlogAllUptoCard

/-- THE SECOND FORM's CARD OF 'ledgerlaw08.TlogGiven'. -/
def tlogGivenUptoCard : Claim7 := { stood := { row := tlogGivenUptoRow, standIns := [], harness := (true, "ac8f38c5d8b9ce3bea0e1d19206a9226dad70170e6a1198d61f8c18290592f04"), looks := false }, kinds := [], alts := [], laidByText := true, laidKinds := [.data, .data, .data, .widerDeep, .widerDeep], laidTests := true, laidLooks := .later }
def TlogGivenUptoCardSaid : Prop := Claim7.holds Tryd.pinned (.plain (OpenSpec.upto tlogGivenSpec)) tlogGivenUptoCard
end Rows
end Go.Proofs.YtjbhaopocabfaaaDoor
