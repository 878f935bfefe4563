/-
  DERIVED. GIVEN WITH THE SEED: THE CARDS: each row of YtjcfnflkiialbaaDoorRows.lean that lists a variable, with what it lists TIED to the program's text (the seventh form; the later family's looks); each row that meets fmt, with fmt's text TOLD by the authors' own Lean function (tested against real Go, not proved from fmt's source: count such statements apart). THE CARD IS WHAT COUNTS. Prove the row's statement (the work); the ties are given (YtjcfnflkiialbaaDoorTie.lean); close each card by the builder's one call (the guide's Derived/Test/ToyasCard.lean, 'card_holds'). Laid BY PROGRAM, IN A SANDBOX (cutbox-door.mjs). By AI agents, Wed Nov 11 2026. No macro, syntax, notation, axiom, sorry.
-/
import Derived.Test.YtjcfnflkiialbaaDoorRows
import GoSem.ClaimSeven
namespace Go.Proofs.YtjcfnflkiialbaaDoor
namespace Rows

/-- THE TIED CARD OF 'ledgerlaw01.ShaConstants'. -/
def shaConstantsCard : Claim7 := { stood := { row := shaConstantsRow, standIns := [], harness := (true, "d3d527255e208995dbb2ef14203f0dcc04f0ae914fd5b4d0d4ccbab16c1b6913"), looks := false }, kinds := [], alts := [], laidByText := true, laidKinds := [.data, .widerDeep, .widerDeep], laidTests := true, laidLooks := .later }
def ShaConstantsCardSaid : Prop := Claim7.holds Tryd.pinned (.plain (OpenSpec.ofChange shaConstantsSpec)) shaConstantsCard

/-- THE TIED CARD OF 'ledgerlaw01.ShaRoots'. -/
def shaRootsCard : Claim7 := { stood := { row := shaRootsRow, standIns := [], harness := (true, "d3d527255e208995dbb2ef14203f0dcc04f0ae914fd5b4d0d4ccbab16c1b6913"), looks := false }, kinds := [], alts := [], laidByText := true, laidKinds := [.widerDeep, .widerDeep], laidTests := true, laidLooks := .later }
def ShaRootsCardSaid : Prop := Claim7.holds Tryd.pinned (.plain (OpenSpec.ofChange shaRootsSpec)) shaRootsCard

/-- THE TIED CARD OF 'ledgerlaw01.ShaSums'. -/
def shaSumsCard : Claim7 := { stood := { row := shaSumsRow, standIns := [], harness := (true, "d3d527255e208995dbb2ef14203f0dcc04f0ae914fd5b4d0d4ccbab16c1b6913"), looks := false }, kinds := [], alts := [], laidByText := true, laidKinds := [.data, .data, .data, .data, .data, .data, .widerDeep, .widerDeep], laidTests := true, laidLooks := .later }
def ShaSumsCardSaid : Prop := Claim7.holds Tryd.pinned (.plain (OpenSpec.ofChange shaSumsSpec)) shaSumsCard

/-- THE TIED CARD OF 'ledgerlaw01.ShaPieces'. -/
def shaPiecesCard : Claim7 := { stood := { row := shaPiecesRow, standIns := [], harness := (true, "d3d527255e208995dbb2ef14203f0dcc04f0ae914fd5b4d0d4ccbab16c1b6913"), looks := false }, kinds := [], alts := [], laidByText := true, laidKinds := [.data, .data, .data, .widerDeep, .widerDeep], laidTests := true, laidLooks := .later }
def ShaPiecesCardSaid : Prop := Claim7.holds Tryd.pinned (.plain (OpenSpec.ofChange shaPiecesSpec)) shaPiecesCard

/-- THE TIED CARD OF 'ledgerlaw01.ShaTurns'. -/
def shaTurnsCard : Claim7 := { stood := { row := shaTurnsRow, standIns := [], harness := (true, "d3d527255e208995dbb2ef14203f0dcc04f0ae914fd5b4d0d4ccbab16c1b6913"), looks := false }, kinds := [], alts := [], laidByText := true, laidKinds := [.data, .data, .data, .widerDeep, .widerDeep], laidTests := true, laidLooks := .later }
def ShaTurnsCardSaid : Prop := Claim7.holds Tryd.pinned (.plain (OpenSpec.ofChange shaTurnsSpec)) shaTurnsCard

/-- THE TIED CARD OF 'ledgerlaw01.ShaMacs'. -/
def shaMacsCard : Claim7 := { stood := { row := shaMacsRow, standIns := [], harness := (true, "d3d527255e208995dbb2ef14203f0dcc04f0ae914fd5b4d0d4ccbab16c1b6913"), looks := false }, kinds := [], alts := [], laidByText := true, laidKinds := [.data, .data, .data, .data, .data, .data, .widerDeep, .widerDeep], laidTests := true, laidLooks := .later }
def ShaMacsCardSaid : Prop := Claim7.holds Tryd.pinned (.plain (OpenSpec.ofChange shaMacsSpec)) shaMacsCard

/-- THE TIED CARD OF 'ledgerlaw01.ShaMacBy'. -/
def shaMacByCard : Claim7 := { stood := { row := shaMacByRow, standIns := [], harness := (true, "d3d527255e208995dbb2ef14203f0dcc04f0ae914fd5b4d0d4ccbab16c1b6913"), looks := false }, kinds := [], alts := [], laidByText := true, laidKinds := [.data, .data, .data, .widerDeep, .widerDeep], laidTests := true, laidLooks := .later }
def ShaMacByCardSaid : Prop := Claim7.holds Tryd.pinned (.plain (OpenSpec.ofChange shaMacBySpec)) shaMacByCard

/-- THE TIED CARD OF 'ledgerlaw01.ShaExtends'. -/
def shaExtendsCard : Claim7 := { stood := { row := shaExtendsRow, standIns := [], harness := (true, "d3d527255e208995dbb2ef14203f0dcc04f0ae914fd5b4d0d4ccbab16c1b6913"), looks := false }, kinds := [], alts := [], laidByText := true, laidKinds := [.data, .data, .data, .widerDeep, .widerDeep], laidTests := true, laidLooks := .later }
def ShaExtendsCardSaid : Prop := Claim7.holds Tryd.pinned (.plain (OpenSpec.ofChange shaExtendsSpec)) shaExtendsCard

/-- THE TIED CARD OF 'ledgerlaw01.ShaForms'. -/
def shaFormsCard : Claim7 := { stood := { row := shaFormsRow, standIns := [], harness := (true, "d3d527255e208995dbb2ef14203f0dcc04f0ae914fd5b4d0d4ccbab16c1b6913"), looks := false }, kinds := [], alts := [], laidByText := true, laidKinds := [.data, .data, .data, .widerDeep, .widerDeep], laidTests := true, laidLooks := .later }
def ShaFormsCardSaid : Prop := Claim7.holds Tryd.pinned (.plain (OpenSpec.ofChange shaFormsSpec)) shaFormsCard

/-- THE TIED CARD OF 'ledgerlaw01.ShaScripts'. -/
def shaScriptsCard : Claim7 := { stood := { row := shaScriptsRow, standIns := [], harness := (true, "d3d527255e208995dbb2ef14203f0dcc04f0ae914fd5b4d0d4ccbab16c1b6913"), looks := false }, kinds := [], alts := [], laidByText := true, laidKinds := [.data, .data, .data, .data, .data, .data, .widerDeep, .widerDeep], laidTests := true, laidLooks := .later }
def ShaScriptsCardSaid : Prop := Claim7.holds Tryd.pinned (.plain (OpenSpec.ofChange shaScriptsSpec)) shaScriptsCard

/-- THE TIED CARD OF 'ledgerlaw01.ShaGoesOn'. -/
def shaGoesOnCard : Claim7 := { stood := { row := shaGoesOnRow, standIns := [], harness := (true, "d3d527255e208995dbb2ef14203f0dcc04f0ae914fd5b4d0d4ccbab16c1b6913"), looks := false }, kinds := [], alts := [], laidByText := true, laidKinds := [.data, .data, .data, .widerDeep, .widerDeep], laidTests := true, laidLooks := .later }
def ShaGoesOnCardSaid : Prop := Claim7.holds Tryd.pinned (.plain (OpenSpec.ofChange shaGoesOnSpec)) shaGoesOnCard

/-- THE SECOND FORM's CARD OF 'ledgerlaw01.ShaConstants'. -/
def shaConstantsUptoCard : Claim7 := { stood := { row := shaConstantsUptoRow, standIns := [], harness := (true, "d3d527255e208995dbb2ef14203f0dcc04f0ae914fd5b4d0d4ccbab16c1b6913"), looks := false }, kinds := [], alts := [], laidByText := true, laidKinds := [.data, .widerDeep, .widerDeep], laidTests := true, laidLooks := .later }
def ShaConstantsUptoCardSaid : Prop := Claim7.holds Tryd.pinned (.plain (OpenSpec.upto shaConstantsSpec)) shaConstantsUptoCard

/-- THE SECOND FORM's CARD OF 'ledgerlaw01.ShaRoots'. -/
def shaRootsUptoCard : Claim7 := { stood := { row := shaRootsUptoRow, standIns := [], harness := (true, "d3d527255e208995dbb2ef14203f0dcc04f0ae914fd5b4d0d4ccbab16c1b6913"), looks := false }, kinds := [], alts := [], laidByText := true, laidKinds := [.widerDeep, .widerDeep], laidTests := true, laidLooks := .later }
def ShaRootsUptoCardSaid : Prop := Claim7.holds Tryd.pinned (.plain (OpenSpec.upto shaRootsSpec)) shaRootsUptoCard

/-- THE SECOND FORM's CARD OF 'ledgerlaw01.ShaSums'. -/
def shaSumsUptoCard : Claim7 := { stood := { row := shaSumsUptoRow, standIns := [], harness := (true, "d3d527255e208995dbb2ef14203f0dcc04f0ae914fd5b4d0d4ccbab16c1b6913"), looks := false }, kinds := [], alts := [], laidByText := true, laidKinds := [.data, .data, .data, .data, .data, .data, .widerDeep, .widerDeep], laidTests := true, laidLooks := .later }
def ShaSumsUptoCardSaid : Prop := Claim7.holds Tryd.pinned (.plain (OpenSpec.upto shaSumsSpec)) shaSumsUptoCard

/-- THE SECOND FORM's CARD OF 'ledgerlaw01.ShaPieces'. -/
def shaPiecesUptoCard : Claim7 := { stood := { row := shaPiecesUptoRow, standIns := [], harness := (true, "d3d527255e208995dbb2ef14203f0dcc04f0ae914fd5b4d0d4ccbab16c1b6913"), looks := false }, kinds := [], alts := [], laidByText := true, laidKinds := [.data, .data, .data, .widerDeep, .widerDeep], laidTests := true, laidLooks := .later }
def ShaPiecesUptoCardSaid : Prop := Claim7.holds Tryd.pinned (.plain (OpenSpec.upto shaPiecesSpec)) shaPiecesUptoCard

/-- THE SECOND FORM's CARD OF 'ledgerlaw01.ShaTurns'. -/
def shaTurnsUptoCard : Claim7 := { stood := { row := shaTurnsUptoRow, standIns := [], harness := (true, "d3d527255e208995dbb2ef14203f0dcc04f0ae914fd5b4d0d4ccbab16c1b6913"), looks := false }, kinds := [], alts := [], laidByText := true, laidKinds := [.data, .data, .data, .widerDeep, .widerDeep], laidTests := true, laidLooks := .later }
def ShaTurnsUptoCardSaid : Prop := Claim7.holds Tryd.pinned (.plain (OpenSpec.upto shaTurnsSpec)) shaTurnsUptoCard

/-- THE SECOND FORM's CARD OF 'ledgerlaw01.ShaMacs'. -/
def shaMacsUptoCard : Claim7 := { stood := { row := shaMacsUptoRow, standIns := [], harness := (true, "d3d527255e208995dbb2ef14203f0dcc04f0ae914fd5b4d0d4ccbab16c1b6913"), looks := false }, kinds := [], alts := [], laidByText := true, laidKinds := [.data, .data, .data, .data, .data, .data, .widerDeep, .widerDeep], laidTests := true, laidLooks := .later }
def ShaMacsUptoCardSaid : Prop := Claim7.holds Tryd.pinned (.plain (OpenSpec.upto shaMacsSpec)) shaMacsUptoCard

/-- THE SECOND FORM's CARD OF 'ledgerlaw01.ShaMacBy'. -/
def shaMacByUptoCard : Claim7 := { stood := { row := shaMacByUptoRow, standIns := [], harness := (true, "d3d527255e208995dbb2ef14203f0dcc04f0ae914fd5b4d0d4ccbab16c1b6913"), looks := false }, kinds := [], alts := [], laidByText := true, laidKinds := [.data, .data, .data, .widerDeep, .widerDeep], laidTests := true, laidLooks := .later }
def ShaMacByUptoCardSaid : Prop := Claim7.holds Tryd.pinned (.plain (OpenSpec.upto shaMacBySpec)) shaMacByUptoCard

/-- THE SECOND FORM's CARD OF 'ledgerlaw01.ShaExtends'. -/
def shaExtendsUptoCard : Claim7 := { stood := { row := shaExtendsUptoRow, standIns := [], harness := (true, "d3d527255e208995dbb2ef14203f0dcc04f0ae914fd5b4d0d4ccbab16c1b6913"), looks := false }, kinds := [], alts := [], laidByText := true, laidKinds := [.data, .data, .data, .widerDeep, .widerDeep], laidTests := true, laidLooks := .later }
def ShaExtendsUptoCardSaid : Prop := Claim7.holds Tryd.pinned (.plain (OpenSpec.upto shaExtendsSpec)) shaExtendsUptoCard

/-- THE SECOND FORM's CARD OF 'ledgerlaw01.ShaForms'. -/
def shaFormsUptoCard : Claim7 := { stood := { row := shaFormsUptoRow, standIns := [], harness := (true, "d3d527255e208995dbb2ef14203f0dcc04f0ae914fd5b4d0d4ccbab16c1b6913"), looks := false }, kinds := [], alts := [], laidByText := true, laidKinds := [.data, .data, .data, .widerDeep, .widerDeep], laidTests := true, laidLooks := .later }
def ShaFormsUptoCardSaid : Prop := Claim7.holds Tryd.pinned (.plain (OpenSpec.upto shaFormsSpec)) shaFormsUptoCard

/-- THE SECOND FORM's CARD OF 'ledgerlaw01.ShaScripts'. -/
def shaScriptsUptoCard : Claim7 := { stood := { row := shaScriptsUptoRow, standIns := [], harness := (true, "d3d527255e208995dbb2ef14203f0dcc04f0ae914fd5b4d0d4ccbab16c1b6913"), looks := false }, kinds := [], alts := [], laidByText := true, laidKinds := [.data, .data, .data, .data, .data, .data, .widerDeep, .widerDeep], laidTests := true, laidLooks := .later }
def ShaScriptsUptoCardSaid : Prop := Claim7.holds Tryd.pinned (.plain (OpenSpec.upto shaScriptsSpec)) shaScriptsUptoCard

/-- THE SECOND FORM's CARD OF 'ledgerlaw01.ShaGoesOn'. -/
def shaGoesOnUptoCard : Claim7 := { stood := { row := shaGoesOnUptoRow, standIns := [], harness := (true, "d3d527255e208995dbb2ef14203f0dcc04f0ae914fd5b4d0d4ccbab16c1b6913"), looks := false }, kinds := [], alts := [], laidByText := true, laidKinds := [.data, .data, .data, .widerDeep, .widerDeep], laidTests := true, laidLooks := .later }
def ShaGoesOnUptoCardSaid : Prop := Claim7.holds Tryd.pinned (.plain (OpenSpec.upto shaGoesOnSpec)) shaGoesOnUptoCard
end Rows
end Go.Proofs.YtjcfnflkiialbaaDoor
