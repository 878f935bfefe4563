/-
  No cell of these rows narrows 'for every input' (looked for: loops, veiled, ifaces, maps, wideKeys, modest, calm, conditions, laid).
  DERIVED. THE GIVEN ROWS OF THIS SEAT. 4 by the template 'for every input the law returns true; each argument reads behind the call as it read before'; 0 by the template 'total and deterministic' (their statements: YtjbhaopocabfaaaTotals.lean).
  GIVEN WITH THE SEED: the statements are not yours to turn. If you find one false, say at which input.
  Laid BY PROGRAM, IN A SANDBOX (cutbox-rows.mjs): the forced cells as the released guide's own fill.sh prints them over the translation 8497878bd06441a7… (all of the seat's roots in one cut). By AI agents, Wed Nov 11 2026. No macro, syntax, notation, axiom, sorry.
-/
import Derived.Test.YtjbhaopocabfaaaChecked
import GoSem.Claim
import GoSem.ClaimJoined
import GoSem.ClaimMapViews
import Derived.JoinedTies
import Derived.KernelRfl
namespace Go.Proofs.Ytjbhaopocabfaaa
/- THE CELL 'sum', in the pinned program and in every row, IS THE sha256 OF THE DUMP (.gsa) THAT YtjbhaopocabfaaaProg.lean LOADS. Nothing in Lean hashes anything: it is a label: what it is worth is what the hold of that sum in a sandbox is worth. -/
noncomputable def Try.pinned : Pinned := { name := "ytjbhaopocabfaaa", sum := "8497878bd06441a72789d5194ad8441dd70677510a86fa2a54c7e87a87d7e0a3", checked := Try.checked }
namespace Rows
def none {H : Type} : Left H := { results := [], args := [] }

/-- 'ledgerlaw08.TlogOrder': WHATEVER THE INPUT: true; the input reads as it did. -/
def tlogOrderSpec : ChangeSpec := { name := "tlogOrder", fn := fun _ => fun
  | [d1, d2] => { results := [.lit (.bool true)], args := [d1, d2] }
  | _ => none }
def tlogOrderRow : OpenClaim := { program := "ytjbhaopocabfaaa", sum := "8497878bd06441a72789d5194ad8441dd70677510a86fa2a54c7e87a87d7e0a3", func := "ledger/ledgerlaw08.TlogOrder", spec := "tlogOrder", apart := false }
def TlogOrderSaid : Prop := tlogOrderRow.holds Try.pinned (OpenSpec.ofChange tlogOrderSpec)

/-- ITS FALSE NEIGHBOUR: 'it returns false'. Refute it at one input. -/
def tlogOrderWrong : ChangeSpec := { name := "tlogOrder", fn := fun _ => fun
  | [d1, d2] => { results := [.lit (.bool false)], args := [d1, d2] }
  | _ => none }
def TlogOrderWrongFalsely : Prop := tlogOrderRow.holds Try.pinned (OpenSpec.ofChange tlogOrderWrong)

/-- 'ledgerlaw08.TlogPeaks': WHATEVER THE INPUT: true; the input reads as it did. -/
def tlogPeaksSpec : ChangeSpec := { name := "tlogPeaks", fn := fun _ => fun
  | [d] => { results := [.lit (.bool true)], args := [d] }
  | _ => none }
def tlogPeaksRow : OpenClaim := { program := "ytjbhaopocabfaaa", sum := "8497878bd06441a72789d5194ad8441dd70677510a86fa2a54c7e87a87d7e0a3", func := "ledger/ledgerlaw08.TlogPeaks", spec := "tlogPeaks", apart := false }
def TlogPeaksSaid : Prop := tlogPeaksRow.holds Try.pinned (OpenSpec.ofChange tlogPeaksSpec)

/-- ITS FALSE NEIGHBOUR: 'it returns false'. Refute it at one input. -/
def tlogPeaksWrong : ChangeSpec := { name := "tlogPeaks", fn := fun _ => fun
  | [d] => { results := [.lit (.bool false)], args := [d] }
  | _ => none }
def TlogPeaksWrongFalsely : Prop := tlogPeaksRow.holds Try.pinned (OpenSpec.ofChange tlogPeaksWrong)

/-- 'ledgerlaw08.TlogTurned': WHATEVER THE INPUT: true; the input reads as it did. -/
def tlogTurnedSpec : ChangeSpec := { name := "tlogTurned", fn := fun _ => fun
  | [d] => { results := [.lit (.bool true)], args := [d] }
  | _ => none }
def tlogTurnedRow : OpenClaim := { program := "ytjbhaopocabfaaa", sum := "8497878bd06441a72789d5194ad8441dd70677510a86fa2a54c7e87a87d7e0a3", func := "ledger/ledgerlaw08.TlogTurned", spec := "tlogTurned", apart := false }
def TlogTurnedSaid : Prop := tlogTurnedRow.holds Try.pinned (OpenSpec.ofChange tlogTurnedSpec)

/-- ITS FALSE NEIGHBOUR: 'it returns false'. Refute it at one input. -/
def tlogTurnedWrong : ChangeSpec := { name := "tlogTurned", fn := fun _ => fun
  | [d] => { results := [.lit (.bool false)], args := [d] }
  | _ => none }
def TlogTurnedWrongFalsely : Prop := tlogTurnedRow.holds Try.pinned (OpenSpec.ofChange tlogTurnedWrong)

/-- 'ledgerlaw08.TlogPlaces': WHATEVER THE INPUT: true; the input reads as it did. -/
def tlogPlacesSpec : ChangeSpec := { name := "tlogPlaces", fn := fun _ => fun
  | [d1, d2] => { results := [.lit (.bool true)], args := [d1, d2] }
  | _ => none }
def tlogPlacesRow : OpenClaim := { program := "ytjbhaopocabfaaa", sum := "8497878bd06441a72789d5194ad8441dd70677510a86fa2a54c7e87a87d7e0a3", func := "ledger/ledgerlaw08.TlogPlaces", spec := "tlogPlaces", apart := false }
def TlogPlacesSaid : Prop := tlogPlacesRow.holds Try.pinned (OpenSpec.ofChange tlogPlacesSpec)

/-- ITS FALSE NEIGHBOUR: 'it returns false'. Refute it at one input. -/
def tlogPlacesWrong : ChangeSpec := { name := "tlogPlaces", fn := fun _ => fun
  | [d1, d2] => { results := [.lit (.bool false)], args := [d1, d2] }
  | _ => none }
def TlogPlacesWrongFalsely : Prop := tlogPlacesRow.holds Try.pinned (OpenSpec.ofChange tlogPlacesWrong)

/- THE SECOND FORM. 'bulk': how many values and letters a reading holds, each counted each time it is reached (what is shared counts as often as it is met; a slice's spare places count too). A statement '..UptoSaid' is the law's where the arguments, and the package variables that the reading takes, are together of bulk at most 1048576: NARROWER than '..Said'. Prove '..Said' where nothing that the law and all that it calls make is longer than what came in: it says more and counts as full. Else prove '..UptoSaid'. A law counts once. -/
mutual
def uptoBulk {H : Type} : DataW H → Nat
  | .lit (.string bytes) => bytes.length + 1
  | .lit _ => 1
  | .nil => 1
  | .ptr d => uptoBulk d + 1
  | .slice elems spare => uptoBulkAll elems + uptoBulkAll spare + 1
  | .agg parts => uptoBulkAll parts + 1
  | .iface _ d => uptoBulk d + 1
  | .map entries => uptoBulkEntries entries + 1
  | .held _ => 1
def uptoBulkAll {H : Type} : List (DataW H) → Nat
  | [] => 0
  | d :: r => uptoBulk d + uptoBulkAll r
def uptoBulkEntries {H : Type} : List (Lit × DataW H) → Nat
  | [] => 0
  | x :: r => uptoBulkEntry x + uptoBulkEntries r
def uptoBulkEntry {H : Type} : Lit × DataW H → Nat
  | (.string bytes, d) => bytes.length + uptoBulk d + 1
  | (_, d) => uptoBulk d + 1
 end
def uptoSmall : (H : Type) → List (DataW H) → Bool := fun _ ds => decide (uptoBulkAll ds ≤ 1048576)
def OpenSpec.upto (s : _root_.Go.ChangeSpec) : _root_.Go.OpenSpec := { _root_.Go.OpenSpec.ofChange s with cond := some uptoSmall }

/-- 'ledgerlaw08.TlogOrder', WHERE WHAT IT READS IS OF BULK AT MOST 1048576: true; the input reads as it did. -/
def tlogOrderUptoRow : OpenClaim := { program := "ytjbhaopocabfaaa", sum := "8497878bd06441a72789d5194ad8441dd70677510a86fa2a54c7e87a87d7e0a3", func := "ledger/ledgerlaw08.TlogOrder", spec := "tlogOrder", apart := false, narrowed := true }
def TlogOrderUptoSaid : Prop := tlogOrderUptoRow.holds Try.pinned (OpenSpec.upto tlogOrderSpec)

/-- 'ledgerlaw08.TlogPeaks', WHERE WHAT IT READS IS OF BULK AT MOST 1048576: true; the input reads as it did. -/
def tlogPeaksUptoRow : OpenClaim := { program := "ytjbhaopocabfaaa", sum := "8497878bd06441a72789d5194ad8441dd70677510a86fa2a54c7e87a87d7e0a3", func := "ledger/ledgerlaw08.TlogPeaks", spec := "tlogPeaks", apart := false, narrowed := true }
def TlogPeaksUptoSaid : Prop := tlogPeaksUptoRow.holds Try.pinned (OpenSpec.upto tlogPeaksSpec)

/-- 'ledgerlaw08.TlogTurned', WHERE WHAT IT READS IS OF BULK AT MOST 1048576: true; the input reads as it did. -/
def tlogTurnedUptoRow : OpenClaim := { program := "ytjbhaopocabfaaa", sum := "8497878bd06441a72789d5194ad8441dd70677510a86fa2a54c7e87a87d7e0a3", func := "ledger/ledgerlaw08.TlogTurned", spec := "tlogTurned", apart := false, narrowed := true }
def TlogTurnedUptoSaid : Prop := tlogTurnedUptoRow.holds Try.pinned (OpenSpec.upto tlogTurnedSpec)

/-- 'ledgerlaw08.TlogPlaces', WHERE WHAT IT READS IS OF BULK AT MOST 1048576: true; the input reads as it did. -/
def tlogPlacesUptoRow : OpenClaim := { program := "ytjbhaopocabfaaa", sum := "8497878bd06441a72789d5194ad8441dd70677510a86fa2a54c7e87a87d7e0a3", func := "ledger/ledgerlaw08.TlogPlaces", spec := "tlogPlaces", apart := false, narrowed := true }
def TlogPlacesUptoSaid : Prop := tlogPlacesUptoRow.holds Try.pinned (OpenSpec.upto tlogPlacesSpec)

end Rows
end Go.Proofs.Ytjbhaopocabfaaa
