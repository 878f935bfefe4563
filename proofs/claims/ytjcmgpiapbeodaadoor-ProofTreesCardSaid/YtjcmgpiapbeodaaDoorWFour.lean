-- out of the words printed for this seat: what this claim uses
import Derived.Test.YtjcmgpiapbeodaaDoorWTab
/-! ### 56. Four, five, six operations that may come up next, in any order -/
namespace Go.Proofs.YtjcmgpiapbeodaaDoorW.PrintLast
section
variable {P : Program} {ops : Array Oper} {Q : Exit → Act → World → Prop} {md : Region.Mode} {S : World → Prop} {ds : List Nat} {T : Bool × List (List Nat × List Nat)}
end
end Go.Proofs.YtjcmgpiapbeodaaDoorW.PrintLast
