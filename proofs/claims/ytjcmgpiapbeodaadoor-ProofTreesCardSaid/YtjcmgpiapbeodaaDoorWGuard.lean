-- out of the words printed for this seat: what this claim uses
import Derived.Test.YtjcmgpiapbeodaaDoorWWords
/-! ### 58. A guarded operation whose guard is known to want it: the same goal without the guard -/
namespace Go.Proofs.YtjcmgpiapbeodaaDoorW.PrintWords
open Go.RowKit
section
variable {P : Program} {ops : Array Oper} {rest : List Oper} {o : Oper} {a : Act} {Q : Exit → Act → World → Prop} {W : World}
end
end Go.Proofs.YtjcmgpiapbeodaaDoorW.PrintWords
