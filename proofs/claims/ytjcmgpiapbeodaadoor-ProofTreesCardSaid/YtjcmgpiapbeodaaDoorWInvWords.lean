-- out of the words printed for this seat: what this claim uses
import Derived.Test.YtjcmgpiapbeodaaDoorWInv
import Derived.Test.YtjcmgpiapbeodaaDoorWFootNe
namespace Go.Proofs.YtjcmgpiapbeodaaDoorW.PrintWords
open Go.RowKit
end Go.Proofs.YtjcmgpiapbeodaaDoorW.PrintWords
namespace Go.Proofs.YtjcmgpiapbeodaaDoorW.PrintLast
section
variable {ops : Array Oper} {a : Act} {o og : Oper} {g : Nat} {t : Tmp} {u : Bool}
end
end Go.Proofs.YtjcmgpiapbeodaaDoorW.PrintLast
