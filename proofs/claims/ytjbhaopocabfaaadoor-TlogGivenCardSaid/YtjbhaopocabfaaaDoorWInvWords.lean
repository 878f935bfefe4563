-- out of the words printed for this seat: what this claim uses
import Derived.Test.YtjbhaopocabfaaaDoorWInv
import Derived.Test.YtjbhaopocabfaaaDoorWFootNe
namespace Go.Proofs.YtjbhaopocabfaaaDoorW.PrintWords
open Go.RowKit
end Go.Proofs.YtjbhaopocabfaaaDoorW.PrintWords
namespace Go.Proofs.YtjbhaopocabfaaaDoorW.PrintLast
section
variable {ops : Array Oper} {a : Act} {o og : Oper} {g : Nat} {t : Tmp} {u : Bool}
end
end Go.Proofs.YtjbhaopocabfaaaDoorW.PrintLast
