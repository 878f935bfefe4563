-- out of the words printed for this seat: what this claim uses
import Derived.Test.YtjcmgpiapbeodaaDoorWWords
import Derived.Laws.StructEq
/-! ### 53. '==' of structs as_ one Bool -/
namespace Go.Proofs.YtjcmgpiapbeodaaDoorW.PrintWords
open Go.RowKit
section
variable {P : Program} {d : Nat} {xs ys : Array Value} {f : Field} {fs : List Field} {a b : Value} {r s : Bool} {w : World}
end
end Go.Proofs.YtjcmgpiapbeodaaDoorW.PrintWords
