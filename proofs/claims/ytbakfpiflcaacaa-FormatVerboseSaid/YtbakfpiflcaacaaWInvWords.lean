-- out of a text that the kit's print lays; theorems that this claim does not use are struck: not the print's own text any more
import Derived.Test.YtbakfpiflcaacaaWInv
import Derived.Test.YtbakfpiflcaacaaWFootNe
namespace Go.Proofs.YtbakfpiflcaacaaW.PrintWords
open Go.RowKit
end Go.Proofs.YtbakfpiflcaacaaW.PrintWords
namespace Go.Proofs.YtbakfpiflcaacaaW.PrintLast
section
variable {ops : Array Oper} {a : Act} {o og : Oper} {g : Nat} {t : Tmp} {u : Bool}
end
end Go.Proofs.YtbakfpiflcaacaaW.PrintLast
