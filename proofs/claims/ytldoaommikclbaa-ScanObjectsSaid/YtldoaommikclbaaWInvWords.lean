-- out of a text that the kit's print lays; theorems that this claim does not use are struck: not the print's own text any more
import Derived.Test.YtldoaommikclbaaWInv
import Derived.Test.YtldoaommikclbaaWFootNe
namespace Go.Proofs.YtldoaommikclbaaW.PrintWords
open Go.RowKit
end Go.Proofs.YtldoaommikclbaaW.PrintWords
namespace Go.Proofs.YtldoaommikclbaaW.PrintLast
section
variable {ops : Array Oper} {a : Act} {o og : Oper} {g : Nat} {t : Tmp} {u : Bool}
end
end Go.Proofs.YtldoaommikclbaaW.PrintLast
