-- out of a text that the kit's print lays; theorems that this claim does not use are struck: not the print's own text any more
import Derived.Test.YtbbegchdlkmebaaDoorWInv
import Derived.Test.YtbbegchdlkmebaaDoorWFootNe
namespace Go.Proofs.YtbbegchdlkmebaaDoorW.PrintWords
open Go.RowKit
end Go.Proofs.YtbbegchdlkmebaaDoorW.PrintWords
namespace Go.Proofs.YtbbegchdlkmebaaDoorW.PrintLast
section
variable {ops : Array Oper} {a : Act} {o og : Oper} {g : Nat} {t : Tmp} {u : Bool}
end
end Go.Proofs.YtbbegchdlkmebaaDoorW.PrintLast
