-- out of a text that the kit's print lays; theorems that this claim does not use are struck: not the print's own text any more
import Derived.Test.YtbakfpiflcaacaaWWords
/-! ### 58. A guarded operation whose guard is known to want it: the same goal without the guard -/
namespace Go.Proofs.YtbakfpiflcaacaaW.PrintWords
open Go.RowKit
section
variable {P : Program} {ops : Array Oper} {rest : List Oper} {o : Oper} {a : Act} {Q : Exit → Act → World → Prop} {W : World}
end
end Go.Proofs.YtbakfpiflcaacaaW.PrintWords
