-- out of a text that the kit's print lays; theorems that this claim does not use are struck: not the print's own text any more
import Derived.Test.YtldoaommikclbaaWTab
/-! ### 56. Four, five, six operations that may come up next, in any order -/
namespace Go.Proofs.YtldoaommikclbaaW.PrintLast
section
variable {P : Program} {ops : Array Oper} {Q : Exit → Act → World → Prop} {md : Region.Mode} {S : World → Prop} {ds : List Nat} {T : Bool × List (List Nat × List Nat)}
end
end Go.Proofs.YtldoaommikclbaaW.PrintLast
