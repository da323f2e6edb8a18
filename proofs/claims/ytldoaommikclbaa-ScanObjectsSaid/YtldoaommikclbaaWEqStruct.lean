-- out of a text that the kit's print lays; theorems that this claim does not use are struck: not the print's own text any more
import Derived.Test.YtldoaommikclbaaWWords
import Derived.Laws.StructEq
/-! ### 53. '==' of structs as_ one Bool -/
namespace Go.Proofs.YtldoaommikclbaaW.PrintWords
open Go.RowKit
section
variable {P : Program} {d : Nat} {xs ys : Array Value} {f : Field} {fs : List Field} {a b : Value} {r s : Bool} {w : World}
end
end Go.Proofs.YtldoaommikclbaaW.PrintWords
