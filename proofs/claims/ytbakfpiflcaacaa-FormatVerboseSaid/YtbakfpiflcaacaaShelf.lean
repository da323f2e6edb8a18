/- The shelf's contracts, laid at this seat's dump: tables of numbers by names, then one application each. -/
import Derived.Shelf.Strings.Builder1
import Derived.Shelf.Strings.Builder2
import Derived.Shelf.Strings.BuilderF
import Derived.Shelf.Strings.BuilderK
import Derived.Shelf.Strings.Builder2Cap
import Derived.Shelf.LaysM
import Derived.Shelf.Strings.BuilderCap
import Derived.Test.YtbakfpiflcaacaaProg
namespace Go.Proofs
open Go.Shelf
set_option linter.unusedVariables false
def Try.lays240_ren : Go.Shelf.Ren := ⟨fun | 240 => 52 | 276 => 62 | n => n, fun | 0 => 0 | 4 => 4 | 9 => 9 | 20 => 20 | 70 => 57 | 72 => 59 | 37 => 51 | 164 => 85 | n => n, fun n => n⟩
def Try.lays170_ren : Go.Shelf.Ren := ⟨fun | 170 => 56 | n => n, fun | 0 => 0 | 3 => 3 | 37 => 51 | 5 => 5 | 70 => 57 | 72 => 59 | n => n, fun n => n⟩
def Try.lays166_ren : Go.Shelf.Ren := ⟨fun | 166 => 38 | 240 => 52 | 276 => 62 | n => n, fun | 0 => 0 | 3 => 3 | 4 => 4 | 9 => 9 | 20 => 20 | 37 => 51 | 5 => 5 | 70 => 57 | 72 => 59 | 75 => 61 | 80 => 65 | 164 => 85 | n => n, fun n => n⟩
def Try.lays169_ren : Go.Shelf.Ren := ⟨fun | 169 => 40 | n => n, fun | 0 => 0 | 3 => 3 | 9 => 9 | 37 => 51 | 5 => 5 | 70 => 57 | 72 => 59 | 127 => 80 | n => n, fun n => n⟩
def Try.lays241_ren : Go.Shelf.Ren := ⟨fun | 241 => 66 | 277 => 68 | n => n, fun | 0 => 0 | 3 => 3 | 37 => 51 | 5 => 5 | 70 => 57 | 72 => 59 | n => n, fun n => n⟩
def Try.lays165_ren : Go.Shelf.Ren := ⟨fun | 165 => 55 | 240 => 52 | 241 => 66 | 276 => 62 | 277 => 68 | n => n, fun | 0 => 0 | 3 => 3 | 4 => 4 | 9 => 9 | 20 => 20 | 37 => 51 | 5 => 5 | 70 => 57 | 72 => 59 | 164 => 85 | n => n, fun n => n⟩
end Go.Proofs
