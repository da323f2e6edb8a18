/- The shelf's contracts, laid at this seat's dump: tables of numbers by names, then one application each. -/
import Derived.Shelf.Strings.Builder1
import Derived.Shelf.Strings.Builder2
import Derived.Shelf.Strings.OnBuilder
import Derived.Shelf.Strings.BuilderF
import Derived.Shelf.Strings.BuilderK
import Derived.Shelf.Strings.Builder2Cap
import Derived.Shelf.Strings.BuilderCap
import Derived.Test.YtbbegchdlkmebaaDoorProg
namespace Go.Proofs
open Go.Shelf
set_option linter.unusedVariables false
def Tryd.lays240_ren : Go.Shelf.Ren := ⟨fun | 240 => 46 | 276 => 59 | n => n, fun | 0 => 0 | 4 => 4 | 9 => 9 | 20 => 20 | 70 => 53 | 72 => 55 | 37 => 51 | 164 => 93 | n => n, fun n => n⟩
def Tryd.lays170_ren : Go.Shelf.Ren := ⟨fun | 170 => 73 | n => n, fun | 0 => 0 | 3 => 3 | 37 => 51 | 5 => 5 | 70 => 53 | 72 => 55 | n => n, fun n => n⟩
def Tryd.lays166_ren : Go.Shelf.Ren := ⟨fun | 166 => 27 | 240 => 46 | 276 => 59 | n => n, fun | 0 => 0 | 3 => 3 | 4 => 4 | 9 => 9 | 20 => 20 | 37 => 51 | 5 => 5 | 70 => 53 | 72 => 55 | 75 => 60 | 80 => 56 | 164 => 93 | n => n, fun n => n⟩
def Tryd.lays169_ren : Go.Shelf.Ren := ⟨fun | 169 => 28 | n => n, fun | 0 => 0 | 3 => 3 | 9 => 9 | 37 => 51 | 5 => 5 | 70 => 53 | 72 => 55 | 127 => 83 | n => n, fun n => n⟩
def Tryd.lays241_ren : Go.Shelf.Ren := ⟨fun | 241 => 68 | 277 => 81 | n => n, fun | 0 => 0 | 3 => 3 | 37 => 51 | 5 => 5 | 70 => 53 | 72 => 55 | n => n, fun n => n⟩
def Tryd.lays165_ren : Go.Shelf.Ren := ⟨fun | 165 => 58 | 240 => 46 | 241 => 68 | 276 => 59 | 277 => 81 | n => n, fun | 0 => 0 | 3 => 3 | 4 => 4 | 9 => 9 | 20 => 20 | 37 => 51 | 5 => 5 | 70 => 53 | 72 => 55 | 164 => 93 | n => n, fun n => n⟩
def Tryd.lays156_ren : Go.Shelf.Ren := ⟨fun | 156 => 45 | 165 => 58 | 166 => 27 | 169 => 28 | 240 => 46 | 241 => 68 | 276 => 59 | 277 => 81 | n => n, fun | 0 => 0 | 3 => 3 | 4 => 4 | 9 => 9 | 20 => 20 | 31 => 24 | 37 => 51 | 5 => 5 | 70 => 53 | 72 => 55 | 75 => 60 | 80 => 56 | 76 => 61 | 127 => 83 | 164 => 93 | n => n, fun n => n⟩
def Tryd.lays105_ren : Go.Shelf.Ren := ⟨fun | 99 => 36 | 105 => 61 | 165 => 58 | 166 => 27 | 169 => 28 | 170 => 73 | 206 => 52 | 212 => 72 | 240 => 46 | 241 => 68 | 263 => 84 | 264 => 85 | 276 => 59 | 277 => 81 | n => n, fun | 0 => 0 | 3 => 3 | 4 => 4 | 5 => 5 | 9 => 9 | 20 => 20 | 37 => 51 | 46 => 80 | 51 => 118 | 53 => 22 | 70 => 53 | 72 => 55 | 75 => 60 | 80 => 56 | 76 => 61 | 109 => 107 | 127 => 83 | 146 => 119 | 148 => 121 | 164 => 93 | n => n, fun n => n⟩
end Go.Proofs
