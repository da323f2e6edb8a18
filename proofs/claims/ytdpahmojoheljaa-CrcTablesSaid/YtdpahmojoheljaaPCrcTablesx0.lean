-- LAID BY gprint.py: a scratch copy of the print, with functions that this session proved by hand among the printed ones
import Derived.Test.YtdpahmojoheljaaProg
import Derived.Below
import Derived.Deep.Draws
import Derived.Deep.AppendLies
import Derived.Maps.AppendAt
import Derived.OwnWalk
import Derived.Laws.BytesArg
import Derived.Laws.MakeOwn
import Derived.Laws.OwnMore
import Derived.Deep.OwnRows
import Derived.Tactics
import Derived.Lib.ConvBytes
import Derived.Laws.Slices
import Derived.WalkKit
import Derived.KernelRfl
import Derived.RowKit3
import Derived.Deep.LoopGhost
import Derived.Deep.QuietTactic
import Derived.BigQuiet
import Derived.WideLaws
import Derived.Deep.DeepCutAuto
import Derived.Deep.CutBlock
import Derived.Deep.RegionHeld3
import Derived.Laws.Rows
import Derived.Lib.AppendStr
import Derived.ArgAppend
import Derived.Laws.IdiomCopy
import Derived.OrdersHeld
import Derived.Laws.BitsLemmas
import Derived.RowKit
import Derived.Test.YtdpahmojoheljaaConv
import Derived.Outline
import Derived.Laws.Strings3
import Derived.Lib.Bytealg
import Derived.BigCall
import Derived.BigGuard
import Derived.Lib.Walk
import Derived.Lib.Strings
import Derived.Lib.Slices
import Derived.Sort.OwnSorted
import Derived.Lib.OwnBridge
import Derived.Great.Walk
import Derived.Great.BuildSlice
import Derived.Deep.WholeRow
import Derived.Deep.Cut
import Derived.Deep.CutRange
import Derived.Lib.EndianBits
import Derived.Laws.BitsAllLaws
import Derived.WalkSpells
import Derived.Test.YtdpahmojoheljaaWWords
import Derived.Test.YtdpahmojoheljaaWLast
import Derived.Test.YtdpahmojoheljaaWTab
import Derived.Test.YtdpahmojoheljaaWFour
import Derived.Test.YtdpahmojoheljaaWQPut
import Derived.Test.YtdpahmojoheljaaWApart
import Derived.Test.YtdpahmojoheljaaWArr
import Derived.Test.YtdpahmojoheljaaWZeros
import Derived.Test.YtdpahmojoheljaaWFoot
import Derived.Test.YtdpahmojoheljaaWKept
import Derived.Test.YtdpahmojoheljaaWShare
import Derived.Test.YtdpahmojoheljaaWN
import Derived.Test.YtdpahmojoheljaaWFootNe
import Derived.Test.YtdpahmojoheljaaWAt
import Derived.Test.YtdpahmojoheljaaWEqStruct
import Derived.Test.YtdpahmojoheljaaWRepsOne
import Derived.Test.YtdpahmojoheljaaWInv
import Derived.Test.YtdpahmojoheljaaWInvWords
import Derived.Test.YtdpahmojoheljaaWGuard
import Derived.Test.YtdpahmojoheljaaWNEv
import Derived.Test.YtdpahmojoheljaaWMore
namespace Go.Proofs.Ytdpahmojoheljaa.PCrcTables
open Go.RowKit Go.Proofs.YtdpahmojoheljaaW.PrintWords Go.Proofs.YtdpahmojoheljaaW.PrintLast Go.Proofs.Ytdpahmojoheljaa.Conv Go.Proofs.YtdpahmojoheljaaW.PrintMore
attribute [local go_sem] max2_int min2_int max_two min_two max_three min_three max_four min_four gtr_less   -- for this text's walks alone
set_option linter.unusedVariables false
set_option linter.unusedSimpArgs false



def errW : Option Int → Value
  | none => .nilIface
  | some c => .iface 0 (.int .i64 c)
theorem errW_none : errW none = .nilIface := rfl
theorem errW_some (c : Int) : errW (some c) = .iface 0 (.int .i64 c) := rfl

-- the values' own types

end Go.Proofs.Ytdpahmojoheljaa.PCrcTables
