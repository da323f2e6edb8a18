-- LAID BY gprint.py: a scratch copy of the print, with functions that this session proved by hand among the printed ones
import Derived.Test.YtnjimfdgdefenaaProg
import Derived.Below
import Derived.Deep.Draws
import Derived.Deep.AppendLies
import Derived.Maps.AppendAt
import Derived.OwnWalk
import Derived.Laws.BytesArg
import Derived.Laws.MakeOwn
import Derived.Laws.OwnMore
import Derived.Deep.OwnRows
import Derived.Tactics
import Derived.Lib.ConvBytes
import Derived.Laws.Slices
import Derived.WalkKit
import Derived.KernelRfl
import Derived.RowKit3
import Derived.Deep.LoopGhost
import Derived.Deep.QuietTactic
import Derived.BigQuiet
import Derived.WideLaws
import Derived.Deep.DeepCutAuto
import Derived.Deep.CutBlock
import Derived.Deep.RegionHeld3
import Derived.Laws.Rows
import Derived.Lib.AppendStr
import Derived.ArgAppend
import Derived.Laws.IdiomCopy
import Derived.OrdersHeld
import Derived.Laws.BitsLemmas
import Derived.RowKit
import Derived.Test.YtnjimfdgdefenaaConv
import Derived.Test.YtnjimfdgdefenaaShelf
import Derived.Outline
import Derived.Laws.Strings3
import Derived.Lib.Bytealg
import Derived.BigCall
import Derived.BigGuard
import Derived.Lib.Walk
import Derived.Lib.Strings
import Derived.Lib.Slices
import Derived.Sort.OwnSorted
import Derived.Lib.OwnBridge
import Derived.Great.Walk
import Derived.Great.BuildSlice
import Derived.Deep.WholeRow
import Derived.Deep.Cut
import Derived.Deep.CutRange
import Derived.Lib.EndianBits
import Derived.Laws.BitsAllLaws
import Derived.WalkSpells
import Derived.Test.YtnjimfdgdefenaaWWords
import Derived.Test.YtnjimfdgdefenaaWLast
import Derived.Test.YtnjimfdgdefenaaWTab
import Derived.Test.YtnjimfdgdefenaaWFour
import Derived.Test.YtnjimfdgdefenaaWQPut
import Derived.Test.YtnjimfdgdefenaaWApart
import Derived.Test.YtnjimfdgdefenaaWArr
import Derived.Test.YtnjimfdgdefenaaWZeros
import Derived.Test.YtnjimfdgdefenaaWFoot
import Derived.Test.YtnjimfdgdefenaaWKept
import Derived.Test.YtnjimfdgdefenaaWShare
import Derived.Test.YtnjimfdgdefenaaWN
import Derived.Test.YtnjimfdgdefenaaWFootNe
import Derived.Test.YtnjimfdgdefenaaWAt
import Derived.Test.YtnjimfdgdefenaaWEqStruct
import Derived.Test.YtnjimfdgdefenaaWRepsOne
import Derived.Test.YtnjimfdgdefenaaWInv
import Derived.Test.YtnjimfdgdefenaaWInvWords
import Derived.Test.YtnjimfdgdefenaaWGuard
import Derived.Test.YtnjimfdgdefenaaWNEv
import Derived.Test.YtnjimfdgdefenaaWMore
namespace Go.Proofs.Ytnjimfdgdefenaa.PItemSorts
open Go.RowKit Go.Proofs.YtnjimfdgdefenaaW.PrintWords Go.Proofs.YtnjimfdgdefenaaW.PrintLast Go.Proofs.Ytnjimfdgdefenaa.Conv Go.Proofs.YtnjimfdgdefenaaW.PrintMore
attribute [local go_sem] max2_int min2_int max_two min_two max_three min_three max_four min_four gtr_less   -- for this text's walks alone
set_option linter.unusedVariables false
set_option linter.unusedSimpArgs false



def errW : Option Int → Value
  | none => .nilIface
  | some c => .iface 0 (.int .i64 c)
theorem errW_none : errW none = .nilIface := rfl
theorem errW_some (c : Int) : errW (some c) = .iface 0 (.int .i64 c) := rfl

theorem info9 : (Try.prog.info? 9).map (fun i => (i.zero, i.size, i.bytes)) = some (some (.string ⟨#[]⟩), 1, 16) := by kernel_rfl
-- the values' own types
def rd_L3 (xs : List (List ByteArray)) (i : Int) : (List ByteArray) := xs.getD i.toNat ([] : List ByteArray)
theorem at_L3 {w : World} {A : Option Addr} {n : Nat} {xs : List (List ByteArray)} (h : Kd.C (Kd.slice 9 Kd.string) w A n xs) (i : Int) (h0 : 0 ≤ i) (h1 : i < n) : ∃ ad A0 c0, A = some ad ∧ w.cell? (ad.add i.toNat) = some (.slice A0 (rd_L3 xs i).length c0) ∧ (rd_L3 xs i).length ≤ c0 ∧ Kd.string.C w A0 (rd_L3 xs i).length (rd_L3 xs i) := by
  obtain ⟨ad, c, e, _, hK, hc0⟩ := Kd.C_get h ([] : List ByteArray) i h0 h1
  have hc : ∀ j u, c[j]? = some u → w.cell? (ad.add (i.toNat * 1 + j)) = some u := hc0
  obtain ⟨A0, c0, rfl, l0, g0⟩ := hK
  exact ⟨ad, A0, c0, e, by have hq := hc 0 _ rfl; rwa [Nat.mul_one, Nat.add_zero] at hq, l0, g0⟩

end Go.Proofs.Ytnjimfdgdefenaa.PItemSorts
