/-
  No cell of these rows narrows 'for every input' (looked for: loops, veiled, ifaces, maps, wideKeys, modest, calm, conditions, laid).
  DERIVED. THE GIVEN ROWS OF THIS SEAT. 5 by the template 'for every input the law returns true; each argument reads behind the call as it read before'; 0 by the template 'total and deterministic' (their statements: YtnjimfdgdefenaaTotals.lean).
  GIVEN WITH THE SEED: the statements are not yours to turn. If you find one false, say at which input.
  Laid BY PROGRAM, IN A SANDBOX (cutbox-rows.mjs): the forced cells as the released guide's own fill.sh prints them over the translation e417486af8953de3… (all of the seat's roots in one cut). By AI agents, Wed Nov 11 2026. No macro, syntax, notation, axiom, sorry.
-/
import Derived.Test.YtnjimfdgdefenaaChecked
import GoSem.Claim
import GoSem.ClaimJoined
import GoSem.ClaimMapViews
import Derived.JoinedTies
import Derived.KernelRfl
namespace Go.Proofs.Ytnjimfdgdefenaa
/- THE CELL 'sum', in the pinned program and in every row, IS THE sha256 OF THE DUMP (.gsa) THAT YtnjimfdgdefenaaProg.lean LOADS. Nothing in Lean hashes anything: it is a label: what it is worth is what the hold of that sum in a sandbox is worth. -/
noncomputable def Try.pinned : Pinned := { name := "ytnjimfdgdefenaa", sum := "e417486af8953de3addb84a9acfc232db7aa08e9bf81bb3bc6d5e93fdd4c01af", checked := Try.checked }
namespace Rows
def none {H : Type} : Left H := { results := [], args := [] }

/-- 'logbooklaw04.ItemChecks': WHATEVER THE INPUT: true; the input reads as it did. -/
def itemChecksSpec : ChangeSpec := { name := "itemChecks", fn := fun _ => fun
  | [d] => { results := [.lit (.bool true)], args := [d] }
  | _ => none }
def itemChecksRow : OpenClaim := { program := "ytnjimfdgdefenaa", sum := "e417486af8953de3addb84a9acfc232db7aa08e9bf81bb3bc6d5e93fdd4c01af", func := "logbook/logbooklaw04.ItemChecks", spec := "itemChecks", inPlace := ["internal/bytealg.IndexByteString", "internal/bytealg.IndexString"], recurses := true, named := ["internal/bytealg.MaxLen"], apart := false }
def ItemChecksSaid : Prop := itemChecksRow.holds Try.pinned (OpenSpec.ofChange itemChecksSpec)

/-- ITS FALSE NEIGHBOUR: 'it returns false'. Refute it at one input. -/
def itemChecksWrong : ChangeSpec := { name := "itemChecks", fn := fun _ => fun
  | [d] => { results := [.lit (.bool false)], args := [d] }
  | _ => none }
def ItemChecksWrongFalsely : Prop := itemChecksRow.holds Try.pinned (OpenSpec.ofChange itemChecksWrong)

/-- 'logbooklaw04.ItemAgain': WHATEVER THE INPUT: true; the input reads as it did. -/
def itemAgainSpec : ChangeSpec := { name := "itemAgain", fn := fun _ => fun
  | [d] => { results := [.lit (.bool true)], args := [d] }
  | _ => none }
def itemAgainRow : OpenClaim := { program := "ytnjimfdgdefenaa", sum := "e417486af8953de3addb84a9acfc232db7aa08e9bf81bb3bc6d5e93fdd4c01af", func := "logbook/logbooklaw04.ItemAgain", spec := "itemAgain", inPlace := ["internal/bytealg.IndexByteString", "internal/bytealg.IndexString"], recurses := true, named := ["internal/bytealg.MaxLen"], apart := false }
def ItemAgainSaid : Prop := itemAgainRow.holds Try.pinned (OpenSpec.ofChange itemAgainSpec)

/-- ITS FALSE NEIGHBOUR: 'it returns false'. Refute it at one input. -/
def itemAgainWrong : ChangeSpec := { name := "itemAgain", fn := fun _ => fun
  | [d] => { results := [.lit (.bool false)], args := [d] }
  | _ => none }
def ItemAgainWrongFalsely : Prop := itemAgainRow.holds Try.pinned (OpenSpec.ofChange itemAgainWrong)

/-- 'logbooklaw04.ItemSplits': WHATEVER THE INPUT: true; the input reads as it did. -/
def itemSplitsSpec : ChangeSpec := { name := "itemSplits", fn := fun _ => fun
  | [d] => { results := [.lit (.bool true)], args := [d] }
  | _ => none }
def itemSplitsRow : OpenClaim := { program := "ytnjimfdgdefenaa", sum := "e417486af8953de3addb84a9acfc232db7aa08e9bf81bb3bc6d5e93fdd4c01af", func := "logbook/logbooklaw04.ItemSplits", spec := "itemSplits", inPlace := ["internal/bytealg.IndexByteString", "internal/bytealg.IndexString"], recurses := true, named := ["internal/bytealg.MaxLen"], apart := false }
def ItemSplitsSaid : Prop := itemSplitsRow.holds Try.pinned (OpenSpec.ofChange itemSplitsSpec)

/-- ITS FALSE NEIGHBOUR: 'it returns false'. Refute it at one input. -/
def itemSplitsWrong : ChangeSpec := { name := "itemSplits", fn := fun _ => fun
  | [d] => { results := [.lit (.bool false)], args := [d] }
  | _ => none }
def ItemSplitsWrongFalsely : Prop := itemSplitsRow.holds Try.pinned (OpenSpec.ofChange itemSplitsWrong)

/-- 'logbooklaw04.ItemTells': WHATEVER THE INPUT: true; the input reads as it did. -/
def itemTellsSpec : ChangeSpec := { name := "itemTells", fn := fun _ => fun
  | [d1, d2] => { results := [.lit (.bool true)], args := [d1, d2] }
  | _ => none }
def itemTellsRow : OpenClaim := { program := "ytnjimfdgdefenaa", sum := "e417486af8953de3addb84a9acfc232db7aa08e9bf81bb3bc6d5e93fdd4c01af", func := "logbook/logbooklaw04.ItemTells", spec := "itemTells", inPlace := ["internal/bytealg.IndexByteString", "internal/bytealg.IndexString"], recurses := true, named := ["internal/bytealg.MaxLen"], apart := false }
def ItemTellsSaid : Prop := itemTellsRow.holds Try.pinned (OpenSpec.ofChange itemTellsSpec)

/-- ITS FALSE NEIGHBOUR: 'it returns false'. Refute it at one input. -/
def itemTellsWrong : ChangeSpec := { name := "itemTells", fn := fun _ => fun
  | [d1, d2] => { results := [.lit (.bool false)], args := [d1, d2] }
  | _ => none }
def ItemTellsWrongFalsely : Prop := itemTellsRow.holds Try.pinned (OpenSpec.ofChange itemTellsWrong)

/-- 'logbooklaw04.ItemSorts': WHATEVER THE INPUT: true; the input reads as it did. -/
def itemSortsSpec : ChangeSpec := { name := "itemSorts", fn := fun _ => fun
  | [d] => { results := [.lit (.bool true)], args := [d] }
  | _ => none }
def itemSortsRow : OpenClaim := { program := "ytnjimfdgdefenaa", sum := "e417486af8953de3addb84a9acfc232db7aa08e9bf81bb3bc6d5e93fdd4c01af", func := "logbook/logbooklaw04.ItemSorts", spec := "itemSorts", inPlace := ["internal/bytealg.IndexByteString", "internal/bytealg.IndexString", "internal/bytealg.abigen_runtime_cmpstring"], unfollowed := true, recurses := true, named := ["internal/bytealg.MaxLen"], apart := false }
def ItemSortsSaid : Prop := itemSortsRow.holds Try.pinned (OpenSpec.ofChange itemSortsSpec)

/-- ITS FALSE NEIGHBOUR: 'it returns false'. Refute it at one input. -/
def itemSortsWrong : ChangeSpec := { name := "itemSorts", fn := fun _ => fun
  | [d] => { results := [.lit (.bool false)], args := [d] }
  | _ => none }
def ItemSortsWrongFalsely : Prop := itemSortsRow.holds Try.pinned (OpenSpec.ofChange itemSortsWrong)

/- THE SECOND FORM. 'bulk': how many values and letters a reading holds, each counted each time it is reached (what is shared counts as often as it is met; a slice's spare places count too). A statement '..UptoSaid' is the law's where the arguments, and the package variables that the reading takes, are together of bulk at most 1048576: NARROWER than '..Said'. Prove '..Said' where nothing that the law and all that it calls make is longer than what came in: it says more and counts as full. Else prove '..UptoSaid'. A law counts once. -/
mutual
def uptoBulk {H : Type} : DataW H → Nat
  | .lit (.string bytes) => bytes.length + 1
  | .lit _ => 1
  | .nil => 1
  | .ptr d => uptoBulk d + 1
  | .slice elems spare => uptoBulkAll elems + uptoBulkAll spare + 1
  | .agg parts => uptoBulkAll parts + 1
  | .iface _ d => uptoBulk d + 1
  | .map entries => uptoBulkEntries entries + 1
  | .held _ => 1
def uptoBulkAll {H : Type} : List (DataW H) → Nat
  | [] => 0
  | d :: r => uptoBulk d + uptoBulkAll r
def uptoBulkEntries {H : Type} : List (Lit × DataW H) → Nat
  | [] => 0
  | x :: r => uptoBulkEntry x + uptoBulkEntries r
def uptoBulkEntry {H : Type} : Lit × DataW H → Nat
  | (.string bytes, d) => bytes.length + uptoBulk d + 1
  | (_, d) => uptoBulk d + 1
 end
def uptoSmall : (H : Type) → List (DataW H) → Bool := fun _ ds => decide (uptoBulkAll ds ≤ 1048576)
def OpenSpec.upto (s : _root_.Go.ChangeSpec) : _root_.Go.OpenSpec := { _root_.Go.OpenSpec.ofChange s with cond := some uptoSmall }

/-- 'logbooklaw04.ItemChecks', WHERE WHAT IT READS IS OF BULK AT MOST 1048576: true; the input reads as it did. -/
def itemChecksUptoRow : OpenClaim := { program := "ytnjimfdgdefenaa", sum := "e417486af8953de3addb84a9acfc232db7aa08e9bf81bb3bc6d5e93fdd4c01af", func := "logbook/logbooklaw04.ItemChecks", spec := "itemChecks", inPlace := ["internal/bytealg.IndexByteString", "internal/bytealg.IndexString"], recurses := true, named := ["internal/bytealg.MaxLen"], apart := false, narrowed := true }
def ItemChecksUptoSaid : Prop := itemChecksUptoRow.holds Try.pinned (OpenSpec.upto itemChecksSpec)

/-- 'logbooklaw04.ItemAgain', WHERE WHAT IT READS IS OF BULK AT MOST 1048576: true; the input reads as it did. -/
def itemAgainUptoRow : OpenClaim := { program := "ytnjimfdgdefenaa", sum := "e417486af8953de3addb84a9acfc232db7aa08e9bf81bb3bc6d5e93fdd4c01af", func := "logbook/logbooklaw04.ItemAgain", spec := "itemAgain", inPlace := ["internal/bytealg.IndexByteString", "internal/bytealg.IndexString"], recurses := true, named := ["internal/bytealg.MaxLen"], apart := false, narrowed := true }
def ItemAgainUptoSaid : Prop := itemAgainUptoRow.holds Try.pinned (OpenSpec.upto itemAgainSpec)

/-- 'logbooklaw04.ItemSplits', WHERE WHAT IT READS IS OF BULK AT MOST 1048576: true; the input reads as it did. -/
def itemSplitsUptoRow : OpenClaim := { program := "ytnjimfdgdefenaa", sum := "e417486af8953de3addb84a9acfc232db7aa08e9bf81bb3bc6d5e93fdd4c01af", func := "logbook/logbooklaw04.ItemSplits", spec := "itemSplits", inPlace := ["internal/bytealg.IndexByteString", "internal/bytealg.IndexString"], recurses := true, named := ["internal/bytealg.MaxLen"], apart := false, narrowed := true }
def ItemSplitsUptoSaid : Prop := itemSplitsUptoRow.holds Try.pinned (OpenSpec.upto itemSplitsSpec)

/-- 'logbooklaw04.ItemTells', WHERE WHAT IT READS IS OF BULK AT MOST 1048576: true; the input reads as it did. -/
def itemTellsUptoRow : OpenClaim := { program := "ytnjimfdgdefenaa", sum := "e417486af8953de3addb84a9acfc232db7aa08e9bf81bb3bc6d5e93fdd4c01af", func := "logbook/logbooklaw04.ItemTells", spec := "itemTells", inPlace := ["internal/bytealg.IndexByteString", "internal/bytealg.IndexString"], recurses := true, named := ["internal/bytealg.MaxLen"], apart := false, narrowed := true }
def ItemTellsUptoSaid : Prop := itemTellsUptoRow.holds Try.pinned (OpenSpec.upto itemTellsSpec)

/-- 'logbooklaw04.ItemSorts', WHERE WHAT IT READS IS OF BULK AT MOST 1048576: true; the input reads as it did. -/
def itemSortsUptoRow : OpenClaim := { program := "ytnjimfdgdefenaa", sum := "e417486af8953de3addb84a9acfc232db7aa08e9bf81bb3bc6d5e93fdd4c01af", func := "logbook/logbooklaw04.ItemSorts", spec := "itemSorts", inPlace := ["internal/bytealg.IndexByteString", "internal/bytealg.IndexString", "internal/bytealg.abigen_runtime_cmpstring"], unfollowed := true, recurses := true, named := ["internal/bytealg.MaxLen"], apart := false, narrowed := true }
def ItemSortsUptoSaid : Prop := itemSortsUptoRow.holds Try.pinned (OpenSpec.upto itemSortsSpec)

end Rows
end Go.Proofs.Ytnjimfdgdefenaa
