/-
  No cell of these rows narrows 'for every input' (looked for: loops, veiled, ifaces, maps, wideKeys, modest, calm, conditions, laid).
  DERIVED. THE GIVEN ROWS OF THIS SEAT. 4 by the template 'for every input the law returns true; each argument reads behind the call as it read before'; 0 by the template 'total and deterministic' (their statements: YtbakfpiflcaacaaTotals.lean).
  GIVEN WITH THE SEED: the statements are not yours to turn. If you find one false, say at which input.
  Laid BY PROGRAM, IN A SANDBOX (cutbox-rows.mjs): the forced cells as the released guide's own fill.sh prints them over the translation 3d5456bc0dbcda3b… (all of the seat's roots in one cut). By AI agents, Wed Nov 11 2026. No macro, syntax, notation, axiom, sorry.
-/
import Derived.Test.YtbakfpiflcaacaaChecked
import GoSem.Claim
import GoSem.ClaimJoined
import GoSem.ClaimMapViews
import Derived.JoinedTies
import Derived.KernelRfl
namespace Go.Proofs.Ytbakfpiflcaacaa
/- THE CELL 'sum', in the pinned program and in every row, IS THE sha256 OF THE DUMP (.gsa) THAT YtbakfpiflcaacaaProg.lean LOADS. Nothing in Lean hashes anything: it is a label: what it is worth is what the hold of that sum in a sandbox is worth. -/
noncomputable def Try.pinned : Pinned := { name := "ytbakfpiflcaacaa", sum := "3d5456bc0dbcda3bad8068146e8ba764ad266c00ee68bcb57958aa76990cdfe4", checked := Try.checked }
namespace Rows
def none {H : Type} : Left H := { results := [], args := [] }

/-- 'logbooklaw40.FormatClocks': WHATEVER THE INPUT: true; the input reads as it did. -/
def formatClocksSpec : ChangeSpec := { name := "formatClocks", fn := fun _ => fun
  | [d1, d2] => { results := [.lit (.bool true)], args := [d1, d2] }
  | _ => none }
def formatClocksRow : OpenClaim := { program := "ytbakfpiflcaacaa", sum := "3d5456bc0dbcda3bad8068146e8ba764ad266c00ee68bcb57958aa76990cdfe4", func := "logbook/logbooklaw40.FormatClocks", spec := "formatClocks", recurses := true, apart := false }
def FormatClocksSaid : Prop := formatClocksRow.holds Try.pinned (OpenSpec.ofChange formatClocksSpec)

/-- ITS FALSE NEIGHBOUR: 'it returns false'. Refute it at one input. -/
def formatClocksWrong : ChangeSpec := { name := "formatClocks", fn := fun _ => fun
  | [d1, d2] => { results := [.lit (.bool false)], args := [d1, d2] }
  | _ => none }
def FormatClocksWrongFalsely : Prop := formatClocksRow.holds Try.pinned (OpenSpec.ofChange formatClocksWrong)

/-- 'logbooklaw40.FormatLines': WHATEVER THE INPUT: true; the input reads as it did. -/
def formatLinesSpec : ChangeSpec := { name := "formatLines", fn := fun _ => fun
  | [d] => { results := [.lit (.bool true)], args := [d] }
  | _ => none }
def formatLinesRow : OpenClaim := { program := "ytbakfpiflcaacaa", sum := "3d5456bc0dbcda3bad8068146e8ba764ad266c00ee68bcb57958aa76990cdfe4", func := "logbook/logbooklaw40.FormatLines", spec := "formatLines", inPlace := ["internal/bytealg.IndexByteString", "internal/bytealg.IndexString"], recurses := true, named := ["internal/bytealg.MaxLen"], apart := false }
def FormatLinesSaid : Prop := formatLinesRow.holds Try.pinned (OpenSpec.ofChange formatLinesSpec)

/-- ITS FALSE NEIGHBOUR: 'it returns false'. Refute it at one input. -/
def formatLinesWrong : ChangeSpec := { name := "formatLines", fn := fun _ => fun
  | [d] => { results := [.lit (.bool false)], args := [d] }
  | _ => none }
def FormatLinesWrongFalsely : Prop := formatLinesRow.holds Try.pinned (OpenSpec.ofChange formatLinesWrong)

/-- 'logbooklaw40.FormatTables': WHATEVER THE INPUT: true; the input reads as it did. -/
def formatTablesSpec : ChangeSpec := { name := "formatTables", fn := fun _ => fun
  | [d] => { results := [.lit (.bool true)], args := [d] }
  | _ => none }
def formatTablesRow : OpenClaim := { program := "ytbakfpiflcaacaa", sum := "3d5456bc0dbcda3bad8068146e8ba764ad266c00ee68bcb57958aa76990cdfe4", func := "logbook/logbooklaw40.FormatTables", spec := "formatTables", inPlace := ["internal/abi.NoEscape", "internal/bytealg.MakeNoZero"], recurses := true, apart := false }
def FormatTablesSaid : Prop := formatTablesRow.holds Try.pinned (OpenSpec.ofChange formatTablesSpec)

/-- ITS FALSE NEIGHBOUR: 'it returns false'. Refute it at one input. -/
def formatTablesWrong : ChangeSpec := { name := "formatTables", fn := fun _ => fun
  | [d] => { results := [.lit (.bool false)], args := [d] }
  | _ => none }
def FormatTablesWrongFalsely : Prop := formatTablesRow.holds Try.pinned (OpenSpec.ofChange formatTablesWrong)

/-- 'logbooklaw40.FormatVerbose': WHATEVER THE INPUT: true; the input reads as it did. -/
def formatVerboseSpec : ChangeSpec := { name := "formatVerbose", fn := fun _ => fun
  | [d] => { results := [.lit (.bool true)], args := [d] }
  | _ => none }
def formatVerboseRow : OpenClaim := { program := "ytbakfpiflcaacaa", sum := "3d5456bc0dbcda3bad8068146e8ba764ad266c00ee68bcb57958aa76990cdfe4", func := "logbook/logbooklaw40.FormatVerbose", spec := "formatVerbose", inPlace := ["internal/bytealg.IndexByteString", "internal/bytealg.IndexString"], recurses := true, named := ["internal/bytealg.MaxLen"], apart := false }
def FormatVerboseSaid : Prop := formatVerboseRow.holds Try.pinned (OpenSpec.ofChange formatVerboseSpec)

/-- ITS FALSE NEIGHBOUR: 'it returns false'. Refute it at one input. -/
def formatVerboseWrong : ChangeSpec := { name := "formatVerbose", fn := fun _ => fun
  | [d] => { results := [.lit (.bool false)], args := [d] }
  | _ => none }
def FormatVerboseWrongFalsely : Prop := formatVerboseRow.holds Try.pinned (OpenSpec.ofChange formatVerboseWrong)

/- THE SECOND FORM. 'bulk': how many values and letters a reading holds, each counted each time it is reached (what is shared counts as often as it is met; a slice's spare places count too). A statement '..UptoSaid' is the law's where the arguments, and the package variables that the reading takes, are together of bulk at most 1048576: NARROWER than '..Said'. Prove '..Said' where nothing that the law and all that it calls make is longer than what came in: it says more and counts as full. Else prove '..UptoSaid'. A law counts once. -/
mutual
def uptoBulk {H : Type} : DataW H → Nat
  | .lit (.string bytes) => bytes.length + 1
  | .lit _ => 1
  | .nil => 1
  | .ptr d => uptoBulk d + 1
  | .slice elems spare => uptoBulkAll elems + uptoBulkAll spare + 1
  | .agg parts => uptoBulkAll parts + 1
  | .iface _ d => uptoBulk d + 1
  | .map entries => uptoBulkEntries entries + 1
  | .held _ => 1
def uptoBulkAll {H : Type} : List (DataW H) → Nat
  | [] => 0
  | d :: r => uptoBulk d + uptoBulkAll r
def uptoBulkEntries {H : Type} : List (Lit × DataW H) → Nat
  | [] => 0
  | x :: r => uptoBulkEntry x + uptoBulkEntries r
def uptoBulkEntry {H : Type} : Lit × DataW H → Nat
  | (.string bytes, d) => bytes.length + uptoBulk d + 1
  | (_, d) => uptoBulk d + 1
 end
def uptoSmall : (H : Type) → List (DataW H) → Bool := fun _ ds => decide (uptoBulkAll ds ≤ 1048576)
def OpenSpec.upto (s : _root_.Go.ChangeSpec) : _root_.Go.OpenSpec := { _root_.Go.OpenSpec.ofChange s with cond := some uptoSmall }

/-- 'logbooklaw40.FormatClocks', WHERE WHAT IT READS IS OF BULK AT MOST 1048576: true; the input reads as it did. -/
def formatClocksUptoRow : OpenClaim := { program := "ytbakfpiflcaacaa", sum := "3d5456bc0dbcda3bad8068146e8ba764ad266c00ee68bcb57958aa76990cdfe4", func := "logbook/logbooklaw40.FormatClocks", spec := "formatClocks", recurses := true, apart := false, narrowed := true }
def FormatClocksUptoSaid : Prop := formatClocksUptoRow.holds Try.pinned (OpenSpec.upto formatClocksSpec)

/-- 'logbooklaw40.FormatLines', WHERE WHAT IT READS IS OF BULK AT MOST 1048576: true; the input reads as it did. -/
def formatLinesUptoRow : OpenClaim := { program := "ytbakfpiflcaacaa", sum := "3d5456bc0dbcda3bad8068146e8ba764ad266c00ee68bcb57958aa76990cdfe4", func := "logbook/logbooklaw40.FormatLines", spec := "formatLines", inPlace := ["internal/bytealg.IndexByteString", "internal/bytealg.IndexString"], recurses := true, named := ["internal/bytealg.MaxLen"], apart := false, narrowed := true }
def FormatLinesUptoSaid : Prop := formatLinesUptoRow.holds Try.pinned (OpenSpec.upto formatLinesSpec)

/-- 'logbooklaw40.FormatTables', WHERE WHAT IT READS IS OF BULK AT MOST 1048576: true; the input reads as it did. -/
def formatTablesUptoRow : OpenClaim := { program := "ytbakfpiflcaacaa", sum := "3d5456bc0dbcda3bad8068146e8ba764ad266c00ee68bcb57958aa76990cdfe4", func := "logbook/logbooklaw40.FormatTables", spec := "formatTables", inPlace := ["internal/abi.NoEscape", "internal/bytealg.MakeNoZero"], recurses := true, apart := false, narrowed := true }
def FormatTablesUptoSaid : Prop := formatTablesUptoRow.holds Try.pinned (OpenSpec.upto formatTablesSpec)

/-- 'logbooklaw40.FormatVerbose', WHERE WHAT IT READS IS OF BULK AT MOST 1048576: true; the input reads as it did. -/
def formatVerboseUptoRow : OpenClaim := { program := "ytbakfpiflcaacaa", sum := "3d5456bc0dbcda3bad8068146e8ba764ad266c00ee68bcb57958aa76990cdfe4", func := "logbook/logbooklaw40.FormatVerbose", spec := "formatVerbose", inPlace := ["internal/bytealg.IndexByteString", "internal/bytealg.IndexString"], recurses := true, named := ["internal/bytealg.MaxLen"], apart := false, narrowed := true }
def FormatVerboseUptoSaid : Prop := formatVerboseUptoRow.holds Try.pinned (OpenSpec.upto formatVerboseSpec)

end Rows
end Go.Proofs.Ytbakfpiflcaacaa
