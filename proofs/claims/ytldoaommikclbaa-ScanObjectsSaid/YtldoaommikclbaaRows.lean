/-
  No cell of these rows narrows 'for every input' (looked for: loops, veiled, ifaces, maps, wideKeys, modest, calm, conditions, laid).
  DERIVED. THE GIVEN ROWS OF THIS SEAT. 2 by the template 'for every input the law returns true; each argument reads behind the call as it read before'; 0 by the template 'total and deterministic' (their statements: YtldoaommikclbaaTotals.lean).
  GIVEN WITH THE SEED: the statements are not yours to turn. If you find one false, say at which input.
  Laid BY PROGRAM, IN A SANDBOX (cutbox-rows.mjs): the forced cells as the released guide's own fill.sh prints them over the translation cad618f3753e6f9f… (all of the seat's roots in one cut). By AI agents, Wed Nov 11 2026. No macro, syntax, notation, axiom, sorry.
-/
import Derived.Test.YtldoaommikclbaaChecked
import GoSem.Claim
import GoSem.ClaimJoined
import GoSem.ClaimMapViews
import Derived.JoinedTies
import Derived.KernelRfl
namespace Go.Proofs.Ytldoaommikclbaa
/- THE CELL 'sum', in the pinned program and in every row, IS THE sha256 OF THE DUMP (.gsa) THAT YtldoaommikclbaaProg.lean LOADS. Nothing in Lean hashes anything: it is a label: what it is worth is what the hold of that sum in a sandbox is worth. -/
noncomputable def Try.pinned : Pinned := { name := "ytldoaommikclbaa", sum := "cad618f3753e6f9fb9e83aa41b81b00ae13eb0176ff79fe23917f54053ea3ac2", checked := Try.checked }
namespace Rows
def none {H : Type} : Left H := { results := [], args := [] }

/-- 'logbooklaw17.ScanObjects': WHATEVER THE INPUT: true; the input reads as it did. -/
def scanObjectsSpec : ChangeSpec := { name := "scanObjects", fn := fun _ => fun
  | [d1, d2, d3, d4] => { results := [.lit (.bool true)], args := [d1, d2, d3, d4] }
  | _ => none }
def scanObjectsRow : OpenClaim := { program := "ytldoaommikclbaa", sum := "cad618f3753e6f9fb9e83aa41b81b00ae13eb0176ff79fe23917f54053ea3ac2", func := "logbook/logbooklaw17.ScanObjects", spec := "scanObjects", unfollowed := true, recurses := true, apart := false }
def ScanObjectsSaid : Prop := scanObjectsRow.holds Try.pinned (OpenSpec.ofChange scanObjectsSpec)

/-- ITS FALSE NEIGHBOUR: 'it returns false'. Refute it at one input. -/
def scanObjectsWrong : ChangeSpec := { name := "scanObjects", fn := fun _ => fun
  | [d1, d2, d3, d4] => { results := [.lit (.bool false)], args := [d1, d2, d3, d4] }
  | _ => none }
def ScanObjectsWrongFalsely : Prop := scanObjectsRow.holds Try.pinned (OpenSpec.ofChange scanObjectsWrong)

/-- 'logbooklaw17.ScanEntries': WHATEVER THE INPUT: true; the input reads as it did. -/
def scanEntriesSpec : ChangeSpec := { name := "scanEntries", fn := fun _ => fun
  | [d1, d2, d3, d4] => { results := [.lit (.bool true)], args := [d1, d2, d3, d4] }
  | _ => none }
def scanEntriesRow : OpenClaim := { program := "ytldoaommikclbaa", sum := "cad618f3753e6f9fb9e83aa41b81b00ae13eb0176ff79fe23917f54053ea3ac2", func := "logbook/logbooklaw17.ScanEntries", spec := "scanEntries", unfollowed := true, recurses := true, apart := false }
def ScanEntriesSaid : Prop := scanEntriesRow.holds Try.pinned (OpenSpec.ofChange scanEntriesSpec)

/-- ITS FALSE NEIGHBOUR: 'it returns false'. Refute it at one input. -/
def scanEntriesWrong : ChangeSpec := { name := "scanEntries", fn := fun _ => fun
  | [d1, d2, d3, d4] => { results := [.lit (.bool false)], args := [d1, d2, d3, d4] }
  | _ => none }
def ScanEntriesWrongFalsely : Prop := scanEntriesRow.holds Try.pinned (OpenSpec.ofChange scanEntriesWrong)

/- THE SECOND FORM. 'bulk': how many values and letters a reading holds, each counted each time it is reached (what is shared counts as often as it is met; a slice's spare places count too). A statement '..UptoSaid' is the law's where the arguments, and the package variables that the reading takes, are together of bulk at most 1048576: NARROWER than '..Said'. Prove '..Said' where nothing that the law and all that it calls make is longer than what came in: it says more and counts as full. Else prove '..UptoSaid'. A law counts once. -/
mutual
def uptoBulk {H : Type} : DataW H → Nat
  | .lit (.string bytes) => bytes.length + 1
  | .lit _ => 1
  | .nil => 1
  | .ptr d => uptoBulk d + 1
  | .slice elems spare => uptoBulkAll elems + uptoBulkAll spare + 1
  | .agg parts => uptoBulkAll parts + 1
  | .iface _ d => uptoBulk d + 1
  | .map entries => uptoBulkEntries entries + 1
  | .held _ => 1
def uptoBulkAll {H : Type} : List (DataW H) → Nat
  | [] => 0
  | d :: r => uptoBulk d + uptoBulkAll r
def uptoBulkEntries {H : Type} : List (Lit × DataW H) → Nat
  | [] => 0
  | x :: r => uptoBulkEntry x + uptoBulkEntries r
def uptoBulkEntry {H : Type} : Lit × DataW H → Nat
  | (.string bytes, d) => bytes.length + uptoBulk d + 1
  | (_, d) => uptoBulk d + 1
 end
def uptoSmall : (H : Type) → List (DataW H) → Bool := fun _ ds => decide (uptoBulkAll ds ≤ 1048576)
def OpenSpec.upto (s : _root_.Go.ChangeSpec) : _root_.Go.OpenSpec := { _root_.Go.OpenSpec.ofChange s with cond := some uptoSmall }

/-- 'logbooklaw17.ScanObjects', WHERE WHAT IT READS IS OF BULK AT MOST 1048576: true; the input reads as it did. -/
def scanObjectsUptoRow : OpenClaim := { program := "ytldoaommikclbaa", sum := "cad618f3753e6f9fb9e83aa41b81b00ae13eb0176ff79fe23917f54053ea3ac2", func := "logbook/logbooklaw17.ScanObjects", spec := "scanObjects", unfollowed := true, recurses := true, apart := false, narrowed := true }
def ScanObjectsUptoSaid : Prop := scanObjectsUptoRow.holds Try.pinned (OpenSpec.upto scanObjectsSpec)

/-- 'logbooklaw17.ScanEntries', WHERE WHAT IT READS IS OF BULK AT MOST 1048576: true; the input reads as it did. -/
def scanEntriesUptoRow : OpenClaim := { program := "ytldoaommikclbaa", sum := "cad618f3753e6f9fb9e83aa41b81b00ae13eb0176ff79fe23917f54053ea3ac2", func := "logbook/logbooklaw17.ScanEntries", spec := "scanEntries", unfollowed := true, recurses := true, apart := false, narrowed := true }
def ScanEntriesUptoSaid : Prop := scanEntriesUptoRow.holds Try.pinned (OpenSpec.upto scanEntriesSpec)

end Rows
end Go.Proofs.Ytldoaommikclbaa
