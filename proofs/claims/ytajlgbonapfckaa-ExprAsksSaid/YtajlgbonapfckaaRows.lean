/-
  No cell of these rows narrows 'for every input' (looked for: loops, veiled, ifaces, maps, wideKeys, modest, calm, conditions, laid).
  DERIVED. THE GIVEN ROWS OF THIS SEAT. 3 by the template 'for every input the law returns true; each argument reads behind the call as it read before'; 0 by the template 'total and deterministic' (their statements: YtajlgbonapfckaaTotals.lean).
  GIVEN WITH THE SEED: the statements are not yours to turn. If you find one false, say at which input.
  Laid BY PROGRAM, IN A SANDBOX (cutbox-rows.mjs): the forced cells as the released guide's own fill.sh prints them over the translation 5886d8bf9fe7eb2c… (all of the seat's roots in one cut). By AI agents, Wed Nov 11 2026. No macro, syntax, notation, axiom, sorry.
-/
import Derived.Test.YtajlgbonapfckaaChecked
import GoSem.Claim
import GoSem.ClaimJoined
import GoSem.ClaimMapViews
import Derived.JoinedTies
import Derived.KernelRfl
namespace Go.Proofs.Ytajlgbonapfckaa
/- THE CELL 'sum', in the pinned program and in every row, IS THE sha256 OF THE DUMP (.gsa) THAT YtajlgbonapfckaaProg.lean LOADS. Nothing in Lean hashes anything: it is a label: what it is worth is what the hold of that sum in a sandbox is worth. -/
noncomputable def Try.pinned : Pinned := { name := "ytajlgbonapfckaa", sum := "5886d8bf9fe7eb2c72f6c5f0c2e83d27dd9225b5810753245a590396ea00e406", checked := Try.checked }
namespace Rows
def none {H : Type} : Left H := { results := [], args := [] }

/-- 'logbooklaw26.ExprAsks': WHATEVER THE INPUT: true; the input reads as it did. -/
def exprAsksSpec : ChangeSpec := { name := "exprAsks", fn := fun _ => fun
  | [d1, d2] => { results := [.lit (.bool true)], args := [d1, d2] }
  | _ => none }
def exprAsksRow : OpenClaim := { program := "ytajlgbonapfckaa", sum := "5886d8bf9fe7eb2c72f6c5f0c2e83d27dd9225b5810753245a590396ea00e406", func := "logbook/logbooklaw26.ExprAsks", spec := "exprAsks", inPlace := ["internal/bytealg.IndexByteString", "internal/bytealg.IndexString", "internal/bytealg.abigen_runtime_cmpstring"], unfollowed := true, recurses := true, named := ["internal/bytealg.MaxLen"], apart := false }
def ExprAsksSaid : Prop := exprAsksRow.holds Try.pinned (OpenSpec.ofChange exprAsksSpec)

/-- ITS FALSE NEIGHBOUR: 'it returns false'. Refute it at one input. -/
def exprAsksWrong : ChangeSpec := { name := "exprAsks", fn := fun _ => fun
  | [d1, d2] => { results := [.lit (.bool false)], args := [d1, d2] }
  | _ => none }
def ExprAsksWrongFalsely : Prop := exprAsksRow.holds Try.pinned (OpenSpec.ofChange exprAsksWrong)

/-- 'logbooklaw26.ExprLevels': WHATEVER THE INPUT: true; the input reads as it did. -/
def exprLevelsSpec : ChangeSpec := { name := "exprLevels", fn := fun _ => fun
  | [d1, d2] => { results := [.lit (.bool true)], args := [d1, d2] }
  | _ => none }
def exprLevelsRow : OpenClaim := { program := "ytajlgbonapfckaa", sum := "5886d8bf9fe7eb2c72f6c5f0c2e83d27dd9225b5810753245a590396ea00e406", func := "logbook/logbooklaw26.ExprLevels", spec := "exprLevels", inPlace := ["internal/bytealg.IndexByteString", "internal/bytealg.IndexString", "internal/bytealg.abigen_runtime_cmpstring"], unfollowed := true, recurses := true, named := ["internal/bytealg.MaxLen"], apart := false }
def ExprLevelsSaid : Prop := exprLevelsRow.holds Try.pinned (OpenSpec.ofChange exprLevelsSpec)

/-- ITS FALSE NEIGHBOUR: 'it returns false'. Refute it at one input. -/
def exprLevelsWrong : ChangeSpec := { name := "exprLevels", fn := fun _ => fun
  | [d1, d2] => { results := [.lit (.bool false)], args := [d1, d2] }
  | _ => none }
def ExprLevelsWrongFalsely : Prop := exprLevelsRow.holds Try.pinned (OpenSpec.ofChange exprLevelsWrong)

/-- 'logbooklaw26.ExprNobody': WHATEVER THE INPUT: true; the input reads as it did. -/
def exprNobodySpec : ChangeSpec := { name := "exprNobody", fn := fun _ => fun
  | [d] => { results := [.lit (.bool true)], args := [d] }
  | _ => none }
def exprNobodyRow : OpenClaim := { program := "ytajlgbonapfckaa", sum := "5886d8bf9fe7eb2c72f6c5f0c2e83d27dd9225b5810753245a590396ea00e406", func := "logbook/logbooklaw26.ExprNobody", spec := "exprNobody", inPlace := ["internal/bytealg.IndexByteString", "internal/bytealg.IndexString", "internal/bytealg.abigen_runtime_cmpstring"], unfollowed := true, recurses := true, named := ["internal/bytealg.MaxLen"], apart := false }
def ExprNobodySaid : Prop := exprNobodyRow.holds Try.pinned (OpenSpec.ofChange exprNobodySpec)

/-- ITS FALSE NEIGHBOUR: 'it returns false'. Refute it at one input. -/
def exprNobodyWrong : ChangeSpec := { name := "exprNobody", fn := fun _ => fun
  | [d] => { results := [.lit (.bool false)], args := [d] }
  | _ => none }
def ExprNobodyWrongFalsely : Prop := exprNobodyRow.holds Try.pinned (OpenSpec.ofChange exprNobodyWrong)

/- THE SECOND FORM. 'bulk': how many values and letters a reading holds, each counted each time it is reached (what is shared counts as often as it is met; a slice's spare places count too). A statement '..UptoSaid' is the law's where the arguments, and the package variables that the reading takes, are together of bulk at most 1048576: NARROWER than '..Said'. Prove '..Said' where nothing that the law and all that it calls make is longer than what came in: it says more and counts as full. Else prove '..UptoSaid'. A law counts once. -/
mutual
def uptoBulk {H : Type} : DataW H → Nat
  | .lit (.string bytes) => bytes.length + 1
  | .lit _ => 1
  | .nil => 1
  | .ptr d => uptoBulk d + 1
  | .slice elems spare => uptoBulkAll elems + uptoBulkAll spare + 1
  | .agg parts => uptoBulkAll parts + 1
  | .iface _ d => uptoBulk d + 1
  | .map entries => uptoBulkEntries entries + 1
  | .held _ => 1
def uptoBulkAll {H : Type} : List (DataW H) → Nat
  | [] => 0
  | d :: r => uptoBulk d + uptoBulkAll r
def uptoBulkEntries {H : Type} : List (Lit × DataW H) → Nat
  | [] => 0
  | x :: r => uptoBulkEntry x + uptoBulkEntries r
def uptoBulkEntry {H : Type} : Lit × DataW H → Nat
  | (.string bytes, d) => bytes.length + uptoBulk d + 1
  | (_, d) => uptoBulk d + 1
 end
def uptoSmall : (H : Type) → List (DataW H) → Bool := fun _ ds => decide (uptoBulkAll ds ≤ 1048576)
def OpenSpec.upto (s : _root_.Go.ChangeSpec) : _root_.Go.OpenSpec := { _root_.Go.OpenSpec.ofChange s with cond := some uptoSmall }

/-- 'logbooklaw26.ExprAsks', WHERE WHAT IT READS IS OF BULK AT MOST 1048576: true; the input reads as it did. -/
def exprAsksUptoRow : OpenClaim := { program := "ytajlgbonapfckaa", sum := "5886d8bf9fe7eb2c72f6c5f0c2e83d27dd9225b5810753245a590396ea00e406", func := "logbook/logbooklaw26.ExprAsks", spec := "exprAsks", inPlace := ["internal/bytealg.IndexByteString", "internal/bytealg.IndexString", "internal/bytealg.abigen_runtime_cmpstring"], unfollowed := true, recurses := true, named := ["internal/bytealg.MaxLen"], apart := false, narrowed := true }
def ExprAsksUptoSaid : Prop := exprAsksUptoRow.holds Try.pinned (OpenSpec.upto exprAsksSpec)

/-- 'logbooklaw26.ExprLevels', WHERE WHAT IT READS IS OF BULK AT MOST 1048576: true; the input reads as it did. -/
def exprLevelsUptoRow : OpenClaim := { program := "ytajlgbonapfckaa", sum := "5886d8bf9fe7eb2c72f6c5f0c2e83d27dd9225b5810753245a590396ea00e406", func := "logbook/logbooklaw26.ExprLevels", spec := "exprLevels", inPlace := ["internal/bytealg.IndexByteString", "internal/bytealg.IndexString", "internal/bytealg.abigen_runtime_cmpstring"], unfollowed := true, recurses := true, named := ["internal/bytealg.MaxLen"], apart := false, narrowed := true }
def ExprLevelsUptoSaid : Prop := exprLevelsUptoRow.holds Try.pinned (OpenSpec.upto exprLevelsSpec)

/-- 'logbooklaw26.ExprNobody', WHERE WHAT IT READS IS OF BULK AT MOST 1048576: true; the input reads as it did. -/
def exprNobodyUptoRow : OpenClaim := { program := "ytajlgbonapfckaa", sum := "5886d8bf9fe7eb2c72f6c5f0c2e83d27dd9225b5810753245a590396ea00e406", func := "logbook/logbooklaw26.ExprNobody", spec := "exprNobody", inPlace := ["internal/bytealg.IndexByteString", "internal/bytealg.IndexString", "internal/bytealg.abigen_runtime_cmpstring"], unfollowed := true, recurses := true, named := ["internal/bytealg.MaxLen"], apart := false, narrowed := true }
def ExprNobodyUptoSaid : Prop := exprNobodyUptoRow.holds Try.pinned (OpenSpec.upto exprNobodySpec)

end Rows
end Go.Proofs.Ytajlgbonapfckaa
