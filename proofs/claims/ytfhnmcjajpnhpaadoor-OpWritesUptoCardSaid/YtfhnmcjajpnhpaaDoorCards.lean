/-
  DERIVED. GIVEN WITH THE SEED: THE CARDS: each row of YtfhnmcjajpnhpaaDoorRows.lean that lists a variable, with what it lists TIED to the program's text (the seventh form; the later family's looks); each row that meets fmt, with fmt's text TOLD by the authors' own Lean function (tested against real Go, not proved from fmt's source: count such statements apart). THE CARD IS WHAT COUNTS. Prove the row's statement (the work); the ties are given (YtfhnmcjajpnhpaaDoorTie.lean); close each card by the builder's one call (the guide's Derived/Test/ToyasCard.lean, 'card_holds'). Laid BY PROGRAM, IN A SANDBOX (cutbox-door.mjs). By AI agents, Wed Nov 11 2026. No macro, syntax, notation, axiom, sorry.
-/
import Derived.Test.YtfhnmcjajpnhpaaDoorRows
import GoSem.ClaimSeven
namespace Go.Proofs.YtfhnmcjajpnhpaaDoor
namespace Rows

/-- THE TIED CARD OF 'logbooklaw46.OpReads'. -/
def opReadsCard : Claim7 := { stood := { row := opReadsRow, standIns := [], harness := (true, "01181a4e1d7b705afbdfba1b1ebe0422abff89dfbaae03df3a8fcbb181b82ace"), looks := false }, kinds := [], alts := [], laidByText := true, laidKinds := [.data, .pinned], laidTests := true, laidLooks := .later }
def OpReadsCardSaid : Prop := Claim7.holds Tryd.pinned (.plain (OpenSpec.ofChange opReadsSpec)) opReadsCard

/-- THE TIED CARD OF 'logbooklaw46.OpNames'. -/
def opNamesCard : Claim7 := { stood := { row := opNamesRow, standIns := [], harness := (true, "01181a4e1d7b705afbdfba1b1ebe0422abff89dfbaae03df3a8fcbb181b82ace"), looks := false }, kinds := [], alts := [], laidByText := true, laidKinds := [.data, .pinned], laidTests := true, laidLooks := .later }
def OpNamesCardSaid : Prop := Claim7.holds Tryd.pinned (.plain (OpenSpec.ofChange opNamesSpec)) opNamesCard

/-- THE TIED CARD OF 'logbooklaw46.OpWrites'. -/
def opWritesCard : Claim7 := { stood := { row := opWritesRow, standIns := [], harness := (true, "01181a4e1d7b705afbdfba1b1ebe0422abff89dfbaae03df3a8fcbb181b82ace"), looks := false }, kinds := [], alts := [], laidByText := true, laidKinds := [.data, .pinned], laidTests := true, laidLooks := .later }
def OpWritesCardSaid : Prop := Claim7.holds Tryd.pinned (.plain (OpenSpec.ofChange opWritesSpec)) opWritesCard

/-- THE SECOND FORM's CARD OF 'logbooklaw46.OpReads'. -/
def opReadsUptoCard : Claim7 := { stood := { row := opReadsUptoRow, standIns := [], harness := (true, "01181a4e1d7b705afbdfba1b1ebe0422abff89dfbaae03df3a8fcbb181b82ace"), looks := false }, kinds := [], alts := [], laidByText := true, laidKinds := [.data, .pinned], laidTests := true, laidLooks := .later }
def OpReadsUptoCardSaid : Prop := Claim7.holds Tryd.pinned (.plain (OpenSpec.upto opReadsSpec)) opReadsUptoCard

/-- THE SECOND FORM's CARD OF 'logbooklaw46.OpNames'. -/
def opNamesUptoCard : Claim7 := { stood := { row := opNamesUptoRow, standIns := [], harness := (true, "01181a4e1d7b705afbdfba1b1ebe0422abff89dfbaae03df3a8fcbb181b82ace"), looks := false }, kinds := [], alts := [], laidByText := true, laidKinds := [.data, .pinned], laidTests := true, laidLooks := .later }
def OpNamesUptoCardSaid : Prop := Claim7.holds Tryd.pinned (.plain (OpenSpec.upto opNamesSpec)) opNamesUptoCard

/-- THE SECOND FORM's CARD OF 'logbooklaw46.OpWrites'. -/
def opWritesUptoCard : Claim7 := { stood := { row := opWritesUptoRow, standIns := [], harness := (true, "01181a4e1d7b705afbdfba1b1ebe0422abff89dfbaae03df3a8fcbb181b82ace"), looks := false }, kinds := [], alts := [], laidByText := true, laidKinds := [.data, .pinned], laidTests := true, laidLooks := .later }
def OpWritesUptoCardSaid : Prop := Claim7.holds Tryd.pinned (.plain (OpenSpec.upto opWritesSpec)) opWritesUptoCard
end Rows
end Go.Proofs.YtfhnmcjajpnhpaaDoor
