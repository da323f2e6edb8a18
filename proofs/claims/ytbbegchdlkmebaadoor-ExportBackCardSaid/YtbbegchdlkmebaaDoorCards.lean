/-
  DERIVED. GIVEN WITH THE SEED: THE CARDS: each row of YtbbegchdlkmebaaDoorRows.lean that lists a variable, with what it lists TIED to the program's text (the seventh form; the later family's looks); each row that meets fmt, with fmt's text TOLD by the authors' own Lean function (tested against real Go, not proved from fmt's source: count such statements apart). THE CARD IS WHAT COUNTS. Prove the row's statement (the work); the ties are given (YtbbegchdlkmebaaDoorTie.lean); close each card by the builder's one call (the guide's Derived/Test/ToyasCard.lean, 'card_holds'). Laid BY PROGRAM, IN A SANDBOX (cutbox-door.mjs). By AI agents, Wed Nov 11 2026. No macro, syntax, notation, axiom, sorry.
-/
import Derived.Test.YtbbegchdlkmebaaDoorRows
import GoSem.ClaimSeven
namespace Go.Proofs.YtbbegchdlkmebaaDoor
namespace Rows

/-- THE TIED CARD OF 'logbooklaw32.ExportWrites'. -/
def exportWritesCard : Claim7 := { stood := { row := exportWritesRow, standIns := [], harness := (true, "b63e50d9dc56fc7c44a19efd605d55881bb47798fee69dbd89a2804774ce7837"), looks := false }, kinds := [], alts := [], laidByText := true, laidKinds := [.data, .pinned], laidTests := true, laidLooks := .later }
def ExportWritesCardSaid : Prop := Claim7.holds Tryd.pinned (.plain (OpenSpec.ofChange exportWritesSpec)) exportWritesCard

/-- THE TIED CARD OF 'logbooklaw32.ExportReads'. -/
def exportReadsCard : Claim7 := { stood := { row := exportReadsRow, standIns := [], harness := (true, "b63e50d9dc56fc7c44a19efd605d55881bb47798fee69dbd89a2804774ce7837"), looks := false }, kinds := [], alts := [], laidByText := true, laidKinds := [.data, .pinned], laidTests := true, laidLooks := .later }
def ExportReadsCardSaid : Prop := Claim7.holds Tryd.pinned (.plain (OpenSpec.ofChange exportReadsSpec)) exportReadsCard

/-- THE TIED CARD OF 'logbooklaw32.ExportBack'. -/
def exportBackCard : Claim7 := { stood := { row := exportBackRow, standIns := [], harness := (true, "b63e50d9dc56fc7c44a19efd605d55881bb47798fee69dbd89a2804774ce7837"), looks := false }, kinds := [], alts := [], laidByText := true, laidKinds := [.data, .pinned], laidTests := true, laidLooks := .later }
def ExportBackCardSaid : Prop := Claim7.holds Tryd.pinned (.plain (OpenSpec.ofChange exportBackSpec)) exportBackCard

/-- THE SECOND FORM's CARD OF 'logbooklaw32.ExportWrites'. -/
def exportWritesUptoCard : Claim7 := { stood := { row := exportWritesUptoRow, standIns := [], harness := (true, "b63e50d9dc56fc7c44a19efd605d55881bb47798fee69dbd89a2804774ce7837"), looks := false }, kinds := [], alts := [], laidByText := true, laidKinds := [.data, .pinned], laidTests := true, laidLooks := .later }
def ExportWritesUptoCardSaid : Prop := Claim7.holds Tryd.pinned (.plain (OpenSpec.upto exportWritesSpec)) exportWritesUptoCard

/-- THE SECOND FORM's CARD OF 'logbooklaw32.ExportReads'. -/
def exportReadsUptoCard : Claim7 := { stood := { row := exportReadsUptoRow, standIns := [], harness := (true, "b63e50d9dc56fc7c44a19efd605d55881bb47798fee69dbd89a2804774ce7837"), looks := false }, kinds := [], alts := [], laidByText := true, laidKinds := [.data, .pinned], laidTests := true, laidLooks := .later }
def ExportReadsUptoCardSaid : Prop := Claim7.holds Tryd.pinned (.plain (OpenSpec.upto exportReadsSpec)) exportReadsUptoCard

/-- THE SECOND FORM's CARD OF 'logbooklaw32.ExportBack'. -/
def exportBackUptoCard : Claim7 := { stood := { row := exportBackUptoRow, standIns := [], harness := (true, "b63e50d9dc56fc7c44a19efd605d55881bb47798fee69dbd89a2804774ce7837"), looks := false }, kinds := [], alts := [], laidByText := true, laidKinds := [.data, .pinned], laidTests := true, laidLooks := .later }
def ExportBackUptoCardSaid : Prop := Claim7.holds Tryd.pinned (.plain (OpenSpec.upto exportBackSpec)) exportBackUptoCard
end Rows
end Go.Proofs.YtbbegchdlkmebaaDoor
