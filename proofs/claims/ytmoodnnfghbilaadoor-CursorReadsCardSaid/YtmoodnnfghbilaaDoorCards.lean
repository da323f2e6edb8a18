/-
  DERIVED. GIVEN WITH THE SEED: THE CARDS: each row of YtmoodnnfghbilaaDoorRows.lean that lists a variable, with what it lists TIED to the program's text (the seventh form; the later family's looks); each row that meets fmt, with fmt's text TOLD by the authors' own Lean function (tested against real Go, not proved from fmt's source: count such statements apart). THE CARD IS WHAT COUNTS. Prove the row's statement (the work); the ties are given (YtmoodnnfghbilaaDoorTie.lean); close each card by the builder's one call (the guide's Derived/Test/ToyasCard.lean, 'card_holds'). Laid BY PROGRAM, IN A SANDBOX (cutbox-door.mjs). By AI agents, Wed Nov 11 2026. No macro, syntax, notation, axiom, sorry.
-/
import Derived.Test.YtmoodnnfghbilaaDoorRows
import GoSem.ClaimSeven
namespace Go.Proofs.YtmoodnnfghbilaaDoor
namespace Rows

/-- THE TIED CARD OF 'logbooklaw29.CursorApart'. -/
def cursorApartCard : Claim7 := { stood := { row := cursorApartRow, standIns := [], harness := (true, "b2ba28e79e6f51a841f8bc9cb52de90783d7c8ae4efae622c6174a9247fc3dfe"), looks := false }, kinds := [], alts := [], laidByText := true, laidKinds := [.data, .pinned], laidTests := true, laidLooks := .later }
def CursorApartCardSaid : Prop := Claim7.holds Tryd.pinned (.plain (OpenSpec.ofChange cursorApartSpec)) cursorApartCard

/-- THE TIED CARD OF 'logbooklaw29.CursorTells'. -/
def cursorTellsCard : Claim7 := { stood := { row := cursorTellsRow, standIns := [], harness := (true, "b2ba28e79e6f51a841f8bc9cb52de90783d7c8ae4efae622c6174a9247fc3dfe"), looks := false }, kinds := [], alts := [], laidByText := true, laidKinds := [.data, .pinned], laidTests := true, laidLooks := .later }
def CursorTellsCardSaid : Prop := Claim7.holds Tryd.pinned (.plain (OpenSpec.ofChange cursorTellsSpec)) cursorTellsCard

/-- THE TIED CARD OF 'logbooklaw29.CursorWrites'. -/
def cursorWritesCard : Claim7 := { stood := { row := cursorWritesRow, standIns := [], harness := (true, "b2ba28e79e6f51a841f8bc9cb52de90783d7c8ae4efae622c6174a9247fc3dfe"), looks := false }, kinds := [], alts := [], laidByText := true, laidKinds := [.data, .pinned], laidTests := true, laidLooks := .later }
def CursorWritesCardSaid : Prop := Claim7.holds Tryd.pinned (.plain (OpenSpec.ofChange cursorWritesSpec)) cursorWritesCard

/-- THE TIED CARD OF 'logbooklaw29.CursorReads'. -/
def cursorReadsCard : Claim7 := { stood := { row := cursorReadsRow, standIns := [], harness := (true, "b2ba28e79e6f51a841f8bc9cb52de90783d7c8ae4efae622c6174a9247fc3dfe"), looks := false }, kinds := [], alts := [], laidByText := true, laidKinds := [.data, .pinned], laidTests := true, laidLooks := .later }
def CursorReadsCardSaid : Prop := Claim7.holds Tryd.pinned (.plain (OpenSpec.ofChange cursorReadsSpec)) cursorReadsCard

/-- THE SECOND FORM's CARD OF 'logbooklaw29.CursorApart'. -/
def cursorApartUptoCard : Claim7 := { stood := { row := cursorApartUptoRow, standIns := [], harness := (true, "b2ba28e79e6f51a841f8bc9cb52de90783d7c8ae4efae622c6174a9247fc3dfe"), looks := false }, kinds := [], alts := [], laidByText := true, laidKinds := [.data, .pinned], laidTests := true, laidLooks := .later }
def CursorApartUptoCardSaid : Prop := Claim7.holds Tryd.pinned (.plain (OpenSpec.upto cursorApartSpec)) cursorApartUptoCard

/-- THE SECOND FORM's CARD OF 'logbooklaw29.CursorTells'. -/
def cursorTellsUptoCard : Claim7 := { stood := { row := cursorTellsUptoRow, standIns := [], harness := (true, "b2ba28e79e6f51a841f8bc9cb52de90783d7c8ae4efae622c6174a9247fc3dfe"), looks := false }, kinds := [], alts := [], laidByText := true, laidKinds := [.data, .pinned], laidTests := true, laidLooks := .later }
def CursorTellsUptoCardSaid : Prop := Claim7.holds Tryd.pinned (.plain (OpenSpec.upto cursorTellsSpec)) cursorTellsUptoCard

/-- THE SECOND FORM's CARD OF 'logbooklaw29.CursorWrites'. -/
def cursorWritesUptoCard : Claim7 := { stood := { row := cursorWritesUptoRow, standIns := [], harness := (true, "b2ba28e79e6f51a841f8bc9cb52de90783d7c8ae4efae622c6174a9247fc3dfe"), looks := false }, kinds := [], alts := [], laidByText := true, laidKinds := [.data, .pinned], laidTests := true, laidLooks := .later }
def CursorWritesUptoCardSaid : Prop := Claim7.holds Tryd.pinned (.plain (OpenSpec.upto cursorWritesSpec)) cursorWritesUptoCard

/-- THE SECOND FORM's CARD OF 'logbooklaw29.CursorReads'. -/
def cursorReadsUptoCard : Claim7 := { stood := { row := cursorReadsUptoRow, standIns := [], harness := (true, "b2ba28e79e6f51a841f8bc9cb52de90783d7c8ae4efae622c6174a9247fc3dfe"), looks := false }, kinds := [], alts := [], laidByText := true, laidKinds := [.data, .pinned], laidTests := true, laidLooks := .later }
def CursorReadsUptoCardSaid : Prop := Claim7.holds Tryd.pinned (.plain (OpenSpec.upto cursorReadsSpec)) cursorReadsUptoCard
end Rows
end Go.Proofs.YtmoodnnfghbilaaDoor
