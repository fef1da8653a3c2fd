/-
  DERIVED. GIVEN WITH THE SEED: THE CARDS: each row of YtofgpppnknpblaaDoorRows.lean that lists a variable, with what it lists TIED to the program's text (the seventh form; the later family's looks); each row that meets fmt, with fmt's text TOLD by the authors' own Lean function (tested against real Go, not proved from fmt's source: count such statements apart). THE CARD IS WHAT COUNTS. Prove the row's statement (the work); the ties are given (YtofgpppnknpblaaDoorTie.lean); close each card by the builder's one call (the guide's Derived/Test/ToyasCard.lean, 'card_holds'). Laid BY PROGRAM, IN A SANDBOX (cutbox-door.mjs). By AI agents, Wed Nov 11 2026. No macro, syntax, notation, axiom, sorry.
-/
import Derived.Test.YtofgpppnknpblaaDoorRows
import GoSem.ClaimSeven
namespace Go.Proofs.YtofgpppnknpblaaDoor
namespace Rows

/-- THE TIED CARD OF 'distafflaw26.NoteTells'. -/
def noteTellsCard : Claim7 := { stood := { row := noteTellsRow, standIns := [], harness := (true, "0acb6ac7440fdb91240feb0db692a3c5f62a327f568681244f1a84228142320a"), looks := true }, kinds := [], alts := [], laidByText := true, laidKinds := [.data, .data, .data], laidTests := true, laidLooks := .later }
def NoteTellsCardSaid : Prop := Claim7.holds Tryd.pinned (.plain (OpenSpec.ofChange noteTellsSpec)) noteTellsCard

/-- THE TIED CARD OF 'distafflaw26.NoteBooks'. -/
def noteBooksCard : Claim7 := { stood := { row := noteBooksRow, standIns := [], harness := (true, "0acb6ac7440fdb91240feb0db692a3c5f62a327f568681244f1a84228142320a"), looks := true }, kinds := [], alts := [], laidByText := true, laidKinds := [.data, .data, .data], laidTests := true, laidLooks := .later }
def NoteBooksCardSaid : Prop := Claim7.holds Tryd.pinned (.plain (OpenSpec.ofChange noteBooksSpec)) noteBooksCard

/-- THE TIED CARD OF 'distafflaw26.NoteNone'. -/
def noteNoneCard : Claim7 := { stood := { row := noteNoneRow, standIns := [], harness := (true, "0acb6ac7440fdb91240feb0db692a3c5f62a327f568681244f1a84228142320a"), looks := true }, kinds := [], alts := [], laidByText := true, laidKinds := [.data, .data, .data], laidTests := true, laidLooks := .later }
def NoteNoneCardSaid : Prop := Claim7.holds Tryd.pinned (.plain (OpenSpec.ofChange noteNoneSpec)) noteNoneCard

/-- THE TIED CARD OF 'distafflaw26.NoteReads'. -/
def noteReadsCard : Claim7 := { stood := { row := noteReadsRow, standIns := [], harness := (true, "0acb6ac7440fdb91240feb0db692a3c5f62a327f568681244f1a84228142320a"), looks := true }, kinds := [], alts := [], laidByText := true, laidKinds := [.data, .data, .data, .data, .sentinel, .sentinel, .pinned], laidTests := true, laidLooks := .later }
def NoteReadsCardSaid : Prop := Claim7.holds Tryd.pinned (.plain (OpenSpec.ofChange noteReadsSpec)) noteReadsCard

/-- THE TIED CARD OF 'distafflaw26.NoteBack'. -/
def noteBackCard : Claim7 := { stood := { row := noteBackRow, standIns := [], harness := (true, "0acb6ac7440fdb91240feb0db692a3c5f62a327f568681244f1a84228142320a"), looks := true }, kinds := [], alts := [], laidByText := true, laidKinds := [.data, .data, .data, .data, .sentinel, .sentinel, .pinned], laidTests := true, laidLooks := .later }
def NoteBackCardSaid : Prop := Claim7.holds Tryd.pinned (.plain (OpenSpec.ofChange noteBackSpec)) noteBackCard

/-- THE SECOND FORM's CARD OF 'distafflaw26.NoteTells'. -/
def noteTellsUptoCard : Claim7 := { stood := { row := noteTellsUptoRow, standIns := [], harness := (true, "0acb6ac7440fdb91240feb0db692a3c5f62a327f568681244f1a84228142320a"), looks := true }, kinds := [], alts := [], laidByText := true, laidKinds := [.data, .data, .data], laidTests := true, laidLooks := .later }
def NoteTellsUptoCardSaid : Prop := Claim7.holds Tryd.pinned (.plain (OpenSpec.upto noteTellsSpec)) noteTellsUptoCard

/-- THE SECOND FORM's CARD OF 'distafflaw26.NoteBooks'. -/
def noteBooksUptoCard : Claim7 := { stood := { row := noteBooksUptoRow, standIns := [], harness := (true, "0acb6ac7440fdb91240feb0db692a3c5f62a327f568681244f1a84228142320a"), looks := true }, kinds := [], alts := [], laidByText := true, laidKinds := [.data, .data, .data], laidTests := true, laidLooks := .later }
def NoteBooksUptoCardSaid : Prop := Claim7.holds Tryd.pinned (.plain (OpenSpec.upto noteBooksSpec)) noteBooksUptoCard

/-- THE SECOND FORM's CARD OF 'distafflaw26.NoteNone'. -/
def noteNoneUptoCard : Claim7 := { stood := { row := noteNoneUptoRow, standIns := [], harness := (true, "0acb6ac7440fdb91240feb0db692a3c5f62a327f568681244f1a84228142320a"), looks := true }, kinds := [], alts := [], laidByText := true, laidKinds := [.data, .data, .data], laidTests := true, laidLooks := .later }
def NoteNoneUptoCardSaid : Prop := Claim7.holds Tryd.pinned (.plain (OpenSpec.upto noteNoneSpec)) noteNoneUptoCard

/-- THE SECOND FORM's CARD OF 'distafflaw26.NoteReads'. -/
def noteReadsUptoCard : Claim7 := { stood := { row := noteReadsUptoRow, standIns := [], harness := (true, "0acb6ac7440fdb91240feb0db692a3c5f62a327f568681244f1a84228142320a"), looks := true }, kinds := [], alts := [], laidByText := true, laidKinds := [.data, .data, .data, .data, .sentinel, .sentinel, .pinned], laidTests := true, laidLooks := .later }
def NoteReadsUptoCardSaid : Prop := Claim7.holds Tryd.pinned (.plain (OpenSpec.upto noteReadsSpec)) noteReadsUptoCard

/-- THE SECOND FORM's CARD OF 'distafflaw26.NoteBack'. -/
def noteBackUptoCard : Claim7 := { stood := { row := noteBackUptoRow, standIns := [], harness := (true, "0acb6ac7440fdb91240feb0db692a3c5f62a327f568681244f1a84228142320a"), looks := true }, kinds := [], alts := [], laidByText := true, laidKinds := [.data, .data, .data, .data, .sentinel, .sentinel, .pinned], laidTests := true, laidLooks := .later }
def NoteBackUptoCardSaid : Prop := Claim7.holds Tryd.pinned (.plain (OpenSpec.upto noteBackSpec)) noteBackUptoCard
end Rows
end Go.Proofs.YtofgpppnknpblaaDoor
