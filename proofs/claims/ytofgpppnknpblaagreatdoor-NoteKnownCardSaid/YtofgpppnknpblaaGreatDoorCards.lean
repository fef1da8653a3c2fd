/-
  DERIVED. GIVEN WITH THE SEED: THE CARDS: each row of YtofgpppnknpblaaGreatDoorRows.lean that lists a variable, with what it lists TIED to the program's text (the seventh form; the later family's looks); each row that meets fmt, with fmt's text TOLD by the authors' own Lean function (tested against real Go, not proved from fmt's source: count such statements apart). THE CARD IS WHAT COUNTS. Prove the row's statement (the work); the ties are given (YtofgpppnknpblaaGreatDoorTie.lean); close each card by the builder's one call (the guide's Derived/Test/ToyasCard.lean, 'card_holds'). Laid BY PROGRAM, IN A SANDBOX (cutbox-door.mjs). By AI agents, Wed Nov 11 2026. No macro, syntax, notation, axiom, sorry.
-/
import Derived.Test.YtofgpppnknpblaaGreatDoorRows
import GoSem.ClaimSeven
namespace Go.Proofs.YtofgpppnknpblaaGreatDoor
namespace Rows

/-- THE TIED CARD OF 'distafflaw26.NoteKnown'. -/
def noteKnownCard : Claim7 := { stood := { row := noteKnownRow, standIns := [], harness := (true, "317cfc92ce542bd5940acc1c8fc516274c1ef40cb9053004f3624e60d3e091a2"), looks := true }, kinds := [], alts := [], laidByText := true, laidKinds := [.data, .data, .data, .data, .sentinel, .sentinel, .pinned], laidTests := true, laidLooks := .later }
def NoteKnownCardSaid : Prop := Claim7.holds Tryz.pinned (.plain (OpenSpec.ofChange noteKnownSpec)) noteKnownCard

/-- THE SECOND FORM's CARD OF 'distafflaw26.NoteKnown'. -/
def noteKnownUptoCard : Claim7 := { stood := { row := noteKnownUptoRow, standIns := [], harness := (true, "317cfc92ce542bd5940acc1c8fc516274c1ef40cb9053004f3624e60d3e091a2"), looks := true }, kinds := [], alts := [], laidByText := true, laidKinds := [.data, .data, .data, .data, .sentinel, .sentinel, .pinned], laidTests := true, laidLooks := .later }
def NoteKnownUptoCardSaid : Prop := Claim7.holds Tryz.pinned (.plain (OpenSpec.upto noteKnownSpec)) noteKnownUptoCard
end Rows
end Go.Proofs.YtofgpppnknpblaaGreatDoor
