/-
  DERIVED. GIVEN WITH THE SEED: THE CARDS: each row of YtipbcccjhaommaaDoorRows.lean that lists a variable, with what it lists TIED to the program's text (the seventh form; the later family's looks); each row that meets fmt, with fmt's text TOLD by the authors' own Lean function (tested against real Go, not proved from fmt's source: count such statements apart). THE CARD IS WHAT COUNTS. Prove the row's statement (the work); the ties are given (YtipbcccjhaommaaDoorTie.lean); close each card by the builder's one call (the guide's Derived/Test/ToyasCard.lean, 'card_holds'). Laid BY PROGRAM, IN A SANDBOX (cutbox-door.mjs). By AI agents, Wed Nov 11 2026. No macro, syntax, notation, axiom, sorry.
-/
import Derived.Test.YtipbcccjhaommaaDoorRows
import GoSem.ClaimSeven
namespace Go.Proofs.YtipbcccjhaommaaDoor
namespace Rows

/-- THE TIED CARD OF 'distafflaw04.ClockOrders'. -/
def clockOrdersCard : Claim7 := { stood := { row := clockOrdersRow, standIns := [], harness := (true, "7fd8575009f13b5a37f5e9a50f53c585453a26e86e4e85629e03ca13659639ed"), looks := false }, kinds := [], alts := [], laidByText := true, laidKinds := [.data, .data, .data], laidTests := true, laidLooks := .later }
def ClockOrdersCardSaid : Prop := Claim7.holds Tryd.pinned (.plain (OpenSpec.ofChange clockOrdersSpec)) clockOrdersCard

/-- THE TIED CARD OF 'distafflaw04.ClockPlays'. -/
def clockPlaysCard : Claim7 := { stood := { row := clockPlaysRow, standIns := [], harness := (true, "7fd8575009f13b5a37f5e9a50f53c585453a26e86e4e85629e03ca13659639ed"), looks := false }, kinds := [], alts := [], laidByText := true, laidKinds := [.data, .data, .data], laidTests := true, laidLooks := .later }
def ClockPlaysCardSaid : Prop := Claim7.holds Tryd.pinned (.plain (OpenSpec.ofChange clockPlaysSpec)) clockPlaysCard

/-- THE TIED CARD OF 'distafflaw04.ClockNone'. -/
def clockNoneCard : Claim7 := { stood := { row := clockNoneRow, standIns := [], harness := (true, "7fd8575009f13b5a37f5e9a50f53c585453a26e86e4e85629e03ca13659639ed"), looks := false }, kinds := [], alts := [], laidByText := true, laidKinds := [.data, .data, .data], laidTests := true, laidLooks := .later }
def ClockNoneCardSaid : Prop := Claim7.holds Tryd.pinned (.plain (OpenSpec.ofChange clockNoneSpec)) clockNoneCard

/-- THE TIED CARD OF 'distafflaw04.ClockKnown'. -/
def clockKnownCard : Claim7 := { stood := { row := clockKnownRow, standIns := [], harness := (true, "7fd8575009f13b5a37f5e9a50f53c585453a26e86e4e85629e03ca13659639ed"), looks := false }, kinds := [], alts := [], laidByText := true, laidKinds := [.data, .data, .data], laidTests := true, laidLooks := .later }
def ClockKnownCardSaid : Prop := Claim7.holds Tryd.pinned (.plain (OpenSpec.ofChange clockKnownSpec)) clockKnownCard

/-- THE SECOND FORM's CARD OF 'distafflaw04.ClockOrders'. -/
def clockOrdersUptoCard : Claim7 := { stood := { row := clockOrdersUptoRow, standIns := [], harness := (true, "7fd8575009f13b5a37f5e9a50f53c585453a26e86e4e85629e03ca13659639ed"), looks := false }, kinds := [], alts := [], laidByText := true, laidKinds := [.data, .data, .data], laidTests := true, laidLooks := .later }
def ClockOrdersUptoCardSaid : Prop := Claim7.holds Tryd.pinned (.plain (OpenSpec.upto clockOrdersSpec)) clockOrdersUptoCard

/-- THE SECOND FORM's CARD OF 'distafflaw04.ClockPlays'. -/
def clockPlaysUptoCard : Claim7 := { stood := { row := clockPlaysUptoRow, standIns := [], harness := (true, "7fd8575009f13b5a37f5e9a50f53c585453a26e86e4e85629e03ca13659639ed"), looks := false }, kinds := [], alts := [], laidByText := true, laidKinds := [.data, .data, .data], laidTests := true, laidLooks := .later }
def ClockPlaysUptoCardSaid : Prop := Claim7.holds Tryd.pinned (.plain (OpenSpec.upto clockPlaysSpec)) clockPlaysUptoCard

/-- THE SECOND FORM's CARD OF 'distafflaw04.ClockNone'. -/
def clockNoneUptoCard : Claim7 := { stood := { row := clockNoneUptoRow, standIns := [], harness := (true, "7fd8575009f13b5a37f5e9a50f53c585453a26e86e4e85629e03ca13659639ed"), looks := false }, kinds := [], alts := [], laidByText := true, laidKinds := [.data, .data, .data], laidTests := true, laidLooks := .later }
def ClockNoneUptoCardSaid : Prop := Claim7.holds Tryd.pinned (.plain (OpenSpec.upto clockNoneSpec)) clockNoneUptoCard

/-- THE SECOND FORM's CARD OF 'distafflaw04.ClockKnown'. -/
def clockKnownUptoCard : Claim7 := { stood := { row := clockKnownUptoRow, standIns := [], harness := (true, "7fd8575009f13b5a37f5e9a50f53c585453a26e86e4e85629e03ca13659639ed"), looks := false }, kinds := [], alts := [], laidByText := true, laidKinds := [.data, .data, .data], laidTests := true, laidLooks := .later }
def ClockKnownUptoCardSaid : Prop := Claim7.holds Tryd.pinned (.plain (OpenSpec.upto clockKnownSpec)) clockKnownUptoCard
end Rows
end Go.Proofs.YtipbcccjhaommaaDoor
