/-
  DERIVED. GIVEN WITH THE SEED: THE CARDS: each row of YtoheplamhocloaaDoorRows.lean that lists a variable, with what it lists TIED to the program's text (the seventh form; the later family's looks); each row that meets fmt, with fmt's text TOLD by the authors' own Lean function (tested against real Go, not proved from fmt's source: count such statements apart). THE CARD IS WHAT COUNTS. Prove the row's statement (the work); the ties are given (YtoheplamhocloaaDoorTie.lean); close each card by the builder's one call (the guide's Derived/Test/ToyasCard.lean, 'card_holds'). Laid BY PROGRAM, IN A SANDBOX (cutbox-door.mjs). By AI agents, Wed Nov 11 2026. No macro, syntax, notation, axiom, sorry.
-/
import Derived.Test.YtoheplamhocloaaDoorRows
import GoSem.ClaimSeven
namespace Go.Proofs.YtoheplamhocloaaDoor
namespace Rows

/-- THE TIED CARD OF 'distafflaw05.ConfNames'. -/
def confNamesCard : Claim7 := { stood := { row := confNamesRow, standIns := [], harness := (true, "a2e0cd520a9b51cd8dd2d4324e8b6036e380ac361aca51f3f0ab8453df707ef3"), looks := true }, kinds := [], alts := [], laidByText := true, laidKinds := [.data, .data, .data], laidTests := true, laidLooks := .later }
def ConfNamesCardSaid : Prop := Claim7.holds Tryd.pinned (.plain (OpenSpec.ofChange confNamesSpec)) confNamesCard

/-- THE TIED CARD OF 'distafflaw05.ConfCells'. -/
def confCellsCard : Claim7 := { stood := { row := confCellsRow, standIns := [], harness := (true, "a2e0cd520a9b51cd8dd2d4324e8b6036e380ac361aca51f3f0ab8453df707ef3"), looks := true }, kinds := [], alts := [], laidByText := true, laidKinds := [.data, .data, .data], laidTests := true, laidLooks := .later }
def ConfCellsCardSaid : Prop := Claim7.holds Tryd.pinned (.plain (OpenSpec.ofChange confCellsSpec)) confCellsCard

/-- THE TIED CARD OF 'distafflaw05.ConfOnce'. -/
def confOnceCard : Claim7 := { stood := { row := confOnceRow, standIns := [], harness := (true, "a2e0cd520a9b51cd8dd2d4324e8b6036e380ac361aca51f3f0ab8453df707ef3"), looks := true }, kinds := [], alts := [], laidByText := true, laidKinds := [.data, .data, .data], laidTests := true, laidLooks := .later }
def ConfOnceCardSaid : Prop := Claim7.holds Tryd.pinned (.plain (OpenSpec.ofChange confOnceSpec)) confOnceCard

/-- THE TIED CARD OF 'distafflaw05.ConfTexts'. -/
def confTextsCard : Claim7 := { stood := { row := confTextsRow, standIns := [], harness := (true, "a2e0cd520a9b51cd8dd2d4324e8b6036e380ac361aca51f3f0ab8453df707ef3"), looks := true }, kinds := [], alts := [], laidByText := true, laidKinds := [.data, .data, .data, .data, .sentinel, .sentinel, .pinned], laidTests := true, laidLooks := .later }
def ConfTextsCardSaid : Prop := Claim7.holds Tryd.pinned (.plain (OpenSpec.ofChange confTextsSpec)) confTextsCard

/-- THE TIED CARD OF 'distafflaw05.ConfKnown'. -/
def confKnownCard : Claim7 := { stood := { row := confKnownRow, standIns := [], harness := (true, "a2e0cd520a9b51cd8dd2d4324e8b6036e380ac361aca51f3f0ab8453df707ef3"), looks := true }, kinds := [], alts := [], laidByText := true, laidKinds := [.data, .data, .data, .data, .sentinel, .sentinel, .pinned], laidTests := true, laidLooks := .later }
def ConfKnownCardSaid : Prop := Claim7.holds Tryd.pinned (.plain (OpenSpec.ofChange confKnownSpec)) confKnownCard

/-- THE SECOND FORM's CARD OF 'distafflaw05.ConfNames'. -/
def confNamesUptoCard : Claim7 := { stood := { row := confNamesUptoRow, standIns := [], harness := (true, "a2e0cd520a9b51cd8dd2d4324e8b6036e380ac361aca51f3f0ab8453df707ef3"), looks := true }, kinds := [], alts := [], laidByText := true, laidKinds := [.data, .data, .data], laidTests := true, laidLooks := .later }
def ConfNamesUptoCardSaid : Prop := Claim7.holds Tryd.pinned (.plain (OpenSpec.upto confNamesSpec)) confNamesUptoCard

/-- THE SECOND FORM's CARD OF 'distafflaw05.ConfCells'. -/
def confCellsUptoCard : Claim7 := { stood := { row := confCellsUptoRow, standIns := [], harness := (true, "a2e0cd520a9b51cd8dd2d4324e8b6036e380ac361aca51f3f0ab8453df707ef3"), looks := true }, kinds := [], alts := [], laidByText := true, laidKinds := [.data, .data, .data], laidTests := true, laidLooks := .later }
def ConfCellsUptoCardSaid : Prop := Claim7.holds Tryd.pinned (.plain (OpenSpec.upto confCellsSpec)) confCellsUptoCard

/-- THE SECOND FORM's CARD OF 'distafflaw05.ConfOnce'. -/
def confOnceUptoCard : Claim7 := { stood := { row := confOnceUptoRow, standIns := [], harness := (true, "a2e0cd520a9b51cd8dd2d4324e8b6036e380ac361aca51f3f0ab8453df707ef3"), looks := true }, kinds := [], alts := [], laidByText := true, laidKinds := [.data, .data, .data], laidTests := true, laidLooks := .later }
def ConfOnceUptoCardSaid : Prop := Claim7.holds Tryd.pinned (.plain (OpenSpec.upto confOnceSpec)) confOnceUptoCard

/-- THE SECOND FORM's CARD OF 'distafflaw05.ConfTexts'. -/
def confTextsUptoCard : Claim7 := { stood := { row := confTextsUptoRow, standIns := [], harness := (true, "a2e0cd520a9b51cd8dd2d4324e8b6036e380ac361aca51f3f0ab8453df707ef3"), looks := true }, kinds := [], alts := [], laidByText := true, laidKinds := [.data, .data, .data, .data, .sentinel, .sentinel, .pinned], laidTests := true, laidLooks := .later }
def ConfTextsUptoCardSaid : Prop := Claim7.holds Tryd.pinned (.plain (OpenSpec.upto confTextsSpec)) confTextsUptoCard

/-- THE SECOND FORM's CARD OF 'distafflaw05.ConfKnown'. -/
def confKnownUptoCard : Claim7 := { stood := { row := confKnownUptoRow, standIns := [], harness := (true, "a2e0cd520a9b51cd8dd2d4324e8b6036e380ac361aca51f3f0ab8453df707ef3"), looks := true }, kinds := [], alts := [], laidByText := true, laidKinds := [.data, .data, .data, .data, .sentinel, .sentinel, .pinned], laidTests := true, laidLooks := .later }
def ConfKnownUptoCardSaid : Prop := Claim7.holds Tryd.pinned (.plain (OpenSpec.upto confKnownSpec)) confKnownUptoCard
end Rows
end Go.Proofs.YtoheplamhocloaaDoor
