/-
  DERIVED. GIVEN WITH THE SEED: THE CARDS: each row of YtdmfojjpanndoaaDoorRows.lean that lists a variable, with what it lists TIED to the program's text (the seventh form; the later family's looks); each row that meets fmt, with fmt's text TOLD by the authors' own Lean function (tested against real Go, not proved from fmt's source: count such statements apart). THE CARD IS WHAT COUNTS. Prove the row's statement (the work); the ties are given (YtdmfojjpanndoaaDoorTie.lean); close each card by the builder's one call (the guide's Derived/Test/ToyasCard.lean, 'card_holds'). Laid BY PROGRAM, IN A SANDBOX (cutbox-door.mjs). By AI agents, Wed Nov 11 2026. No macro, syntax, notation, axiom, sorry.
-/
import Derived.Test.YtdmfojjpanndoaaDoorRows
import GoSem.ClaimSeven
namespace Go.Proofs.YtdmfojjpanndoaaDoor
namespace Rows

/-- THE TIED CARD OF 'distafflaw02.WordDoes'. -/
def wordDoesCard : Claim7 := { stood := { row := wordDoesRow, standIns := [], harness := (true, "3f729ce5ff7ba0647785f9db18d2414c68d2f89e5683195eeb164dd6aafd2dc0"), looks := false }, kinds := [], alts := [], laidByText := true, laidKinds := [.data, .data, .data], laidTests := true, laidLooks := .later }
def WordDoesCardSaid : Prop := Claim7.holds Tryd.pinned (.plain (OpenSpec.ofChange wordDoesSpec)) wordDoesCard

/-- THE TIED CARD OF 'distafflaw02.WordBack'. -/
def wordBackCard : Claim7 := { stood := { row := wordBackRow, standIns := [], harness := (true, "3f729ce5ff7ba0647785f9db18d2414c68d2f89e5683195eeb164dd6aafd2dc0"), looks := false }, kinds := [], alts := [], laidByText := true, laidKinds := [.data, .data, .data], laidTests := true, laidLooks := .later }
def WordBackCardSaid : Prop := Claim7.holds Tryd.pinned (.plain (OpenSpec.ofChange wordBackSpec)) wordBackCard

/-- THE TIED CARD OF 'distafflaw02.WordParts'. -/
def wordPartsCard : Claim7 := { stood := { row := wordPartsRow, standIns := [], harness := (true, "3f729ce5ff7ba0647785f9db18d2414c68d2f89e5683195eeb164dd6aafd2dc0"), looks := false }, kinds := [], alts := [], laidByText := true, laidKinds := [.data, .data, .data], laidTests := true, laidLooks := .later }
def WordPartsCardSaid : Prop := Claim7.holds Tryd.pinned (.plain (OpenSpec.ofChange wordPartsSpec)) wordPartsCard

/-- THE TIED CARD OF 'distafflaw02.WordKnown'. -/
def wordKnownCard : Claim7 := { stood := { row := wordKnownRow, standIns := [], harness := (true, "3f729ce5ff7ba0647785f9db18d2414c68d2f89e5683195eeb164dd6aafd2dc0"), looks := false }, kinds := [], alts := [], laidByText := true, laidKinds := [.data, .data, .data], laidTests := true, laidLooks := .later }
def WordKnownCardSaid : Prop := Claim7.holds Tryd.pinned (.plain (OpenSpec.ofChange wordKnownSpec)) wordKnownCard

/-- THE SECOND FORM's CARD OF 'distafflaw02.WordDoes'. -/
def wordDoesUptoCard : Claim7 := { stood := { row := wordDoesUptoRow, standIns := [], harness := (true, "3f729ce5ff7ba0647785f9db18d2414c68d2f89e5683195eeb164dd6aafd2dc0"), looks := false }, kinds := [], alts := [], laidByText := true, laidKinds := [.data, .data, .data], laidTests := true, laidLooks := .later }
def WordDoesUptoCardSaid : Prop := Claim7.holds Tryd.pinned (.plain (OpenSpec.upto wordDoesSpec)) wordDoesUptoCard

/-- THE SECOND FORM's CARD OF 'distafflaw02.WordBack'. -/
def wordBackUptoCard : Claim7 := { stood := { row := wordBackUptoRow, standIns := [], harness := (true, "3f729ce5ff7ba0647785f9db18d2414c68d2f89e5683195eeb164dd6aafd2dc0"), looks := false }, kinds := [], alts := [], laidByText := true, laidKinds := [.data, .data, .data], laidTests := true, laidLooks := .later }
def WordBackUptoCardSaid : Prop := Claim7.holds Tryd.pinned (.plain (OpenSpec.upto wordBackSpec)) wordBackUptoCard

/-- THE SECOND FORM's CARD OF 'distafflaw02.WordParts'. -/
def wordPartsUptoCard : Claim7 := { stood := { row := wordPartsUptoRow, standIns := [], harness := (true, "3f729ce5ff7ba0647785f9db18d2414c68d2f89e5683195eeb164dd6aafd2dc0"), looks := false }, kinds := [], alts := [], laidByText := true, laidKinds := [.data, .data, .data], laidTests := true, laidLooks := .later }
def WordPartsUptoCardSaid : Prop := Claim7.holds Tryd.pinned (.plain (OpenSpec.upto wordPartsSpec)) wordPartsUptoCard

/-- THE SECOND FORM's CARD OF 'distafflaw02.WordKnown'. -/
def wordKnownUptoCard : Claim7 := { stood := { row := wordKnownUptoRow, standIns := [], harness := (true, "3f729ce5ff7ba0647785f9db18d2414c68d2f89e5683195eeb164dd6aafd2dc0"), looks := false }, kinds := [], alts := [], laidByText := true, laidKinds := [.data, .data, .data], laidTests := true, laidLooks := .later }
def WordKnownUptoCardSaid : Prop := Claim7.holds Tryd.pinned (.plain (OpenSpec.upto wordKnownSpec)) wordKnownUptoCard
end Rows
end Go.Proofs.YtdmfojjpanndoaaDoor
