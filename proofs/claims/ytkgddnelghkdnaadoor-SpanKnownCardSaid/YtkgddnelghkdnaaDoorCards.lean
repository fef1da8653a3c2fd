/-
  DERIVED. GIVEN WITH THE SEED: THE CARDS: each row of YtkgddnelghkdnaaDoorRows.lean that lists a variable, with what it lists TIED to the program's text (the seventh form; the later family's looks); each row that meets fmt, with fmt's text TOLD by the authors' own Lean function (tested against real Go, not proved from fmt's source: count such statements apart). THE CARD IS WHAT COUNTS. Prove the row's statement (the work); the ties are given (YtkgddnelghkdnaaDoorTie.lean); close each card by the builder's one call (the guide's Derived/Test/ToyasCard.lean, 'card_holds'). Laid BY PROGRAM, IN A SANDBOX (cutbox-door.mjs). By AI agents, Wed Nov 11 2026. No macro, syntax, notation, axiom, sorry.
-/
import Derived.Test.YtkgddnelghkdnaaDoorRows
import GoSem.ClaimSeven
namespace Go.Proofs.YtkgddnelghkdnaaDoor
namespace Rows

/-- THE TIED CARD OF 'distafflaw01.SpanNanos'. -/
def spanNanosCard : Claim7 := { stood := { row := spanNanosRow, standIns := [], harness := (true, "6259db9166d7e65ed7572c11637a221101f9529bb18fb9db708559464d932acc"), looks := true }, kinds := [], alts := [], laidByText := true, laidKinds := [.data, .data, .data, .sentinel, .sentinel], laidTests := true, laidLooks := .later }
def SpanNanosCardSaid : Prop := Claim7.holds Tryd.pinned (.plain (OpenSpec.ofChange spanNanosSpec)) spanNanosCard

/-- THE TIED CARD OF 'distafflaw01.SpanTexts'. -/
def spanTextsCard : Claim7 := { stood := { row := spanTextsRow, standIns := [], harness := (true, "6259db9166d7e65ed7572c11637a221101f9529bb18fb9db708559464d932acc"), looks := true }, kinds := [], alts := [], laidByText := true, laidKinds := [.data, .data, .data, .sentinel, .sentinel], laidTests := true, laidLooks := .later }
def SpanTextsCardSaid : Prop := Claim7.holds Tryd.pinned (.plain (OpenSpec.ofChange spanTextsSpec)) spanTextsCard

/-- THE TIED CARD OF 'distafflaw01.SpanSums'. -/
def spanSumsCard : Claim7 := { stood := { row := spanSumsRow, standIns := [], harness := (true, "6259db9166d7e65ed7572c11637a221101f9529bb18fb9db708559464d932acc"), looks := true }, kinds := [], alts := [], laidByText := true, laidKinds := [.data, .data, .data, .sentinel, .sentinel], laidTests := true, laidLooks := .later }
def SpanSumsCardSaid : Prop := Claim7.holds Tryd.pinned (.plain (OpenSpec.ofChange spanSumsSpec)) spanSumsCard

/-- THE TIED CARD OF 'distafflaw01.SpanRises'. -/
def spanRisesCard : Claim7 := { stood := { row := spanRisesRow, standIns := [], harness := (true, "6259db9166d7e65ed7572c11637a221101f9529bb18fb9db708559464d932acc"), looks := true }, kinds := [], alts := [], laidByText := true, laidKinds := [.data, .data, .data, .sentinel, .sentinel], laidTests := true, laidLooks := .later }
def SpanRisesCardSaid : Prop := Claim7.holds Tryd.pinned (.plain (OpenSpec.ofChange spanRisesSpec)) spanRisesCard

/-- THE TIED CARD OF 'distafflaw01.SpanKnown'. -/
def spanKnownCard : Claim7 := { stood := { row := spanKnownRow, standIns := [], harness := (true, "6259db9166d7e65ed7572c11637a221101f9529bb18fb9db708559464d932acc"), looks := true }, kinds := [], alts := [], laidByText := true, laidKinds := [.data, .data, .data, .sentinel, .sentinel], laidTests := true, laidLooks := .later }
def SpanKnownCardSaid : Prop := Claim7.holds Tryd.pinned (.plain (OpenSpec.ofChange spanKnownSpec)) spanKnownCard

/-- THE SECOND FORM's CARD OF 'distafflaw01.SpanNanos'. -/
def spanNanosUptoCard : Claim7 := { stood := { row := spanNanosUptoRow, standIns := [], harness := (true, "6259db9166d7e65ed7572c11637a221101f9529bb18fb9db708559464d932acc"), looks := true }, kinds := [], alts := [], laidByText := true, laidKinds := [.data, .data, .data, .sentinel, .sentinel], laidTests := true, laidLooks := .later }
def SpanNanosUptoCardSaid : Prop := Claim7.holds Tryd.pinned (.plain (OpenSpec.upto spanNanosSpec)) spanNanosUptoCard

/-- THE SECOND FORM's CARD OF 'distafflaw01.SpanTexts'. -/
def spanTextsUptoCard : Claim7 := { stood := { row := spanTextsUptoRow, standIns := [], harness := (true, "6259db9166d7e65ed7572c11637a221101f9529bb18fb9db708559464d932acc"), looks := true }, kinds := [], alts := [], laidByText := true, laidKinds := [.data, .data, .data, .sentinel, .sentinel], laidTests := true, laidLooks := .later }
def SpanTextsUptoCardSaid : Prop := Claim7.holds Tryd.pinned (.plain (OpenSpec.upto spanTextsSpec)) spanTextsUptoCard

/-- THE SECOND FORM's CARD OF 'distafflaw01.SpanSums'. -/
def spanSumsUptoCard : Claim7 := { stood := { row := spanSumsUptoRow, standIns := [], harness := (true, "6259db9166d7e65ed7572c11637a221101f9529bb18fb9db708559464d932acc"), looks := true }, kinds := [], alts := [], laidByText := true, laidKinds := [.data, .data, .data, .sentinel, .sentinel], laidTests := true, laidLooks := .later }
def SpanSumsUptoCardSaid : Prop := Claim7.holds Tryd.pinned (.plain (OpenSpec.upto spanSumsSpec)) spanSumsUptoCard

/-- THE SECOND FORM's CARD OF 'distafflaw01.SpanRises'. -/
def spanRisesUptoCard : Claim7 := { stood := { row := spanRisesUptoRow, standIns := [], harness := (true, "6259db9166d7e65ed7572c11637a221101f9529bb18fb9db708559464d932acc"), looks := true }, kinds := [], alts := [], laidByText := true, laidKinds := [.data, .data, .data, .sentinel, .sentinel], laidTests := true, laidLooks := .later }
def SpanRisesUptoCardSaid : Prop := Claim7.holds Tryd.pinned (.plain (OpenSpec.upto spanRisesSpec)) spanRisesUptoCard

/-- THE SECOND FORM's CARD OF 'distafflaw01.SpanKnown'. -/
def spanKnownUptoCard : Claim7 := { stood := { row := spanKnownUptoRow, standIns := [], harness := (true, "6259db9166d7e65ed7572c11637a221101f9529bb18fb9db708559464d932acc"), looks := true }, kinds := [], alts := [], laidByText := true, laidKinds := [.data, .data, .data, .sentinel, .sentinel], laidTests := true, laidLooks := .later }
def SpanKnownUptoCardSaid : Prop := Claim7.holds Tryd.pinned (.plain (OpenSpec.upto spanKnownSpec)) spanKnownUptoCard
end Rows
end Go.Proofs.YtkgddnelghkdnaaDoor
