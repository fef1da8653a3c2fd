/-
  No cell of these rows narrows 'for every input' (looked for: loops, veiled, ifaces, maps, wideKeys, modest, calm, conditions, laid).
  DERIVED. THE GIVEN ROWS OF THIS SEAT. 4 by the template 'for every input the law returns true; each argument reads behind the call as it read before'; 0 by the template 'total and deterministic' (their statements: YtgdeemneijpeeaaTotals.lean).
  GIVEN WITH THE SEED: the statements are not yours to turn. If you find one false, say at which input.
  Laid BY PROGRAM, IN A SANDBOX (cutbox-rows.mjs): the forced cells as the released guide's own fill.sh prints them over the translation 1bae168b84124306… (all of the seat's roots in one cut). By AI agents, Wed Nov 11 2026. No macro, syntax, notation, axiom, sorry.
-/
import Derived.Test.YtgdeemneijpeeaaChecked
import GoSem.Claim
import GoSem.ClaimJoined
import GoSem.ClaimMapViews
import Derived.JoinedTies
import Derived.KernelRfl
namespace Go.Proofs.Ytgdeemneijpeeaa
/- THE CELL 'sum', in the pinned program and in every row, IS THE sha256 OF THE DUMP (.gsa) THAT YtgdeemneijpeeaaProg.lean LOADS. Nothing in Lean hashes anything: it is a label: what it is worth is what the hold of that sum in a sandbox is worth. -/
noncomputable def Try.pinned : Pinned := { name := "ytgdeemneijpeeaa", sum := "1bae168b84124306577524845ff3537f0a7ea5ee8a25560302bea3bb423239e7", checked := Try.checked }
namespace Rows
def none {H : Type} : Left H := { results := [], args := [] }

/-- 'distafflaw16.SemaGains': WHATEVER THE INPUT: true; the input reads as it did. -/
def semaGainsSpec : ChangeSpec := { name := "semaGains", fn := fun _ => fun
  | [d1, d2, d3] => { results := [.lit (.bool true)], args := [d1, d2, d3] }
  | _ => none }
def semaGainsRow : OpenClaim := { program := "ytgdeemneijpeeaa", sum := "1bae168b84124306577524845ff3537f0a7ea5ee8a25560302bea3bb423239e7", func := "distaff/distafflaw16.SemaGains", spec := "semaGains", unfollowed := true, recurses := true, apart := false }
def SemaGainsSaid : Prop := semaGainsRow.holds Try.pinned (OpenSpec.ofChange semaGainsSpec)

/-- ITS FALSE NEIGHBOUR: 'it returns false'. Refute it at one input. -/
def semaGainsWrong : ChangeSpec := { name := "semaGains", fn := fun _ => fun
  | [d1, d2, d3] => { results := [.lit (.bool false)], args := [d1, d2, d3] }
  | _ => none }
def SemaGainsWrongFalsely : Prop := semaGainsRow.holds Try.pinned (OpenSpec.ofChange semaGainsWrong)

/-- 'distafflaw16.SemaPlays': WHATEVER THE INPUT: true; the input reads as it did. -/
def semaPlaysSpec : ChangeSpec := { name := "semaPlays", fn := fun _ => fun
  | [d1, d2, d3, d4] => { results := [.lit (.bool true)], args := [d1, d2, d3, d4] }
  | _ => none }
def semaPlaysRow : OpenClaim := { program := "ytgdeemneijpeeaa", sum := "1bae168b84124306577524845ff3537f0a7ea5ee8a25560302bea3bb423239e7", func := "distaff/distafflaw16.SemaPlays", spec := "semaPlays", unfollowed := true, recurses := true, apart := false }
def SemaPlaysSaid : Prop := semaPlaysRow.holds Try.pinned (OpenSpec.ofChange semaPlaysSpec)

/-- ITS FALSE NEIGHBOUR: 'it returns false'. Refute it at one input. -/
def semaPlaysWrong : ChangeSpec := { name := "semaPlays", fn := fun _ => fun
  | [d1, d2, d3, d4] => { results := [.lit (.bool false)], args := [d1, d2, d3, d4] }
  | _ => none }
def SemaPlaysWrongFalsely : Prop := semaPlaysRow.holds Try.pinned (OpenSpec.ofChange semaPlaysWrong)

/-- 'distafflaw16.SemaNone': WHATEVER THE INPUT: true; the input reads as it did. -/
def semaNoneSpec : ChangeSpec := { name := "semaNone", fn := fun _ => fun
  | [d1, d2] => { results := [.lit (.bool true)], args := [d1, d2] }
  | _ => none }
def semaNoneRow : OpenClaim := { program := "ytgdeemneijpeeaa", sum := "1bae168b84124306577524845ff3537f0a7ea5ee8a25560302bea3bb423239e7", func := "distaff/distafflaw16.SemaNone", spec := "semaNone", unfollowed := true, recurses := true, apart := false }
def SemaNoneSaid : Prop := semaNoneRow.holds Try.pinned (OpenSpec.ofChange semaNoneSpec)

/-- ITS FALSE NEIGHBOUR: 'it returns false'. Refute it at one input. -/
def semaNoneWrong : ChangeSpec := { name := "semaNone", fn := fun _ => fun
  | [d1, d2] => { results := [.lit (.bool false)], args := [d1, d2] }
  | _ => none }
def SemaNoneWrongFalsely : Prop := semaNoneRow.holds Try.pinned (OpenSpec.ofChange semaNoneWrong)

/-- 'distafflaw16.SemaKnown': WHATEVER THE INPUT: true; the input reads as it did. -/
def semaKnownSpec : ChangeSpec := { name := "semaKnown", fn := fun _ => fun
  | [] => { results := [.lit (.bool true)], args := [] }
  | _ => none }
def semaKnownRow : OpenClaim := { program := "ytgdeemneijpeeaa", sum := "1bae168b84124306577524845ff3537f0a7ea5ee8a25560302bea3bb423239e7", func := "distaff/distafflaw16.SemaKnown", spec := "semaKnown", unfollowed := true, recurses := true, apart := false }
def SemaKnownSaid : Prop := semaKnownRow.holds Try.pinned (OpenSpec.ofChange semaKnownSpec)

/-- ITS FALSE NEIGHBOUR: 'it returns false'. Refute it at one input. -/
def semaKnownWrong : ChangeSpec := { name := "semaKnown", fn := fun _ => fun
  | [] => { results := [.lit (.bool false)], args := [] }
  | _ => none }
def SemaKnownWrongFalsely : Prop := semaKnownRow.holds Try.pinned (OpenSpec.ofChange semaKnownWrong)

/- THE SECOND FORM. 'bulk': how many values and letters a reading holds, each counted each time it is reached (what is shared counts as often as it is met; a slice's spare places count too). A statement '..UptoSaid' is the law's where the arguments, and the package variables that the reading takes, are together of bulk at most 1048576: NARROWER than '..Said'. Prove '..Said' where nothing that the law and all that it calls make is longer than what came in: it says more and counts as full. Else prove '..UptoSaid'. A law counts once. -/
mutual
def uptoBulk {H : Type} : DataW H → Nat
  | .lit (.string bytes) => bytes.length + 1
  | .lit _ => 1
  | .nil => 1
  | .ptr d => uptoBulk d + 1
  | .slice elems spare => uptoBulkAll elems + uptoBulkAll spare + 1
  | .agg parts => uptoBulkAll parts + 1
  | .iface _ d => uptoBulk d + 1
  | .map entries => uptoBulkEntries entries + 1
  | .held _ => 1
def uptoBulkAll {H : Type} : List (DataW H) → Nat
  | [] => 0
  | d :: r => uptoBulk d + uptoBulkAll r
def uptoBulkEntries {H : Type} : List (Lit × DataW H) → Nat
  | [] => 0
  | x :: r => uptoBulkEntry x + uptoBulkEntries r
def uptoBulkEntry {H : Type} : Lit × DataW H → Nat
  | (.string bytes, d) => bytes.length + uptoBulk d + 1
  | (_, d) => uptoBulk d + 1
 end
def uptoSmall : (H : Type) → List (DataW H) → Bool := fun _ ds => decide (uptoBulkAll ds ≤ 1048576)
def OpenSpec.upto (s : _root_.Go.ChangeSpec) : _root_.Go.OpenSpec := { _root_.Go.OpenSpec.ofChange s with cond := some uptoSmall }

/-- 'distafflaw16.SemaGains', WHERE WHAT IT READS IS OF BULK AT MOST 1048576: true; the input reads as it did. -/
def semaGainsUptoRow : OpenClaim := { program := "ytgdeemneijpeeaa", sum := "1bae168b84124306577524845ff3537f0a7ea5ee8a25560302bea3bb423239e7", func := "distaff/distafflaw16.SemaGains", spec := "semaGains", unfollowed := true, recurses := true, apart := false, narrowed := true }
def SemaGainsUptoSaid : Prop := semaGainsUptoRow.holds Try.pinned (OpenSpec.upto semaGainsSpec)

/-- 'distafflaw16.SemaPlays', WHERE WHAT IT READS IS OF BULK AT MOST 1048576: true; the input reads as it did. -/
def semaPlaysUptoRow : OpenClaim := { program := "ytgdeemneijpeeaa", sum := "1bae168b84124306577524845ff3537f0a7ea5ee8a25560302bea3bb423239e7", func := "distaff/distafflaw16.SemaPlays", spec := "semaPlays", unfollowed := true, recurses := true, apart := false, narrowed := true }
def SemaPlaysUptoSaid : Prop := semaPlaysUptoRow.holds Try.pinned (OpenSpec.upto semaPlaysSpec)

/-- 'distafflaw16.SemaNone', WHERE WHAT IT READS IS OF BULK AT MOST 1048576: true; the input reads as it did. -/
def semaNoneUptoRow : OpenClaim := { program := "ytgdeemneijpeeaa", sum := "1bae168b84124306577524845ff3537f0a7ea5ee8a25560302bea3bb423239e7", func := "distaff/distafflaw16.SemaNone", spec := "semaNone", unfollowed := true, recurses := true, apart := false, narrowed := true }
def SemaNoneUptoSaid : Prop := semaNoneUptoRow.holds Try.pinned (OpenSpec.upto semaNoneSpec)

/-- 'distafflaw16.SemaKnown', WHERE WHAT IT READS IS OF BULK AT MOST 1048576: true; the input reads as it did. -/
def semaKnownUptoRow : OpenClaim := { program := "ytgdeemneijpeeaa", sum := "1bae168b84124306577524845ff3537f0a7ea5ee8a25560302bea3bb423239e7", func := "distaff/distafflaw16.SemaKnown", spec := "semaKnown", unfollowed := true, recurses := true, apart := false, narrowed := true }
def SemaKnownUptoSaid : Prop := semaKnownUptoRow.holds Try.pinned (OpenSpec.upto semaKnownSpec)

end Rows
end Go.Proofs.Ytgdeemneijpeeaa
