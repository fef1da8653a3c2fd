/-
  No cell of these rows narrows 'for every input' (looked for: loops, veiled, ifaces, maps, wideKeys, modest, calm, conditions, laid).
  DERIVED. THE GIVEN ROWS OF THIS SEAT. 4 by the template 'for every input the law returns true; each argument reads behind the call as it read before'; 0 by the template 'total and deterministic' (their statements: YtcnpcmdcbafaeaaTotals.lean).
  GIVEN WITH THE SEED: the statements are not yours to turn. If you find one false, say at which input.
  Laid BY PROGRAM, IN A SANDBOX (cutbox-rows.mjs): the forced cells as the released guide's own fill.sh prints them over the translation 2ed09739bb8d2d2e… (all of the seat's roots in one cut). By AI agents, Wed Nov 11 2026. No macro, syntax, notation, axiom, sorry.
-/
import Derived.Test.YtcnpcmdcbafaeaaChecked
import GoSem.Claim
import GoSem.ClaimJoined
import GoSem.ClaimMapViews
import Derived.JoinedTies
import Derived.KernelRfl
namespace Go.Proofs.Ytcnpcmdcbafaeaa
/- THE CELL 'sum', in the pinned program and in every row, IS THE sha256 OF THE DUMP (.gsa) THAT YtcnpcmdcbafaeaaProg.lean LOADS. Nothing in Lean hashes anything: it is a label: what it is worth is what the hold of that sum in a sandbox is worth. -/
noncomputable def Try.pinned : Pinned := { name := "ytcnpcmdcbafaeaa", sum := "2ed09739bb8d2d2eddb2e2035365404bb3ff598f26e83b014927d4d9f71ec7d1", checked := Try.checked }
namespace Rows
def none {H : Type} : Left H := { results := [], args := [] }

/-- 'distafflaw08.DequeNobody': WHATEVER THE INPUT: true; the input reads as it did. -/
def dequeNobodySpec : ChangeSpec := { name := "dequeNobody", fn := fun _ => fun
  | [d1, d2] => { results := [.lit (.bool true)], args := [d1, d2] }
  | _ => none }
def dequeNobodyRow : OpenClaim := { program := "ytcnpcmdcbafaeaa", sum := "2ed09739bb8d2d2eddb2e2035365404bb3ff598f26e83b014927d4d9f71ec7d1", func := "distaff/distafflaw08.DequeNobody", spec := "dequeNobody", unfollowed := true, recurses := true, apart := false }
def DequeNobodySaid : Prop := dequeNobodyRow.holds Try.pinned (OpenSpec.ofChange dequeNobodySpec)

/-- ITS FALSE NEIGHBOUR: 'it returns false'. Refute it at one input. -/
def dequeNobodyWrong : ChangeSpec := { name := "dequeNobody", fn := fun _ => fun
  | [d1, d2] => { results := [.lit (.bool false)], args := [d1, d2] }
  | _ => none }
def DequeNobodyWrongFalsely : Prop := dequeNobodyRow.holds Try.pinned (OpenSpec.ofChange dequeNobodyWrong)

/-- 'distafflaw08.DequeAhead': WHATEVER THE INPUT: true; the input reads as it did. -/
def dequeAheadSpec : ChangeSpec := { name := "dequeAhead", fn := fun _ => fun
  | [d1, d2] => { results := [.lit (.bool true)], args := [d1, d2] }
  | _ => none }
def dequeAheadRow : OpenClaim := { program := "ytcnpcmdcbafaeaa", sum := "2ed09739bb8d2d2eddb2e2035365404bb3ff598f26e83b014927d4d9f71ec7d1", func := "distaff/distafflaw08.DequeAhead", spec := "dequeAhead", unfollowed := true, recurses := true, apart := false }
def DequeAheadSaid : Prop := dequeAheadRow.holds Try.pinned (OpenSpec.ofChange dequeAheadSpec)

/-- ITS FALSE NEIGHBOUR: 'it returns false'. Refute it at one input. -/
def dequeAheadWrong : ChangeSpec := { name := "dequeAhead", fn := fun _ => fun
  | [d1, d2] => { results := [.lit (.bool false)], args := [d1, d2] }
  | _ => none }
def DequeAheadWrongFalsely : Prop := dequeAheadRow.holds Try.pinned (OpenSpec.ofChange dequeAheadWrong)

/-- 'distafflaw08.DequePlays': WHATEVER THE INPUT: true; the input reads as it did. -/
def dequePlaysSpec : ChangeSpec := { name := "dequePlays", fn := fun _ => fun
  | [d1, d2, d3, d4, d5] => { results := [.lit (.bool true)], args := [d1, d2, d3, d4, d5] }
  | _ => none }
def dequePlaysRow : OpenClaim := { program := "ytcnpcmdcbafaeaa", sum := "2ed09739bb8d2d2eddb2e2035365404bb3ff598f26e83b014927d4d9f71ec7d1", func := "distaff/distafflaw08.DequePlays", spec := "dequePlays", unfollowed := true, recurses := true, apart := false }
def DequePlaysSaid : Prop := dequePlaysRow.holds Try.pinned (OpenSpec.ofChange dequePlaysSpec)

/-- ITS FALSE NEIGHBOUR: 'it returns false'. Refute it at one input. -/
def dequePlaysWrong : ChangeSpec := { name := "dequePlays", fn := fun _ => fun
  | [d1, d2, d3, d4, d5] => { results := [.lit (.bool false)], args := [d1, d2, d3, d4, d5] }
  | _ => none }
def DequePlaysWrongFalsely : Prop := dequePlaysRow.holds Try.pinned (OpenSpec.ofChange dequePlaysWrong)

/-- 'distafflaw08.DequeKnown': WHATEVER THE INPUT: true; the input reads as it did. -/
def dequeKnownSpec : ChangeSpec := { name := "dequeKnown", fn := fun _ => fun
  | [] => { results := [.lit (.bool true)], args := [] }
  | _ => none }
def dequeKnownRow : OpenClaim := { program := "ytcnpcmdcbafaeaa", sum := "2ed09739bb8d2d2eddb2e2035365404bb3ff598f26e83b014927d4d9f71ec7d1", func := "distaff/distafflaw08.DequeKnown", spec := "dequeKnown", unfollowed := true, recurses := true, apart := false }
def DequeKnownSaid : Prop := dequeKnownRow.holds Try.pinned (OpenSpec.ofChange dequeKnownSpec)

/-- ITS FALSE NEIGHBOUR: 'it returns false'. Refute it at one input. -/
def dequeKnownWrong : ChangeSpec := { name := "dequeKnown", fn := fun _ => fun
  | [] => { results := [.lit (.bool false)], args := [] }
  | _ => none }
def DequeKnownWrongFalsely : Prop := dequeKnownRow.holds Try.pinned (OpenSpec.ofChange dequeKnownWrong)

/- THE SECOND FORM. 'bulk': how many values and letters a reading holds, each counted each time it is reached (what is shared counts as often as it is met; a slice's spare places count too). A statement '..UptoSaid' is the law's where the arguments, and the package variables that the reading takes, are together of bulk at most 1048576: NARROWER than '..Said'. Prove '..Said' where nothing that the law and all that it calls make is longer than what came in: it says more and counts as full. Else prove '..UptoSaid'. A law counts once. -/
mutual
def uptoBulk {H : Type} : DataW H → Nat
  | .lit (.string bytes) => bytes.length + 1
  | .lit _ => 1
  | .nil => 1
  | .ptr d => uptoBulk d + 1
  | .slice elems spare => uptoBulkAll elems + uptoBulkAll spare + 1
  | .agg parts => uptoBulkAll parts + 1
  | .iface _ d => uptoBulk d + 1
  | .map entries => uptoBulkEntries entries + 1
  | .held _ => 1
def uptoBulkAll {H : Type} : List (DataW H) → Nat
  | [] => 0
  | d :: r => uptoBulk d + uptoBulkAll r
def uptoBulkEntries {H : Type} : List (Lit × DataW H) → Nat
  | [] => 0
  | x :: r => uptoBulkEntry x + uptoBulkEntries r
def uptoBulkEntry {H : Type} : Lit × DataW H → Nat
  | (.string bytes, d) => bytes.length + uptoBulk d + 1
  | (_, d) => uptoBulk d + 1
 end
def uptoSmall : (H : Type) → List (DataW H) → Bool := fun _ ds => decide (uptoBulkAll ds ≤ 1048576)
def OpenSpec.upto (s : _root_.Go.ChangeSpec) : _root_.Go.OpenSpec := { _root_.Go.OpenSpec.ofChange s with cond := some uptoSmall }

/-- 'distafflaw08.DequeNobody', WHERE WHAT IT READS IS OF BULK AT MOST 1048576: true; the input reads as it did. -/
def dequeNobodyUptoRow : OpenClaim := { program := "ytcnpcmdcbafaeaa", sum := "2ed09739bb8d2d2eddb2e2035365404bb3ff598f26e83b014927d4d9f71ec7d1", func := "distaff/distafflaw08.DequeNobody", spec := "dequeNobody", unfollowed := true, recurses := true, apart := false, narrowed := true }
def DequeNobodyUptoSaid : Prop := dequeNobodyUptoRow.holds Try.pinned (OpenSpec.upto dequeNobodySpec)

/-- 'distafflaw08.DequeAhead', WHERE WHAT IT READS IS OF BULK AT MOST 1048576: true; the input reads as it did. -/
def dequeAheadUptoRow : OpenClaim := { program := "ytcnpcmdcbafaeaa", sum := "2ed09739bb8d2d2eddb2e2035365404bb3ff598f26e83b014927d4d9f71ec7d1", func := "distaff/distafflaw08.DequeAhead", spec := "dequeAhead", unfollowed := true, recurses := true, apart := false, narrowed := true }
def DequeAheadUptoSaid : Prop := dequeAheadUptoRow.holds Try.pinned (OpenSpec.upto dequeAheadSpec)

/-- 'distafflaw08.DequePlays', WHERE WHAT IT READS IS OF BULK AT MOST 1048576: true; the input reads as it did. -/
def dequePlaysUptoRow : OpenClaim := { program := "ytcnpcmdcbafaeaa", sum := "2ed09739bb8d2d2eddb2e2035365404bb3ff598f26e83b014927d4d9f71ec7d1", func := "distaff/distafflaw08.DequePlays", spec := "dequePlays", unfollowed := true, recurses := true, apart := false, narrowed := true }
def DequePlaysUptoSaid : Prop := dequePlaysUptoRow.holds Try.pinned (OpenSpec.upto dequePlaysSpec)

/-- 'distafflaw08.DequeKnown', WHERE WHAT IT READS IS OF BULK AT MOST 1048576: true; the input reads as it did. -/
def dequeKnownUptoRow : OpenClaim := { program := "ytcnpcmdcbafaeaa", sum := "2ed09739bb8d2d2eddb2e2035365404bb3ff598f26e83b014927d4d9f71ec7d1", func := "distaff/distafflaw08.DequeKnown", spec := "dequeKnown", unfollowed := true, recurses := true, apart := false, narrowed := true }
def DequeKnownUptoSaid : Prop := dequeKnownUptoRow.holds Try.pinned (OpenSpec.upto dequeKnownSpec)

end Rows
end Go.Proofs.Ytcnpcmdcbafaeaa
