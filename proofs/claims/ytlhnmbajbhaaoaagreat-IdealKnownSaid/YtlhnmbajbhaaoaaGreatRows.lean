/-
  No cell of these rows narrows 'for every input' (looked for: loops, veiled, ifaces, maps, wideKeys, modest, calm, conditions, laid).
  DERIVED. THE GIVEN ROWS OF THIS SEAT. 3 by the template 'for every input the law returns true; each argument reads behind the call as it read before'; 0 by the template 'total and deterministic' (their statements: YtlhnmbajbhaaoaaGreatTotals.lean).
  GIVEN WITH THE SEED: the statements are not yours to turn. If you find one false, say at which input.
  Laid BY PROGRAM, IN A SANDBOX (cutbox-rows.mjs): the forced cells as the released guide's own fill.sh prints them over the translation 739b296d7ecc5bf7… (all of the seat's roots in one cut). By AI agents, Wed Nov 11 2026. No macro, syntax, notation, axiom, sorry.
-/
import Derived.Test.YtlhnmbajbhaaoaaGreatChecked
import GoSem.Claim
import GoSem.ClaimJoined
import GoSem.ClaimMapViews
import Derived.JoinedTies
import Derived.KernelRfl
namespace Go.Proofs.YtlhnmbajbhaaoaaGreat
/- THE CELL 'sum', in the pinned program and in every row, IS THE sha256 OF THE DUMP (.gsa) THAT YtlhnmbajbhaaoaaGreatProg.lean LOADS. Nothing in Lean hashes anything: it is a label: what it is worth is what the hold of that sum in a sandbox is worth. -/
noncomputable def Tryz.pinned : Pinned := { name := "ytlhnmbajbhaaoaagreat", sum := "739b296d7ecc5bf726cdec383c8ebe50d0d25faae916b9714782c0c3fcf74a30", checked := Tryz.checked }
namespace Rows
def none {H : Type} : Left H := { results := [], args := [] }

/-- 'distafflaw27.IdealTakes': WHATEVER THE INPUT: true; the input reads as it did. -/
def idealTakesSpec : ChangeSpec := { name := "idealTakes", fn := fun _ => fun
  | [d1, d2, d3] => { results := [.lit (.bool true)], args := [d1, d2, d3] }
  | _ => none }
def idealTakesRow : OpenClaim := { program := "ytlhnmbajbhaaoaagreat", sum := "739b296d7ecc5bf726cdec383c8ebe50d0d25faae916b9714782c0c3fcf74a30", func := "distaff/distafflaw27.IdealTakes", spec := "idealTakes", unfollowed := true, recurses := true, apart := false }
def IdealTakesSaid : Prop := idealTakesRow.holds Tryz.pinned (OpenSpec.ofChange idealTakesSpec)

/-- ITS FALSE NEIGHBOUR: 'it returns false'. Refute it at one input. -/
def idealTakesWrong : ChangeSpec := { name := "idealTakes", fn := fun _ => fun
  | [d1, d2, d3] => { results := [.lit (.bool false)], args := [d1, d2, d3] }
  | _ => none }
def IdealTakesWrongFalsely : Prop := idealTakesRow.holds Tryz.pinned (OpenSpec.ofChange idealTakesWrong)

/-- 'distafflaw27.IdealPlays': WHATEVER THE INPUT: true; the input reads as it did. -/
def idealPlaysSpec : ChangeSpec := { name := "idealPlays", fn := fun _ => fun
  | [d1, d2] => { results := [.lit (.bool true)], args := [d1, d2] }
  | _ => none }
def idealPlaysRow : OpenClaim := { program := "ytlhnmbajbhaaoaagreat", sum := "739b296d7ecc5bf726cdec383c8ebe50d0d25faae916b9714782c0c3fcf74a30", func := "distaff/distafflaw27.IdealPlays", spec := "idealPlays", unfollowed := true, recurses := true, apart := false }
def IdealPlaysSaid : Prop := idealPlaysRow.holds Tryz.pinned (OpenSpec.ofChange idealPlaysSpec)

/-- ITS FALSE NEIGHBOUR: 'it returns false'. Refute it at one input. -/
def idealPlaysWrong : ChangeSpec := { name := "idealPlays", fn := fun _ => fun
  | [d1, d2] => { results := [.lit (.bool false)], args := [d1, d2] }
  | _ => none }
def IdealPlaysWrongFalsely : Prop := idealPlaysRow.holds Tryz.pinned (OpenSpec.ofChange idealPlaysWrong)

/-- 'distafflaw27.IdealKnown': WHATEVER THE INPUT: true; the input reads as it did. -/
def idealKnownSpec : ChangeSpec := { name := "idealKnown", fn := fun _ => fun
  | [] => { results := [.lit (.bool true)], args := [] }
  | _ => none }
def idealKnownRow : OpenClaim := { program := "ytlhnmbajbhaaoaagreat", sum := "739b296d7ecc5bf726cdec383c8ebe50d0d25faae916b9714782c0c3fcf74a30", func := "distaff/distafflaw27.IdealKnown", spec := "idealKnown", unfollowed := true, recurses := true, apart := false }
def IdealKnownSaid : Prop := idealKnownRow.holds Tryz.pinned (OpenSpec.ofChange idealKnownSpec)

/-- ITS FALSE NEIGHBOUR: 'it returns false'. Refute it at one input. -/
def idealKnownWrong : ChangeSpec := { name := "idealKnown", fn := fun _ => fun
  | [] => { results := [.lit (.bool false)], args := [] }
  | _ => none }
def IdealKnownWrongFalsely : Prop := idealKnownRow.holds Tryz.pinned (OpenSpec.ofChange idealKnownWrong)

/- THE SECOND FORM. 'bulk': how many values and letters a reading holds, each counted each time it is reached (what is shared counts as often as it is met; a slice's spare places count too). A statement '..UptoSaid' is the law's where the arguments, and the package variables that the reading takes, are together of bulk at most 1048576: NARROWER than '..Said'. Prove '..Said' where nothing that the law and all that it calls make is longer than what came in: it says more and counts as full. Else prove '..UptoSaid'. A law counts once. -/
mutual
def uptoBulk {H : Type} : DataW H → Nat
  | .lit (.string bytes) => bytes.length + 1
  | .lit _ => 1
  | .nil => 1
  | .ptr d => uptoBulk d + 1
  | .slice elems spare => uptoBulkAll elems + uptoBulkAll spare + 1
  | .agg parts => uptoBulkAll parts + 1
  | .iface _ d => uptoBulk d + 1
  | .map entries => uptoBulkEntries entries + 1
  | .held _ => 1
def uptoBulkAll {H : Type} : List (DataW H) → Nat
  | [] => 0
  | d :: r => uptoBulk d + uptoBulkAll r
def uptoBulkEntries {H : Type} : List (Lit × DataW H) → Nat
  | [] => 0
  | x :: r => uptoBulkEntry x + uptoBulkEntries r
def uptoBulkEntry {H : Type} : Lit × DataW H → Nat
  | (.string bytes, d) => bytes.length + uptoBulk d + 1
  | (_, d) => uptoBulk d + 1
 end
def uptoSmall : (H : Type) → List (DataW H) → Bool := fun _ ds => decide (uptoBulkAll ds ≤ 1048576)
def OpenSpec.upto (s : _root_.Go.ChangeSpec) : _root_.Go.OpenSpec := { _root_.Go.OpenSpec.ofChange s with cond := some uptoSmall }

/-- 'distafflaw27.IdealTakes', WHERE WHAT IT READS IS OF BULK AT MOST 1048576: true; the input reads as it did. -/
def idealTakesUptoRow : OpenClaim := { program := "ytlhnmbajbhaaoaagreat", sum := "739b296d7ecc5bf726cdec383c8ebe50d0d25faae916b9714782c0c3fcf74a30", func := "distaff/distafflaw27.IdealTakes", spec := "idealTakes", unfollowed := true, recurses := true, apart := false, narrowed := true }
def IdealTakesUptoSaid : Prop := idealTakesUptoRow.holds Tryz.pinned (OpenSpec.upto idealTakesSpec)

/-- 'distafflaw27.IdealPlays', WHERE WHAT IT READS IS OF BULK AT MOST 1048576: true; the input reads as it did. -/
def idealPlaysUptoRow : OpenClaim := { program := "ytlhnmbajbhaaoaagreat", sum := "739b296d7ecc5bf726cdec383c8ebe50d0d25faae916b9714782c0c3fcf74a30", func := "distaff/distafflaw27.IdealPlays", spec := "idealPlays", unfollowed := true, recurses := true, apart := false, narrowed := true }
def IdealPlaysUptoSaid : Prop := idealPlaysUptoRow.holds Tryz.pinned (OpenSpec.upto idealPlaysSpec)

/-- 'distafflaw27.IdealKnown', WHERE WHAT IT READS IS OF BULK AT MOST 1048576: true; the input reads as it did. -/
def idealKnownUptoRow : OpenClaim := { program := "ytlhnmbajbhaaoaagreat", sum := "739b296d7ecc5bf726cdec383c8ebe50d0d25faae916b9714782c0c3fcf74a30", func := "distaff/distafflaw27.IdealKnown", spec := "idealKnown", unfollowed := true, recurses := true, apart := false, narrowed := true }
def IdealKnownUptoSaid : Prop := idealKnownUptoRow.holds Tryz.pinned (OpenSpec.upto idealKnownSpec)

end Rows
end Go.Proofs.YtlhnmbajbhaaoaaGreat
