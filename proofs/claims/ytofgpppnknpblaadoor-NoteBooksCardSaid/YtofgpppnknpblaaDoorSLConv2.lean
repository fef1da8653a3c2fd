/- Contracts that only lay new blocks, told by what lay below. No condition. -/
import Derived.Test.YtofgpppnknpblaaDoorSLConv
set_option linter.unusedSimpArgs false
set_option linter.unusedVariables false
namespace Go.SL
open Go Go.RowKit
section
variable {P : Program} {B : World} {H F : HProp} {f : FuncId} {args : List Value} {v : Value}
theorem Holds.laid {w w' : World} (h : Holds B H w) (hb : Below w.heap.size w w') : Holds B H w' := by
  obtain ⟨hB, x, hx, p⟩ := h
  have hsz := hB.size
  refine ⟨hB.trans (hb.mono hsz), x, fun k y hy => ⟨?_, (hx k y hy).2⟩, p⟩
  have h1 := (hx k y hy).1
  have hlt : k < w.heap.size := (Array.getElem?_eq_some_iff.1 h1).1
  rw [hb.block k hlt]
  exact h1
theorem Does.ofBelow (h : ∀ w, Holds B H w → Calls P f args.toArray w fun e w' => e = .returned v ∧ Below w.heap.size w w') : Does P B f args H fun r H' => H' = H ∧ r = v :=
  fun w hw => (h w hw).mono fun _ _ ⟨he, hb⟩ => ⟨v, H, he, hw.laid hb, rfl, rfl⟩
end
end Go.SL
