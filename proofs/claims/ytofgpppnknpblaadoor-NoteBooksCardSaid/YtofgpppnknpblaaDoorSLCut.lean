/- A cut between two parts of code: the first part told by slots and an assertion. No condition. -/
import Derived.Test.YtofgpppnknpblaaDoorSLWp
set_option linter.unusedSimpArgs false
set_option linter.unusedVariables false
namespace Go.SL
open Go Go.RowKit
section
variable {ro : Option Nat} {P : Program} {B : World} {n : Nat} {fr : Fr} {H : HProp} {Q : Post}
theorem wp_seq_cut {α : Type} {x y : Code} (M : List Nat) (S : α → List (Nat × Value)) (G : α → HProp) (ok : α → Prop)
    (h : WP ro P B n x fr H (QSeq (fun fr' H' => ∃ z, Aside M fr' fr ∧ Agrees fr' (S z) ∧ Ent H' (G z) ∧ ok z) Q))
    (k : ∀ z g, ok z → WP ro P B n y (putAll (fr.havoc M g) (S z)) (G z) Q) : WP ro P B n (.seq x y) fr H Q := by
  refine wp_seq' (h.mono ?_)
  intro e f K q
  cases e with
  | normal =>
    obtain ⟨z, ho, ha, he, hz⟩ := q
    refine WP.ent he ?_
    have e : f = putAll (fr.havoc M f) (S z) := by
      rw [← ho.self]
      exact (putAll_self f _ ha).symm
    have := k z f hz
    rwa [← e] at this
  | _ => exact q
theorem wp_cut_here {α : Type} {x y : Code} (M : List Nat) (S : α → List (Nat × Value)) (G : α → HProp) (ok : α → Prop)
    (h : WP ro P B n x fr H (QSeq (fun fr' H' => ∃ z, Aside M fr' fr ∧ Agrees fr' (S z) ∧ Ent H' (G z) ∧ ok z) Q))
    (k : ∀ z g, ok z → WP ro P B n y (putAll (fr.havoc M g) (S z)) (G z) Q) : WP ro P B n x fr H (QSeq (fun fr H => WP ro P B n y fr H Q) Q) := by
  refine h.mono ?_
  intro e f K q
  cases e with
  | normal =>
    obtain ⟨z, ho, ha, he, hz⟩ := q
    refine WP.ent he ?_
    have e : f = putAll (fr.havoc M f) (S z) := by
      rw [← ho.self]
      exact (putAll_self f _ ha).symm
    have := k z f hz
    rwa [← e] at this
  | _ => exact q
end
end Go.SL
