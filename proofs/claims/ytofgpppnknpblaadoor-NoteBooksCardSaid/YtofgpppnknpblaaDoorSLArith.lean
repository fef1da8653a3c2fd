/- Whole numbers: quotients and remainders of what is not below 0. No condition. -/
import Derived.Test.YtofgpppnknpblaaDoorSLOps
set_option linter.unusedSimpArgs false
set_option linter.unusedVariables false
namespace Go.SL
open Go Go.RowKit
section
variable {ro : Option Nat} {P : Program} {B : World} {n : Nat} {ops : Array Oper} {rest : List Oper} {fr : Fr} {H : HProp} {Q : Post}
variable {d : Nat} {ty : TypeId} {pos : String} {after : Array Edge}
theorem s_remP {t yt : TypeId} {x y : Operand} {kd : IntKind} {p q : Int} (hx : ev fr x = .int kd p) (hy : ev fr y = .int kd q) (hp : 0 ≤ p ∧ 0 < q)
    (hd : Nat.blt d n = true) (k : WPL ro P B n ops rest (fr.put d (.int kd (p % q))) H Q) :
    WPL ro P B n ops (⟨some d, .binOp .rem t x y yt, ty, pos, after, none⟩ :: rest) fr H Q :=
  s_rem hx hy (by omega) (Int.tmod_eq_emod_of_nonneg hp.1) hd k
theorem s_quoP {t yt : TypeId} {x y : Operand} {p q : Int} (hx : ev fr x = .int .i64 p) (hy : ev fr y = .int .i64 q) (hp : 0 ≤ p ∧ p ≤ 9223372036854775807 ∧ 0 < q)
    (hd : Nat.blt d n = true) (k : WPL ro P B n ops rest (fr.put d (.int .i64 (p / q))) H Q) :
    WPL ro P B n ops (⟨some d, .binOp .quo t x y yt, ty, pos, after, none⟩ :: rest) fr H Q := by
  refine s_quo hx hy (by omega) ?_ hd k
  rw [Int.tdiv_eq_ediv_of_nonneg hp.1]
  have h1 : 0 ≤ p / q := Int.ediv_nonneg hp.1 (by omega)
  have h2 : p / q ≤ p := Int.ediv_le_self q hp.1
  exact IntWalk.i64_in _ (by omega)
end
end Go.SL
