/- The walk's rules for structs that are compared. No condition. -/
import Derived.Test.YtofgpppnknpblaaDoorSLTools2
import Derived.Laws.StructEq
set_option linter.unusedSimpArgs false
set_option linter.unusedVariables false
namespace Go.SL
open Go Go.RowKit
/-- A struct whose cells are whole numbers, all of them compared. -/
class IntsEq (P : Program) (t : TypeId) (n : outParam Nat) : Prop where
  eq : ∀ w (xs ys : List Int), xs.length = n → ys.length = n → (Op.equalIn 10000 t (.agg (xs.map (.int .i64)).toArray) (.agg (ys.map (.int .i64)).toArray)).run P w = .ok (decide (xs = ys)) w
  guard : P.eqGuardType P.depth t = false
section
variable {ro : Option Nat} {P : Program} {B : World} {n : Nat} {ops : Array Oper} {rest : List Oper} {fr : Fr} {H : HProp} {Q : Post}
variable {d : Nat} {ty : TypeId} {pos : String} {after : Array Edge}
theorem s_neqS {t yt : TypeId} {m : Nat} {x y : Operand} {xs ys : List Int} {b : Bool} [i : IntsEq P t m] (hx : ev fr x = .agg (xs.map (.int .i64)).toArray) (hy : ev fr y = .agg (ys.map (.int .i64)).toArray)
    (h1 : xs.length = m) (h2 : ys.length = m) (hr : decide (xs = ys) = !b) (hd : Nat.blt d n = true)
    (k : WPL ro P B n ops rest (fr.put d (.bool b)) H Q) : WPL ro P B n ops (⟨some d, .binOp .neq t x y yt, ty, pos, after, none⟩ :: rest) fr H Q := step_pure hd (fun w => by
    have : execOp (ev fr) ⟨some d, .binOp .neq t x y yt, ty, pos, after, none⟩ = (do Pure.pure (Next.value (← (do eqGuard .neq t x y (ev fr x) (ev fr y); binOp .neq t (ev fr x) (ev fr y))))) := rfl
    rw [this, hx, hy]
    simp [run_eqGuard_agg w .neq t x y _ _ i.guard, run_neq_struct, i.eq w xs ys h1 h2, hr]) k
theorem s_eqlS {t yt : TypeId} {m : Nat} {x y : Operand} {xs ys : List Int} {b : Bool} [i : IntsEq P t m] (hx : ev fr x = .agg (xs.map (.int .i64)).toArray) (hy : ev fr y = .agg (ys.map (.int .i64)).toArray)
    (h1 : xs.length = m) (h2 : ys.length = m) (hr : decide (xs = ys) = b) (hd : Nat.blt d n = true)
    (k : WPL ro P B n ops rest (fr.put d (.bool b)) H Q) : WPL ro P B n ops (⟨some d, .binOp .eql t x y yt, ty, pos, after, none⟩ :: rest) fr H Q := step_pure hd (fun w => by
    have : execOp (ev fr) ⟨some d, .binOp .eql t x y yt, ty, pos, after, none⟩ = (do Pure.pure (Next.value (← (do eqGuard .eql t x y (ev fr x) (ev fr y); binOp .eql t (ev fr x) (ev fr y))))) := rfl
    rw [this, hx, hy]
    simp [run_eqGuard_agg w .eql t x y _ _ i.guard, run_eql_struct, i.eq w xs ys h1 h2, hr]) k
end
end Go.SL
