/- Strings, as lists of bytes. No condition. -/
import Derived.Test.YtofgpppnknpblaaDoorSLKit
import Derived.Laws.Strings
set_option linter.unusedSimpArgs false
set_option linter.unusedVariables false
namespace Go.SL
open Go Go.RowKit
abbrev str (l : List UInt8) : Value := .string ⟨l.toArray⟩
theorem ba_eq (a b : ByteArray) : (a.toList == b.toList) = decide (a = b) := by
  by_cases h : a = b
  · subst h; simp
  · rw [decide_eq_false h]
    have : a.toList ≠ b.toList := fun e => h (by
      rw [ByteArray.toList_eq, ByteArray.toList_eq] at e
      obtain ⟨a⟩ := a
      obtain ⟨b⟩ := b
      congr
      simpa using e)
    simpa using this
theorem str_eq (l m : List UInt8) : ((⟨l.toArray⟩ : ByteArray) = ⟨m.toArray⟩) = (l = m) := by simp
section
variable {ro : Option Nat} {P : Program} {B : World} {n : Nat} {ops : Array Oper} {rest : List Oper} {fr : Fr} {H : HProp} {Q : Post}
variable {d : Nat} {ty : TypeId} {pos : String} {after : Array Edge}
theorem s_eqstr {t yt : TypeId} {x y : Operand} {p q : ByteArray} {b : Bool} (hx : ev fr x = .string p) (hy : ev fr y = .string q) (hr : decide (p = q) = b)
    (hd : Nat.blt d n = true) (k : WPL ro P B n ops rest (fr.put d (.bool b)) H Q) :
    WPL ro P B n ops (⟨some d, .binOp .eql t x y yt, ty, pos, after, none⟩ :: rest) fr H Q :=
  step_pure hd (fun w => by
    have : execOp (ev fr) ⟨some d, .binOp .eql t x y yt, ty, pos, after, none⟩ = (do Pure.pure (Next.value (← (do eqGuard .eql t x y (ev fr x) (ev fr y); binOp .eql t (ev fr x) (ev fr y))))) := rfl
    rw [this, hx, hy]
    subst hr
    simp [eqGuard_at_string, binOp_string_eql, ba_eq]) k
theorem s_nestr {t yt : TypeId} {x y : Operand} {p q : ByteArray} {b : Bool} (hx : ev fr x = .string p) (hy : ev fr y = .string q) (hr : (!decide (p = q)) = b)
    (hd : Nat.blt d n = true) (k : WPL ro P B n ops rest (fr.put d (.bool b)) H Q) :
    WPL ro P B n ops (⟨some d, .binOp .neq t x y yt, ty, pos, after, none⟩ :: rest) fr H Q :=
  step_pure hd (fun w => by
    have : execOp (ev fr) ⟨some d, .binOp .neq t x y yt, ty, pos, after, none⟩ = (do Pure.pure (Next.value (← (do eqGuard .neq t x y (ev fr x) (ev fr y); binOp .neq t (ev fr x) (ev fr y))))) := rfl
    rw [this, hx, hy]
    subst hr
    simp [eqGuard_at_string, binOp_string_neq, ba_eq]) k
end
end Go.SL
