/- Pointers against each other. No condition. -/
import Derived.Test.YtofgpppnknpblaaDoorSLRange
import Derived.LaidEqlPtr
set_option linter.unusedSimpArgs false
set_option linter.unusedVariables false
namespace Go.SL
open Go Go.RowKit
/-- A type of pointers to something of some size. -/
class PtrTo (P : Program) (t : TypeId) : Prop where
  eq : ∃ te j, P.underlying t = some (.pointer te) ∧ P.info? te = some j ∧ j.size ≠ 0
theorem PtrTo.of {P : Program} {t te : TypeId} (h : P.underlying t = some (.pointer te)) (h2 : (P.info? te).map (fun j => Nat.blt 0 j.size) = some true) : PtrTo P t := ⟨by
  cases hi : P.info? te with
  | none => rw [hi] at h2; cases h2
  | some j => rw [hi] at h2; exact ⟨te, j, h, hi, by simp [Nat.blt_eq] at h2; omega⟩⟩
/-- A block lies there. -/
def There (B : World) (H : HProp) (b : Nat) : Prop := ∀ w, Holds B H w → ∃ ca ta, w.heap[b]? = some (.cells ca ta (0, 0))
theorem There.ent {B : World} {H G : HProp} {b : Nat} (h : There B G b) (e : Ent H G) : There B H b := fun w hw => h w (hw.ent e)
theorem There.blk {B : World} {H F : HProp} {b : Nat} {cs : List Value} {e : TypeId} [i : HasBlk H b cs e F] : There B H b := fun w hw => ⟨_, _, by
  have := i.eq ▸ hw
  exact this.obj.1⟩
section
variable {ro : Option Nat} {P : Program} {B : World} {n : Nat} {ops : Array Oper} {rest l : List Oper} {fr : Fr} {H : HProp} {Q : Post} {c : Code} {f : FuncId} {args : List Value} {R : Value → HProp → Prop}
variable {d : Nat} {ty : TypeId} {pos : String} {after : Array Edge}
theorem WPL.know {φ : Prop} (h : ∀ w, Holds B H w → φ) (k : φ → WPL ro P B n ops l fr H Q) : WPL ro P B n ops l fr H Q := fun a w hm hw => k (h w hw) a w hm hw
theorem WP.know {φ : Prop} (h : ∀ w, Holds B H w → φ) (k : φ → WP ro P B n c fr H Q) : WP ro P B n c fr H Q := fun a w hm hw => k (h w hw) a w hm hw
theorem Does.know {φ : Prop} (h : ∀ w, Holds B H w → φ) (k : φ → Does P B f args H R) : Does P B f args H R := fun w hw => k (h w hw) w hw
theorem s_eqptr_same {t yt : TypeId} [u : PtrTo P t] {x y : Operand} {b : Nat} (hx : ev fr x = .pointer (some ⟨b, 0, none⟩)) (hy : ev fr y = .pointer (some ⟨b, 0, none⟩))
    (hd : Nat.blt d n = true) (k : WPL ro P B n ops rest (fr.put d (.bool true)) H Q) :
    WPL ro P B n ops (⟨some d, .binOp .eql t x y yt, ty, pos, after, none⟩ :: rest) fr H Q :=
  step_pure hd (fun w => by
    obtain ⟨te, j, h1, h2, h3⟩ := u.eq
    have : execOp (ev fr) ⟨some d, .binOp .eql t x y yt, ty, pos, after, none⟩ = (do Pure.pure (Next.value (← (do eqGuard .eql t x y (ev fr x) (ev fr y); binOp .eql t (ev fr x) (ev fr y))))) := rfl
    rw [this, hx, hy]
    simp [eqGuard_at_pointer, run_eql_ptr_same w _ h1 h2]) k
theorem s_eqptr_other {t yt : TypeId} [u : PtrTo P t] {x y : Operand} {b b' : Nat} (hx : ev fr x = .pointer (some ⟨b, 0, none⟩)) (hy : ev fr y = .pointer (some ⟨b', 0, none⟩)) (hne : b ≠ b') (h1 : There B H b) (h2 : There B H b')
    (hd : Nat.blt d n = true) (k : WPL ro P B n ops rest (fr.put d (.bool false)) H Q) :
    WPL ro P B n ops (⟨some d, .binOp .eql t x y yt, ty, pos, after, none⟩ :: rest) fr H Q :=
  step_look hd (fun w hw => by
    obtain ⟨te, j, u1, u2, u3⟩ := u.eq
    obtain ⟨ca, ta, e1⟩ := h1 w hw
    obtain ⟨cb, tb, e2⟩ := h2 w hw
    have : execOp (ev fr) ⟨some d, .binOp .eql t x y yt, ty, pos, after, none⟩ = (do Pure.pure (Next.value (← (do eqGuard .eql t x y (ev fr x) (ev fr y); binOp .eql t (ev fr x) (ev fr y))))) := rfl
    rw [this, hx, hy]
    simp [eqGuard_at_pointer, run_eql_ptr_other w u1 u2 u3 (show (⟨b, 0, none⟩ : Addr) ≠ ⟨b', 0, none⟩ from fun e => hne (by cases e; rfl)) e1 e2]) k
end
end Go.SL
