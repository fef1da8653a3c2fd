/- Strings: length, bytes, parts, sums. No condition. -/
import Derived.Test.YtofgpppnknpblaaDoorSLStr
set_option linter.unusedSimpArgs false
set_option linter.unusedVariables false
namespace Go.SL
open Go Go.RowKit
class UnderStr (P : Program) (t : TypeId) : Prop where
  eq : P.underlying t = some .string
theorem ba_append (l m : List UInt8) : (⟨l.toArray⟩ : ByteArray) ++ ⟨m.toArray⟩ = ⟨(l ++ m).toArray⟩ := by
  apply ByteArray.ext
  simp [ByteArray.data_append]
theorem ba_extract (l : List UInt8) (a b : Nat) : (⟨l.toArray⟩ : ByteArray).extract a b = ⟨((l.take b).drop a).toArray⟩ := by
  apply ByteArray.ext
  simp [ByteArray.data_extract, List.extract_toArray, List.extract_eq_take_drop]
  rw [List.drop_take]
section
variable {ro : Option Nat} {P : Program} {B : World} {n : Nat} {ops : Array Oper} {rest : List Oper} {fr : Fr} {H : HProp} {Q : Post}
variable {d : Nat} {ty : TypeId} {pos : String} {after : Array Edge}
theorem s_slen {t : TypeId} {x : Operand} {l : List UInt8} [u : UnderStr P t] (hx : ev fr x = str l) (hd : Nat.blt d n = true)
    (k : WPL ro P B n ops rest (fr.put d (.int .i64 (l.length : Int))) H Q) : WPL ro P B n ops (⟨some d, .call ⟨.builtin .len, #[x], #[t]⟩, ty, pos, after, none⟩ :: rest) fr H Q := step_pure hd (fun w => by
    have e : (⟨l.toArray⟩ : ByteArray).size = l.length := by show l.toArray.size = _; simp
    simp [execOp, resolve, invoke, builtin, hx, run_len_string _ _ _ _ u.eq, goInt, e]) k
theorem s_sindex {t : TypeId} {x y : Operand} {l : List UInt8} {kd : IntKind} {p : Int} {j : Nat} [u : UnderStr P t] (hx : ev fr x = str l) (hy : ev fr y = .int kd p) (hp : p = (j : Int)) (hj : j < l.length) (hd : Nat.blt d n = true)
    (k : WPL ro P B n ops rest (fr.put d (.int .u8 ((l[j]).toNat : Int))) H Q) : WPL ro P B n ops (⟨some d, .index t x y, ty, pos, after, none⟩ :: rest) fr H Q := step_pure hd (fun w => by
    have e : (⟨l.toArray⟩ : ByteArray).size = l.length := by show l.toArray.size = _; simp
    have h0 := run_index_string (P := P) w t ⟨l.toArray⟩ kd p u.eq
    rw [dif_pos ⟨by omega, by rw [e]; omega⟩] at h0
    have e2 : execOp (ev fr) ⟨some d, .index t x y, ty, pos, after, none⟩ = (do Pure.pure (Next.value (← Instr.index t (ev fr x) (ev fr y)))) := rfl
    rw [e2, hx, hy]
    simp only [Sem.run_bind, h0, Result.andThen]
    subst hp
    rfl) k
theorem s_concat {t yt : TypeId} {x y : Operand} {l m : List UInt8} (hx : ev fr x = str l) (hy : ev fr y = str m) (hb : l.length + m.length ≤ 9223372036854775807) {r : List UInt8} (hr : l ++ m = r) (hd : Nat.blt d n = true)
    (k : WPL ro P B n ops rest (fr.put d (str r)) H Q) : WPL ro P B n ops (⟨some d, .binOp .add t x y yt, ty, pos, after, none⟩ :: rest) fr H Q := step_pure hd (fun w => by
    have e1 : (⟨l.toArray⟩ : ByteArray).size = l.length := by show l.toArray.size = _; simp
    have e2 : (⟨m.toArray⟩ : ByteArray).size = m.length := by show m.toArray.size = _; simp
    have : execOp (ev fr) ⟨some d, .binOp .add t x y yt, ty, pos, after, none⟩ = (do Pure.pure (Next.value (← (do eqGuard .add t x y (ev fr x) (ev fr y); binOp .add t (ev fr x) (ev fr y))))) := rfl
    rw [this, hx, hy]
    have h3 : ¬ (((⟨l.toArray⟩ : ByteArray).size + (⟨m.toArray⟩ : ByteArray).size : Nat) : Int) > IntKind.i64.max := by
      rw [e1, e2]; show ¬ ((l.length + m.length : Nat) : Int) > 9223372036854775807; omega
    subst hr
    rw [e1, e2] at h3
    simp [eqGuard, binOp_string_add, Op.stringOp, ba_append]
    simp only [e1, e2]
    omega) k
theorem s_sslice {t : TypeId} {x : Operand} {lo hi : Option Operand} {l : List UInt8} {a b : Nat} [u : UnderStr P t] (hx : ev fr x = str l)
    (ha : match lo with | none => a = 0 | some o => ∃ k, ev fr o = .int k (a : Int)) (hb : match hi with | none => b = l.length | some o => ∃ k, ev fr o = .int k (b : Int)) (h1 : a ≤ b) (h2 : b ≤ l.length) {r : List UInt8} (hr : (l.take b).drop a = r) (hd : Nat.blt d n = true)
    (k : WPL ro P B n ops rest (fr.put d (str r)) H Q) : WPL ro P B n ops (⟨some d, .slice t x lo hi none, ty, pos, after, none⟩ :: rest) fr H Q := step_pure hd (fun w => by
    have e1 : (⟨l.toArray⟩ : ByteArray).size = l.length := by show l.toArray.size = _; simp
    have e2 : execOp (ev fr) ⟨some d, .slice t x lo hi none, ty, pos, after, none⟩ = (do Pure.pure (Next.value (← Instr.sliceAt t (ev fr x) (lo.map (ev fr)) (hi.map (ev fr)) none))) := rfl
    rw [e2, hx]
    subst hr
    have hlo : (Instr.sliceBounds false l.length l.length (lo.map (ev fr)) (hi.map (ev fr)) none).run P w = .ok (a, b, l.length) w := by
      unfold Instr.sliceBounds
      cases hi with
      | none =>
        simp only at hb
        subst hb
        cases lo with
        | none => simp only at ha; subst ha; simp [Result.andThen]
        | some o =>
          obtain ⟨kk, ho⟩ := ha
          simp [ho, Instr.sliceBound, asIntOf, Result.andThen, h1]
      | some p =>
        obtain ⟨kp, hp⟩ := hb
        cases lo with
        | none => simp only at ha; subst ha; simp [hp, Instr.sliceBound, asIntOf, Result.andThen, h2]
        | some o =>
          obtain ⟨kk, ho⟩ := ha
          simp [ho, hp, Instr.sliceBound, asIntOf, Result.andThen, h1, h2]
    simp only [Instr.sliceAt, Instr.slice, Sem.run_bind, run_underlying u.eq, Result.andThen]
    rw [e1]
    simp [hlo, Result.andThen, ba_extract]) k
end
end Go.SL
