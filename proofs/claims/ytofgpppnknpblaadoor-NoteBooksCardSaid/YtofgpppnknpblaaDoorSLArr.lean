/- Arrays: parts of them. No condition. -/
import Derived.Test.YtofgpppnknpblaaDoorSLAuto
set_option linter.unusedSimpArgs false
set_option linter.unusedVariables false
namespace Go.SL
open Go Go.RowKit
section
variable {ro : Option Nat} {P : Program} {B : World} {n : Nat} {ops : Array Oper} {rest : List Oper} {fr : Fr} {H : HProp} {Q : Post}
variable {d : Nat} {ty : TypeId} {pos : String} {after : Array Edge}
theorem s_sliceArrH {t e : TypeId} {alen sz h b o : Nat} [i : ArrayOf P t alen e sz] {x u : Operand} {kd : IntKind} {q : Int} (hx : ev fr x = .pointer (some ⟨b, o, none⟩))
    (hu : ev fr u = .int kd q) (hq : q = (h : Int)) (hh : h ≤ alen) (hd : Nat.blt d n = true)
    (k : WPL ro P B n ops rest (fr.put d (.slice (some ⟨b, o, none⟩) h alen)) H Q) :
    WPL ro P B n ops (⟨some d, .slice t x none (some u) none, ty, pos, after, none⟩ :: rest) fr H Q := step_pure hd (fun w => by
    obtain ⟨hun, inf, hi, hs⟩ := i.eq
    have : execOp (ev fr) ⟨some d, .slice t x none (some u) none, ty, pos, after, none⟩ = (do Pure.pure (Next.value (← Instr.sliceAt t (ev fr x) none (some (ev fr u)) none))) := rfl
    subst hq
    rw [this, hx, hu]
    have e0 : (⟨b, o, none⟩ : Addr).add 0 = ⟨b, o, none⟩ := by simp [Addr.add]
    simp [Instr.sliceAt, Instr.sureAddr, run_underlying hun, Instr.sliceBounds, Instr.sliceBound, asIntOf, hh, sizeOf, typeInfo, hi, hs, e0, Result.andThen]) k
theorem s_sliceArr {t e : TypeId} {alen sz b o : Nat} [i : ArrayOf P t alen e sz] {x : Operand} (hx : ev fr x = .pointer (some ⟨b, o, none⟩)) (hd : Nat.blt d n = true)
    (k : WPL ro P B n ops rest (fr.put d (.slice (some ⟨b, o, none⟩) alen alen)) H Q) :
    WPL ro P B n ops (⟨some d, .slice t x none none none, ty, pos, after, none⟩ :: rest) fr H Q := step_pure hd (fun w => by
    obtain ⟨hun, inf, hi, hs⟩ := i.eq
    have : execOp (ev fr) ⟨some d, .slice t x none none none, ty, pos, after, none⟩ = (do Pure.pure (Next.value (← Instr.sliceAt t (ev fr x) none none none))) := rfl
    rw [this, hx]
    have e0 : (⟨b, o, none⟩ : Addr).add 0 = ⟨b, o, none⟩ := by simp [Addr.add]
    simp [Instr.sliceAt, Instr.sureAddr, run_underlying hun, Instr.sliceBounds, Instr.sliceBound, asIntOf, sizeOf, typeInfo, hi, hs, e0, Result.andThen]) k
/-- An element of an array as a value, of several cells. -/
theorem s_indexVA {t e : TypeId} {alen sz j : Nat} {x ix : Operand} {cs vs : List Value} {kd : IntKind} {p : Int} [i : ArrayOf P t alen e sz] [ag : Aggr P e sz]
    (hx : ev fr x = .agg cs.toArray) (hix : ev fr ix = .int kd p) (hp : p = (j : Int)) (hlt : j < alen) (hv : (cs.drop (j * sz)).take sz = vs) (hd : Nat.blt d n = true)
    (k : WPL ro P B n ops rest (fr.put d (.agg vs.toArray)) H Q) : WPL ro P B n ops (⟨some d, .index t x ix, ty, pos, after, none⟩ :: rest) fr H Q := step_pure hd (fun w => by
    obtain ⟨hu, inf, hi, hs⟩ := i.eq
    obtain ⟨inf', ds, hi', hu', _, hds⟩ := ag.eq
    have : execOp (ev fr) ⟨some d, .index t x ix, ty, pos, after, none⟩ = (do Pure.pure (Next.value (← Instr.index t (ev fr x) (ev fr ix)))) := rfl
    subst hp hv
    have hagg : (isAgg e).run P w = .ok true w := by cases ds <;> first | exact hds.elim | simp [isAgg, run_underlying hu']
    rw [this, hx, hix]
    have e1 : cs.toArray.extract (j * sz) (j * sz + sz) = ((cs.drop (j * sz)).take sz).toArray := by
      rw [List.extract_toArray, List.extract_eq_take_drop, Nat.add_sub_cancel_left]
    simp [Instr.index, run_underlying hu, asIntOf, hlt, sizeOf, typeInfo, hi, hs, part, hagg, Result.andThen]) k
end
end Go.SL
