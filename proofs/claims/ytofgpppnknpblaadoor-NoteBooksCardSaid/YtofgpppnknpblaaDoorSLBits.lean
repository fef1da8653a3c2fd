/- Whole numbers of all kinds: sums, bits, shifts, conversions. No condition. -/
import Derived.Test.YtofgpppnknpblaaDoorSLArith
set_option linter.unusedSimpArgs false
set_option linter.unusedVariables false
namespace Go.SL
open Go Go.RowKit
theorem wrapU8 (n : Int) : IntKind.u8.wrap n = n % 256 := by simp [IntKind.wrap, IntKind.bits, IntKind.signed]
theorem wrapU16 (n : Int) : IntKind.u16.wrap n = n % 65536 := by simp [IntKind.wrap, IntKind.bits, IntKind.signed]
theorem wrapU32 (n : Int) : IntKind.u32.wrap n = n % 4294967296 := by simp [IntKind.wrap, IntKind.bits, IntKind.signed]
theorem wrapU64 (n : Int) : IntKind.u64.wrap n = n % 18446744073709551616 := by simp [IntKind.wrap, IntKind.bits, IntKind.signed]
theorem wrapI32 (n : Int) (h : -2147483648 ≤ n ∧ n ≤ 2147483647) : IntKind.i32.wrap n = n := by
  simp [IntKind.wrap, IntKind.bits, IntKind.signed]; omega
theorem wrapI64 (n : Int) (h : -9223372036854775808 ≤ n ∧ n ≤ 9223372036854775807) : IntKind.i64.wrap n = n := IntWalk.i64_in _ h
theorem intU8 {n : Int} (h : 0 ≤ n ∧ n < 256) : IntKind.u8.wrap n = n := by rw [wrapU8]; omega
theorem intU32 {n : Int} (h : 0 ≤ n ∧ n < 4294967296) : IntKind.u32.wrap n = n := by rw [wrapU32]; omega
theorem intU64 {n : Int} (h : 0 ≤ n ∧ n < 18446744073709551616) : IntKind.u64.wrap n = n := by rw [wrapU64]; omega
theorem intI64 {n : Int} (h : -9223372036854775808 ≤ n ∧ n ≤ 9223372036854775807) : IntKind.i64.wrap n = n := IntWalk.i64_in _ h
theorem intI32 {n : Int} (h : -2147483648 ≤ n ∧ n ≤ 2147483647) : IntKind.i32.wrap n = n := wrapI32 n h

/-- A type of whole numbers. -/
class IntTy (P : Program) (t : TypeId) (k : outParam IntKind) : Prop where
  eq : P.underlying t = some (.int k)
section
variable {ro : Option Nat} {P : Program} {B : World} {n : Nat} {ops : Array Oper} {rest : List Oper} {fr : Fr} {H : HProp} {Q : Post}
variable {d : Nat} {ty : TypeId} {pos : String} {after : Array Edge}
/-- A whole number of another kind. -/
theorem s_conv {t u : TypeId} {x : Operand} {k kd : IntKind} {p r : Int} [i : IntTy P t k] [j : IntTy P u kd] (hx : ev fr x = .int k p) (hr : kd.wrap p = r) (hd : Nat.blt d n = true)
    (k' : WPL ro P B n ops rest (fr.put d (.int kd r)) H Q) : WPL ro P B n ops (⟨some d, .convert t u x, ty, pos, after, none⟩ :: rest) fr H Q := step_pure hd (fun w => by
    have : execOp (ev fr) ⟨some d, .convert t u x, ty, pos, after, none⟩ = (do Pure.pure (Next.value (← convert t u (ev fr x)))) := rfl
    have e : P.intKind u = kd := by unfold Program.intKind; simp [j.eq]
    have h := run_convert_int (P := P) w t u k p (by rw [i.eq]; rfl) (by rw [j.eq, e])
    rw [e, hr] at h
    rw [this, hx]
    simp [h]) k'
theorem s_shl {t yt : TypeId} {x y : Operand} {kd yk : IntKind} {p q r : Int} (hx : ev fr x = .int kd p) (hy : ev fr y = .int yk q) (hq : 0 ≤ q) (hr : kd.wrap (p * 2 ^ (min q.toNat kd.bits)) = r)
    (hd : Nat.blt d n = true) (k : WPL ro P B n ops rest (fr.put d (.int kd r)) H Q) :
    WPL ro P B n ops (⟨some d, .binOp .shl t x y yt, ty, pos, after, none⟩ :: rest) fr H Q :=
  step_pure hd (fun w => by
    have : execOp (ev fr) ⟨some d, .binOp .shl t x y yt, ty, pos, after, none⟩ = (do Pure.pure (Next.value (← (do eqGuard .shl t x y (ev fr x) (ev fr y); binOp .shl t (ev fr x) (ev fr y))))) := rfl
    rw [this, hx, hy]
    subst hr
    have h0 : ¬ q < 0 := by omega
    simp [eqGuard_at_int, binOp_shl, Op.shift, h0]) k
theorem s_shr {t yt : TypeId} {x y : Operand} {kd yk : IntKind} {p q r : Int} (hx : ev fr x = .int kd p) (hy : ev fr y = .int yk q) (hq : 0 ≤ q) (hr : p.fdiv (2 ^ (min q.toNat kd.bits)) = r)
    (hd : Nat.blt d n = true) (k : WPL ro P B n ops rest (fr.put d (.int kd r)) H Q) :
    WPL ro P B n ops (⟨some d, .binOp .shr t x y yt, ty, pos, after, none⟩ :: rest) fr H Q :=
  step_pure hd (fun w => by
    have : execOp (ev fr) ⟨some d, .binOp .shr t x y yt, ty, pos, after, none⟩ = (do Pure.pure (Next.value (← (do eqGuard .shr t x y (ev fr x) (ev fr y); binOp .shr t (ev fr x) (ev fr y))))) := rfl
    rw [this, hx, hy]
    subst hr
    have h0 : ¬ q < 0 := by omega
    simp [eqGuard_at_int, binOp_shr, Op.shift, h0]) k
/-- Bits of numbers that are not below 0, and fit. -/
theorem bits_nat {kd : IntKind} {p : Int} (hp : 0 ≤ p ∧ p < 2 ^ kd.bits) : (BitVec.ofInt kd.bits p).toNat = p.toNat := by
  rw [BitVec.toNat_ofInt]
  congr 1
  exact Int.emod_eq_of_lt hp.1 (by exact_mod_cast hp.2)
theorem s_and {t yt : TypeId} {x y : Operand} {kd : IntKind} {p q : Int} {r : Nat} (hx : ev fr x = .int kd p) (hy : ev fr y = .int kd q) (hp : 0 ≤ p ∧ p < 2 ^ kd.bits) (hq : 0 ≤ q ∧ q < 2 ^ kd.bits) (hr : p.toNat &&& q.toNat = r) (hw : kd.wrap r = r)
    (hd : Nat.blt d n = true) (k : WPL ro P B n ops rest (fr.put d (.int kd (r : Int))) H Q) :
    WPL ro P B n ops (⟨some d, .binOp .and t x y yt, ty, pos, after, none⟩ :: rest) fr H Q :=
  s_bin hx hy (fun w => by
    subst hr
    simp only [binOp_and, Op.intBits, BitVec.toNat_and, bits_nat hp, bits_nat hq]
    simp only [Sem.run_pure, hw]) hd k
theorem s_or {t yt : TypeId} {x y : Operand} {kd : IntKind} {p q : Int} {r : Nat} (hx : ev fr x = .int kd p) (hy : ev fr y = .int kd q) (hp : 0 ≤ p ∧ p < 2 ^ kd.bits) (hq : 0 ≤ q ∧ q < 2 ^ kd.bits) (hr : p.toNat ||| q.toNat = r) (hw : kd.wrap r = r)
    (hd : Nat.blt d n = true) (k : WPL ro P B n ops rest (fr.put d (.int kd (r : Int))) H Q) :
    WPL ro P B n ops (⟨some d, .binOp .or t x y yt, ty, pos, after, none⟩ :: rest) fr H Q :=
  s_bin hx hy (fun w => by
    subst hr
    simp only [binOp_or, Op.intBits, BitVec.toNat_or, bits_nat hp, bits_nat hq]
    simp only [Sem.run_pure, hw]) hd k
/-- A function's value; a call of it. -/
theorem s_makeFunc {fn : Fn} {first cap : List Operand} {vs us : List Value} (hf : first.map (ev fr) = vs) (hc : cap.map (ev fr) = us) (hd : Nat.blt d n = true)
    (k : WPL ro P B n ops rest (fr.put d (.func fn vs.toArray us.toArray)) H Q) : WPL ro P B n ops (⟨some d, .makeFunc fn first.toArray cap.toArray, ty, pos, after, none⟩ :: rest) fr H Q :=
  step_pure hd (fun w => by
    subst hf hc
    have e : (Instr.makeFunc fn (first.map (ev fr)).toArray (cap.map (ev fr)).toArray).run P w = .ok (.func fn (first.map (ev fr)).toArray (cap.map (ev fr)).toArray) w := rfl
    simp [execOp, e]) k
theorem s_callV {x : Operand} {f : FuncId} {first cap : List Value} {args : List Operand} {tys : Array TypeId} {vs : List Value} {R : Value → HProp → Prop} [c : Callable P f] (hx : ev fr x = .func (.func f) first.toArray cap.toArray) (hargs : args.map (ev fr) = vs)
    (h : Does P B f (first ++ vs ++ cap) H R) (hd : Nat.blt d n = true) (k : ∀ v H', R v H' → WPL ro P B n ops rest (fr.put d v) H' Q) :
    WPL ro P B n ops (⟨some d, .call ⟨.value x, args.toArray, tys⟩, ty, pos, after, none⟩ :: rest) fr H Q := by
  intro a w hm hh
  obtain ⟨fn, cd, hf, hn, hb⟩ := c.eq
  unfold wpListIn
  rw [if_pos (by simp [Region.wanted])]
  refine ⟨fun f _ => trivial, ?_⟩
  rw [hm.eval]
  have hrun : (execOp (ev fr) ⟨some d, .call ⟨.value x, args.toArray, tys⟩, ty, pos, after, none⟩).run P w = .ok (.enter f (first ++ vs ++ cap).toArray) w := by
    subst hargs
    have hn' : fn.name ≠ "runtime.NumGoroutine" := by simpa using hn
    simp [execOp, resolve, hx, Deferred.ofValue, invoke, callFunc, hf, hn', hb]
  rw [semAt_of hrun (by simp), Oper.uponIn_enter]
  refine ⟨by simp [FW, Fence.wide], FW_calls.2 ((h w hh).mono ?_)⟩
  rintro e w' ⟨v, H', rfl, hh', hR⟩
  exact k v H' hR _ _ (hm.put (by simpa [Nat.blt_eq] using hd) v)  hh'
end
end Go.SL
