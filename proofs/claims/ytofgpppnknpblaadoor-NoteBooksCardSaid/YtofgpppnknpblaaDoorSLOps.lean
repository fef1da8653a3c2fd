/- The walk's rules for single operations. No condition. -/
import Derived.Test.YtofgpppnknpblaaDoorSLWp
set_option linter.unusedSimpArgs false
set_option linter.unusedVariables false
namespace Go.SL
open Go Go.RowKit

section
variable {ro : Option Nat} {P : Program} {B : World} {n : Nat} {ops : Array Oper} {rest : List Oper} {fr : Fr} {H : HProp} {Q : Post}
variable {d : Nat} {ty : TypeId} {pos : String} {after : Array Edge}

theorem semAt_of {ro : Option Nat} {ρ : Operand → Value} {o : Oper} {w w' : World} {r : Next} (h : (execOp ρ o).run P w = .ok r w') (hr : ∀ d, r ≠ .defer d) : (o.semAt ro ρ).run P w = .ok r w' := by
  by_cases hd : ∀ c, o.op ≠ .defer c
  · rw [Oper.semAt_eq ro ρ o hd]; exact h
  · exfalso
    obtain ⟨c, hc⟩ : ∃ c, o.op = .defer c := by
      cases ho : o.op <;> first | exact ⟨_, rfl⟩ | exact absurd (fun c e => by rw [ho] at e; cases e) hd
    obtain ⟨dst, op, ty, pos, after, g⟩ := o
    simp only at hc
    subst hc
    have e : execOp ρ ⟨dst, .defer c, ty, pos, after, g⟩ = (do Pure.pure (Next.defer (← resolve ρ c ty)) : Sem Next) := rfl
    rw [e] at h
    simp only [Sem.run_bind] at h
    cases hres : (resolve ρ c ty).run P w with
    | halt x w'' => rw [hres] at h; simp [Result.andThen] at h
    | ok x w'' => rw [hres] at h; simp [Result.andThen] at h; exact hr x h.1.symm
theorem step_val {op : Op} (hd : Nat.blt d n = true)
    (h : ∀ w, Holds B H w → ∃ v w' H', (execOp (ev fr) ⟨some d, op, ty, pos, after, none⟩).run P w = .ok (.value v) w' ∧ Holds B H' w' ∧ WPL ro P B n ops rest (fr.put d v) H' Q) :
    WPL ro P B n ops (⟨some d, op, ty, pos, after, none⟩ :: rest) fr H Q := by
  intro a w hm hh
  obtain ⟨v, w', H', hr, hh', hk⟩ := h w hh
  unfold wpListIn
  rw [if_pos (by simp [Region.wanted])]
  refine ⟨fun f _ => trivial, ?_⟩
  rw [hm.eval, semAt_of hr (by simp)]
  exact hk _ _ (hm.put (by simpa [Nat.blt_eq] using hd) v) hh'
/-- An operation that looks at no memory. -/
theorem step_pure {op : Op} {v : Value} (hd : Nat.blt d n = true) (hr : ∀ w, (execOp (ev fr) ⟨some d, op, ty, pos, after, none⟩).run P w = .ok (.value v) w)
    (k : WPL ro P B n ops rest (fr.put d v) H Q) : WPL ro P B n ops (⟨some d, op, ty, pos, after, none⟩ :: rest) fr H Q :=
  step_val hd fun w hw => ⟨v, w, H, hr w, hw, k⟩
/-- An operation that only looks. -/
theorem step_look {op : Op} {v : Value} (hd : Nat.blt d n = true) (hr : ∀ w, Holds B H w → (execOp (ev fr) ⟨some d, op, ty, pos, after, none⟩).run P w = .ok (.value v) w)
    (k : WPL ro P B n ops rest (fr.put d v) H Q) : WPL ro P B n ops (⟨some d, op, ty, pos, after, none⟩ :: rest) fr H Q :=
  step_val hd fun w hw => ⟨v, w, H, hr w hw, hw, k⟩
theorem step_act {op : Op}
    (h : ∀ w, Holds B H w → ∃ w' H', (execOp (ev fr) ⟨none, op, ty, pos, after, none⟩).run P w = .ok .skip w' ∧ Holds B H' w' ∧ WPL ro P B n ops rest fr H' Q) :
    WPL ro P B n ops (⟨none, op, ty, pos, after, none⟩ :: rest) fr H Q := by
  intro a w hm hh
  obtain ⟨w', H', hr, hh', hk⟩ := h w hh
  unfold wpListIn
  rw [if_pos (by simp [Region.wanted])]
  refine ⟨fun f _ => trivial, ?_⟩
  rw [hm.eval, semAt_of hr (by simp)]
  exact hk _ _ hm hh'

theorem yielded_of {j s : Nat} {b : Bool} {a : Act} (hm : Models n a fr) (hj : (ops[j]?).bind (·.dst) = some s) (hb : fr s = .bool b) : yielded ops a.tmps j = some b := by
  unfold yielded
  have hs := hm.slot s
  rw [hb] at hs
  rw [hj]
  simp only [Option.bind_some]
  cases ht : a.tmps[s]? with
  | none => simp [Array.getD_eq_getD_getElem?, ht, undef] at hs
  | some v =>
    have : v = .bool b := by simpa [Array.getD_eq_getD_getElem?, ht] using hs
    subst this; rfl
/-- A guarded operation that is wanted. -/
theorem step_wanted {dst : Option Nat} {op : Op} {j s : Nat} {want : Bool} (hj : (ops[j]?).bind (·.dst) = some s) (hb : fr s = .bool want)
    (k : WPL ro P B n ops (⟨dst, op, ty, pos, after, none⟩ :: rest) fr H Q) : WPL ro P B n ops (⟨dst, op, ty, pos, after, some (j, want)⟩ :: rest) fr H Q := by
  intro a w hm hh
  have hk := k a w hm hh
  have hy := yielded_of hm hj hb
  unfold wpListIn at hk ⊢
  rw [if_pos (by simp [Region.wanted])] at hk
  rw [if_pos (by simp [Region.wanted, hy])]
  exact hk
/-- A guarded operation that is not. -/
theorem step_unwanted {op : Op} {j s : Nat} {want b : Bool} (hj : (ops[j]?).bind (·.dst) = some s) (hb : fr s = .bool b) (hne : (b == want) = false) (hd : Nat.blt d n = true)
    (k : WPL ro P B n ops rest (fr.put d undef) H Q) : WPL ro P B n ops (⟨some d, op, ty, pos, after, some (j, want)⟩ :: rest) fr H Q := by
  intro a w hm hh
  have hy := yielded_of hm hj hb
  unfold wpListIn
  rw [if_neg (by simpa [Region.wanted, hy] using hne)]
  exact ⟨fun f _ => trivial, k _ _ (hm.put (by simpa [Nat.blt_eq] using hd) undef) hh⟩
theorem step_unwanted0 {op : Op} {j s : Nat} {want b : Bool} (hj : (ops[j]?).bind (·.dst) = some s) (hb : fr s = .bool b) (hne : (b == want) = false)
    (k : WPL ro P B n ops rest fr H Q) : WPL ro P B n ops (⟨none, op, ty, pos, after, some (j, want)⟩ :: rest) fr H Q := by
  intro a w hm hh
  have hy := yielded_of hm hj hb
  unfold wpListIn
  rw [if_neg (by simpa [Region.wanted, hy] using hne)]
  exact ⟨fun f _ => trivial, k _ _ hm hh⟩

theorem yielded_undef {j s : Nat} {a : Act} (hm : Models n a fr) (hj : (ops[j]?).bind (·.dst) = some s) (hb : fr s = undef) : yielded ops a.tmps j = none := by
  unfold yielded
  have hs := hm.slot s
  rw [hb] at hs
  rw [hj]
  simp only [Option.bind_some]
  cases ht : a.tmps[s]? with
  | none => rfl
  | some v =>
    have : v = undef := by simpa [Array.getD_eq_getD_getElem?, ht] using hs
    subst this; rfl
/-- An operation whose guard was not asked for itself. -/
theorem step_unwantedU {op : Op} {j s : Nat} {want : Bool} (hj : (ops[j]?).bind (·.dst) = some s) (hb : fr s = undef) (hd : Nat.blt d n = true)
    (k : WPL ro P B n ops rest (fr.put d undef) H Q) : WPL ro P B n ops (⟨some d, op, ty, pos, after, some (j, want)⟩ :: rest) fr H Q := by
  intro a w hm hh
  have hy := yielded_undef hm hj hb
  unfold wpListIn
  rw [if_neg (by simp [Region.wanted, hy])]
  exact ⟨fun f _ => trivial, k _ _ (hm.put (by simpa [Nat.blt_eq] using hd) undef) hh⟩
theorem step_unwantedU0 {op : Op} {j s : Nat} {want : Bool} (hj : (ops[j]?).bind (·.dst) = some s) (hb : fr s = undef)
    (k : WPL ro P B n ops rest fr H Q) : WPL ro P B n ops (⟨none, op, ty, pos, after, some (j, want)⟩ :: rest) fr H Q := by
  intro a w hm hh
  have hy := yielded_undef hm hj hb
  unfold wpListIn
  rw [if_neg (by simp [Region.wanted, hy])]
  exact ⟨fun f _ => trivial, k _ _ hm hh⟩

theorem s_move {x : Operand} {v : Value} (hx : ev fr x = v) (hd : Nat.blt d n = true) (k : WPL ro P B n ops rest (fr.put d v) H Q) :
    WPL ro P B n ops (⟨some d, .move x, ty, pos, after, none⟩ :: rest) fr H Q := step_pure hd (fun w => by simp [execOp, hx]) k
theorem s_assign {x : Operand} {v : Value} (hx : ev fr x = v) (hd : Nat.blt d n = true) (k : WPL ro P B n ops rest (fr.put d v) H Q) :
    WPL ro P B n ops (⟨some d, .assign x, ty, pos, after, none⟩ :: rest) fr H Q := step_pure hd (fun w => by simp [execOp, hx]) k
theorem s_pick_t {c x y : Operand} {v : Value} (hc : ev fr c = .bool true) (hx : ev fr x = v) (hd : Nat.blt d n = true) (k : WPL ro P B n ops rest (fr.put d v) H Q) :
    WPL ro P B n ops (⟨some d, .pick c x y, ty, pos, after, none⟩ :: rest) fr H Q := step_pure hd (fun w => by simp [execOp, hc, hx, asBool]) k
theorem s_pick_f {c x y : Operand} {v : Value} (hc : ev fr c = .bool false) (hy : ev fr y = v) (hd : Nat.blt d n = true) (k : WPL ro P B n ops rest (fr.put d v) H Q) :
    WPL ro P B n ops (⟨some d, .pick c x y, ty, pos, after, none⟩ :: rest) fr H Q := step_pure hd (fun w => by simp [execOp, hc, hy, asBool]) k
theorem s_not {x : Operand} {b c : Bool} {t : TypeId} (hx : ev fr x = .bool b) (hb : (!b) = c) (hd : Nat.blt d n = true) (k : WPL ro P B n ops rest (fr.put d (.bool c)) H Q) :
    WPL ro P B n ops (⟨some d, .unOp .not t x, ty, pos, after, none⟩ :: rest) fr H Q := step_pure hd (fun w => by subst hb; simp [execOp, hx, Op.unary]) k
theorem s_extract {x : Operand} {i : Nat} {l : List Value} {v : Value} (hx : ev fr x = .tuple l.toArray) (hi : l[i]? = some v) (hd : Nat.blt d n = true) (k : WPL ro P B n ops rest (fr.put d v) H Q) :
    WPL ro P B n ops (⟨some d, .extract x i, ty, pos, after, none⟩ :: rest) fr H Q :=
  step_pure hd (fun w => by
    have : execOp (ev fr) ⟨some d, .extract x i, ty, pos, after, none⟩ = (do Pure.pure (Next.value (← Instr.extract (ev fr x) i))) := rfl
    rw [this, hx]
    simp [Instr.extract, hi]) k

/-- Arithmetic of whole numbers. -/
theorem s_bin {op : BinOp} {t yt : TypeId} {x y : Operand} {kd : IntKind} {p q : Int} {v : Value} (hx : ev fr x = .int kd p) (hy : ev fr y = .int kd q)
    (hr : ∀ w, (binOp op t (.int kd p) (.int kd q)).run P w = .ok v w) (hd : Nat.blt d n = true) (k : WPL ro P B n ops rest (fr.put d v) H Q) :
    WPL ro P B n ops (⟨some d, .binOp op t x y yt, ty, pos, after, none⟩ :: rest) fr H Q :=
  step_pure hd (fun w => by
    have : execOp (ev fr) ⟨some d, .binOp op t x y yt, ty, pos, after, none⟩ = (do Pure.pure (Next.value (← (do eqGuard op t x y (ev fr x) (ev fr y); binOp op t (ev fr x) (ev fr y))))) := rfl
    rw [this, hx, hy]
    simp [eqGuard_at_int, hr]) k
theorem s_add {t yt : TypeId} {x y : Operand} {p q r : Int} (hx : ev fr x = .int .i64 p) (hy : ev fr y = .int .i64 q) (hr : p + q = r)
    (hb : -9223372036854775808 ≤ r ∧ r ≤ 9223372036854775807) (hd : Nat.blt d n = true) (k : WPL ro P B n ops rest (fr.put d (.int .i64 r)) H Q) :
    WPL ro P B n ops (⟨some d, .binOp .add t x y yt, ty, pos, after, none⟩ :: rest) fr H Q :=
  s_bin hx hy (fun w => by subst hr; simp [binOp_add, Op.intArith, IntWalk.i64_in _ hb]) hd k
theorem s_sub {t yt : TypeId} {x y : Operand} {p q r : Int} (hx : ev fr x = .int .i64 p) (hy : ev fr y = .int .i64 q) (hr : p - q = r)
    (hb : -9223372036854775808 ≤ r ∧ r ≤ 9223372036854775807) (hd : Nat.blt d n = true) (k : WPL ro P B n ops rest (fr.put d (.int .i64 r)) H Q) :
    WPL ro P B n ops (⟨some d, .binOp .sub t x y yt, ty, pos, after, none⟩ :: rest) fr H Q :=
  s_bin hx hy (fun w => by subst hr; simp [binOp_sub, Op.intArith, IntWalk.i64_in _ hb]) hd k
theorem s_mul {t yt : TypeId} {x y : Operand} {p q r : Int} (hx : ev fr x = .int .i64 p) (hy : ev fr y = .int .i64 q) (hr : p * q = r)
    (hb : -9223372036854775808 ≤ r ∧ r ≤ 9223372036854775807) (hd : Nat.blt d n = true) (k : WPL ro P B n ops rest (fr.put d (.int .i64 r)) H Q) :
    WPL ro P B n ops (⟨some d, .binOp .mul t x y yt, ty, pos, after, none⟩ :: rest) fr H Q :=
  s_bin hx hy (fun w => by subst hr; simp [binOp_mul, Op.intArith, IntWalk.i64_in _ hb]) hd k
theorem s_addw {t yt : TypeId} {x y : Operand} {kd : IntKind} {p q r : Int} (hx : ev fr x = .int kd p) (hy : ev fr y = .int kd q) (hr : kd.wrap (p + q) = r)
    (hd : Nat.blt d n = true) (k : WPL ro P B n ops rest (fr.put d (.int kd r)) H Q) :
    WPL ro P B n ops (⟨some d, .binOp .add t x y yt, ty, pos, after, none⟩ :: rest) fr H Q :=
  s_bin hx hy (fun w => by subst hr; simp [binOp_add, Op.intArith]) hd k
theorem s_subw {t yt : TypeId} {x y : Operand} {kd : IntKind} {p q r : Int} (hx : ev fr x = .int kd p) (hy : ev fr y = .int kd q) (hr : kd.wrap (p - q) = r)
    (hd : Nat.blt d n = true) (k : WPL ro P B n ops rest (fr.put d (.int kd r)) H Q) :
    WPL ro P B n ops (⟨some d, .binOp .sub t x y yt, ty, pos, after, none⟩ :: rest) fr H Q :=
  s_bin hx hy (fun w => by subst hr; simp [binOp_sub, Op.intArith]) hd k
theorem s_mulw {t yt : TypeId} {x y : Operand} {kd : IntKind} {p q r : Int} (hx : ev fr x = .int kd p) (hy : ev fr y = .int kd q) (hr : kd.wrap (p * q) = r)
    (hd : Nat.blt d n = true) (k : WPL ro P B n ops rest (fr.put d (.int kd r)) H Q) :
    WPL ro P B n ops (⟨some d, .binOp .mul t x y yt, ty, pos, after, none⟩ :: rest) fr H Q :=
  s_bin hx hy (fun w => by subst hr; simp [binOp_mul, Op.intArith]) hd k
theorem s_quo {t yt : TypeId} {x y : Operand} {kd : IntKind} {p q r : Int} (hx : ev fr x = .int kd p) (hy : ev fr y = .int kd q) (hq : q ≠ 0) (hr : kd.wrap (p.tdiv q) = r)
    (hd : Nat.blt d n = true) (k : WPL ro P B n ops rest (fr.put d (.int kd r)) H Q) :
    WPL ro P B n ops (⟨some d, .binOp .quo t x y yt, ty, pos, after, none⟩ :: rest) fr H Q :=
  s_bin hx hy (fun w => by subst hr; simp [binOp_quo, Op.intDiv, hq]) hd k
theorem s_rem {t yt : TypeId} {x y : Operand} {kd : IntKind} {p q r : Int} (hx : ev fr x = .int kd p) (hy : ev fr y = .int kd q) (hq : q ≠ 0) (hr : p.tmod q = r)
    (hd : Nat.blt d n = true) (k : WPL ro P B n ops rest (fr.put d (.int kd r)) H Q) :
    WPL ro P B n ops (⟨some d, .binOp .rem t x y yt, ty, pos, after, none⟩ :: rest) fr H Q :=
  s_bin hx hy (fun w => by subst hr; simp [binOp_rem, Op.intDiv, hq]) hd k
/-- Comparisons: the answer as a test; known to hold; known not to; either. -/
theorem s_lss {t yt : TypeId} {x y : Operand} {kd : IntKind} {p q : Int} {b : Bool} (hx : ev fr x = .int kd p) (hy : ev fr y = .int kd q) (hr : decide (p < q) = b)
    (hd : Nat.blt d n = true) (k : WPL ro P B n ops rest (fr.put d (.bool b)) H Q) :
    WPL ro P B n ops (⟨some d, .binOp .lss t x y yt, ty, pos, after, none⟩ :: rest) fr H Q :=
  s_bin hx hy (fun w => by subst hr; simp [binOp_lss]) hd k
theorem s_leq {t yt : TypeId} {x y : Operand} {kd : IntKind} {p q : Int} {b : Bool} (hx : ev fr x = .int kd p) (hy : ev fr y = .int kd q) (hr : decide (p ≤ q) = b)
    (hd : Nat.blt d n = true) (k : WPL ro P B n ops rest (fr.put d (.bool b)) H Q) :
    WPL ro P B n ops (⟨some d, .binOp .leq t x y yt, ty, pos, after, none⟩ :: rest) fr H Q :=
  s_bin hx hy (fun w => by subst hr; simp [binOp_leq]) hd k
theorem s_gtr {t yt : TypeId} {x y : Operand} {kd : IntKind} {p q : Int} {b : Bool} (hx : ev fr x = .int kd p) (hy : ev fr y = .int kd q) (hr : decide (q < p) = b)
    (hd : Nat.blt d n = true) (k : WPL ro P B n ops rest (fr.put d (.bool b)) H Q) :
    WPL ro P B n ops (⟨some d, .binOp .gtr t x y yt, ty, pos, after, none⟩ :: rest) fr H Q :=
  s_bin hx hy (fun w => by subst hr; simp [binOp_gtr]) hd k
theorem s_geq {t yt : TypeId} {x y : Operand} {kd : IntKind} {p q : Int} {b : Bool} (hx : ev fr x = .int kd p) (hy : ev fr y = .int kd q) (hr : decide (q ≤ p) = b)
    (hd : Nat.blt d n = true) (k : WPL ro P B n ops rest (fr.put d (.bool b)) H Q) :
    WPL ro P B n ops (⟨some d, .binOp .geq t x y yt, ty, pos, after, none⟩ :: rest) fr H Q :=
  s_bin hx hy (fun w => by subst hr; simp [binOp_geq]) hd k
theorem s_eql {t yt : TypeId} {x y : Operand} {kd : IntKind} {p q : Int} {b : Bool} (hx : ev fr x = .int kd p) (hy : ev fr y = .int kd q) (hr : decide (p = q) = b)
    (hd : Nat.blt d n = true) (k : WPL ro P B n ops rest (fr.put d (.bool b)) H Q) :
    WPL ro P B n ops (⟨some d, .binOp .eql t x y yt, ty, pos, after, none⟩ :: rest) fr H Q :=
  s_bin hx hy (fun w => by
    subst hr; rw [binOp_eql, show (p == q) = decide (p = q) from by by_cases h : p = q <;> simp [h]]; rfl) hd k
theorem s_neq {t yt : TypeId} {x y : Operand} {kd : IntKind} {p q : Int} {b : Bool} (hx : ev fr x = .int kd p) (hy : ev fr y = .int kd q) (hr : decide (p ≠ q) = b)
    (hd : Nat.blt d n = true) (k : WPL ro P B n ops rest (fr.put d (.bool b)) H Q) :
    WPL ro P B n ops (⟨some d, .binOp .neq t x y yt, ty, pos, after, none⟩ :: rest) fr H Q :=
  s_bin hx hy (fun w => by
    subst hr; rw [binOp_neq, show (p != q) = decide (p ≠ q) from by by_cases h : p = q <;> simp [h]]; rfl) hd k
theorem s_lss_t {t yt : TypeId} {x y : Operand} {kd : IntKind} {p q : Int} (hx : ev fr x = .int kd p) (hy : ev fr y = .int kd q) (h : p < q)
    (hd : Nat.blt d n = true) (k : WPL ro P B n ops rest (fr.put d (.bool true)) H Q) :
    WPL ro P B n ops (⟨some d, .binOp .lss t x y yt, ty, pos, after, none⟩ :: rest) fr H Q := s_lss hx hy (decide_eq_true h) hd k
theorem s_lss_f {t yt : TypeId} {x y : Operand} {kd : IntKind} {p q : Int} (hx : ev fr x = .int kd p) (hy : ev fr y = .int kd q) (h : ¬ (p < q))
    (hd : Nat.blt d n = true) (k : WPL ro P B n ops rest (fr.put d (.bool false)) H Q) :
    WPL ro P B n ops (⟨some d, .binOp .lss t x y yt, ty, pos, after, none⟩ :: rest) fr H Q := s_lss hx hy (decide_eq_false h) hd k
theorem s_lss_if {t yt : TypeId} {x y : Operand} {kd : IntKind} {p q : Int} (hx : ev fr x = .int kd p) (hy : ev fr y = .int kd q)
    (hd : Nat.blt d n = true) (k : p < q → WPL ro P B n ops rest (fr.put d (.bool true)) H Q) (k' : ¬ (p < q) → WPL ro P B n ops rest (fr.put d (.bool false)) H Q) :
    WPL ro P B n ops (⟨some d, .binOp .lss t x y yt, ty, pos, after, none⟩ :: rest) fr H Q := by
  by_cases h : p < q
  · exact s_lss_t hx hy h hd (k h)
  · exact s_lss_f hx hy h hd (k' h)
theorem s_leq_t {t yt : TypeId} {x y : Operand} {kd : IntKind} {p q : Int} (hx : ev fr x = .int kd p) (hy : ev fr y = .int kd q) (h : p ≤ q)
    (hd : Nat.blt d n = true) (k : WPL ro P B n ops rest (fr.put d (.bool true)) H Q) :
    WPL ro P B n ops (⟨some d, .binOp .leq t x y yt, ty, pos, after, none⟩ :: rest) fr H Q := s_leq hx hy (decide_eq_true h) hd k
theorem s_leq_f {t yt : TypeId} {x y : Operand} {kd : IntKind} {p q : Int} (hx : ev fr x = .int kd p) (hy : ev fr y = .int kd q) (h : ¬ (p ≤ q))
    (hd : Nat.blt d n = true) (k : WPL ro P B n ops rest (fr.put d (.bool false)) H Q) :
    WPL ro P B n ops (⟨some d, .binOp .leq t x y yt, ty, pos, after, none⟩ :: rest) fr H Q := s_leq hx hy (decide_eq_false h) hd k
theorem s_leq_if {t yt : TypeId} {x y : Operand} {kd : IntKind} {p q : Int} (hx : ev fr x = .int kd p) (hy : ev fr y = .int kd q)
    (hd : Nat.blt d n = true) (k : p ≤ q → WPL ro P B n ops rest (fr.put d (.bool true)) H Q) (k' : ¬ (p ≤ q) → WPL ro P B n ops rest (fr.put d (.bool false)) H Q) :
    WPL ro P B n ops (⟨some d, .binOp .leq t x y yt, ty, pos, after, none⟩ :: rest) fr H Q := by
  by_cases h : p ≤ q
  · exact s_leq_t hx hy h hd (k h)
  · exact s_leq_f hx hy h hd (k' h)
theorem s_gtr_t {t yt : TypeId} {x y : Operand} {kd : IntKind} {p q : Int} (hx : ev fr x = .int kd p) (hy : ev fr y = .int kd q) (h : q < p)
    (hd : Nat.blt d n = true) (k : WPL ro P B n ops rest (fr.put d (.bool true)) H Q) :
    WPL ro P B n ops (⟨some d, .binOp .gtr t x y yt, ty, pos, after, none⟩ :: rest) fr H Q := s_gtr hx hy (decide_eq_true h) hd k
theorem s_gtr_f {t yt : TypeId} {x y : Operand} {kd : IntKind} {p q : Int} (hx : ev fr x = .int kd p) (hy : ev fr y = .int kd q) (h : ¬ (q < p))
    (hd : Nat.blt d n = true) (k : WPL ro P B n ops rest (fr.put d (.bool false)) H Q) :
    WPL ro P B n ops (⟨some d, .binOp .gtr t x y yt, ty, pos, after, none⟩ :: rest) fr H Q := s_gtr hx hy (decide_eq_false h) hd k
theorem s_gtr_if {t yt : TypeId} {x y : Operand} {kd : IntKind} {p q : Int} (hx : ev fr x = .int kd p) (hy : ev fr y = .int kd q)
    (hd : Nat.blt d n = true) (k : q < p → WPL ro P B n ops rest (fr.put d (.bool true)) H Q) (k' : ¬ (q < p) → WPL ro P B n ops rest (fr.put d (.bool false)) H Q) :
    WPL ro P B n ops (⟨some d, .binOp .gtr t x y yt, ty, pos, after, none⟩ :: rest) fr H Q := by
  by_cases h : q < p
  · exact s_gtr_t hx hy h hd (k h)
  · exact s_gtr_f hx hy h hd (k' h)
theorem s_geq_t {t yt : TypeId} {x y : Operand} {kd : IntKind} {p q : Int} (hx : ev fr x = .int kd p) (hy : ev fr y = .int kd q) (h : q ≤ p)
    (hd : Nat.blt d n = true) (k : WPL ro P B n ops rest (fr.put d (.bool true)) H Q) :
    WPL ro P B n ops (⟨some d, .binOp .geq t x y yt, ty, pos, after, none⟩ :: rest) fr H Q := s_geq hx hy (decide_eq_true h) hd k
theorem s_geq_f {t yt : TypeId} {x y : Operand} {kd : IntKind} {p q : Int} (hx : ev fr x = .int kd p) (hy : ev fr y = .int kd q) (h : ¬ (q ≤ p))
    (hd : Nat.blt d n = true) (k : WPL ro P B n ops rest (fr.put d (.bool false)) H Q) :
    WPL ro P B n ops (⟨some d, .binOp .geq t x y yt, ty, pos, after, none⟩ :: rest) fr H Q := s_geq hx hy (decide_eq_false h) hd k
theorem s_geq_if {t yt : TypeId} {x y : Operand} {kd : IntKind} {p q : Int} (hx : ev fr x = .int kd p) (hy : ev fr y = .int kd q)
    (hd : Nat.blt d n = true) (k : q ≤ p → WPL ro P B n ops rest (fr.put d (.bool true)) H Q) (k' : ¬ (q ≤ p) → WPL ro P B n ops rest (fr.put d (.bool false)) H Q) :
    WPL ro P B n ops (⟨some d, .binOp .geq t x y yt, ty, pos, after, none⟩ :: rest) fr H Q := by
  by_cases h : q ≤ p
  · exact s_geq_t hx hy h hd (k h)
  · exact s_geq_f hx hy h hd (k' h)
theorem s_eql_t {t yt : TypeId} {x y : Operand} {kd : IntKind} {p q : Int} (hx : ev fr x = .int kd p) (hy : ev fr y = .int kd q) (h : p = q)
    (hd : Nat.blt d n = true) (k : WPL ro P B n ops rest (fr.put d (.bool true)) H Q) :
    WPL ro P B n ops (⟨some d, .binOp .eql t x y yt, ty, pos, after, none⟩ :: rest) fr H Q := s_eql hx hy (decide_eq_true h) hd k
theorem s_eql_f {t yt : TypeId} {x y : Operand} {kd : IntKind} {p q : Int} (hx : ev fr x = .int kd p) (hy : ev fr y = .int kd q) (h : ¬ (p = q))
    (hd : Nat.blt d n = true) (k : WPL ro P B n ops rest (fr.put d (.bool false)) H Q) :
    WPL ro P B n ops (⟨some d, .binOp .eql t x y yt, ty, pos, after, none⟩ :: rest) fr H Q := s_eql hx hy (decide_eq_false h) hd k
theorem s_eql_if {t yt : TypeId} {x y : Operand} {kd : IntKind} {p q : Int} (hx : ev fr x = .int kd p) (hy : ev fr y = .int kd q)
    (hd : Nat.blt d n = true) (k : p = q → WPL ro P B n ops rest (fr.put d (.bool true)) H Q) (k' : ¬ (p = q) → WPL ro P B n ops rest (fr.put d (.bool false)) H Q) :
    WPL ro P B n ops (⟨some d, .binOp .eql t x y yt, ty, pos, after, none⟩ :: rest) fr H Q := by
  by_cases h : p = q
  · exact s_eql_t hx hy h hd (k h)
  · exact s_eql_f hx hy h hd (k' h)
theorem s_neq_t {t yt : TypeId} {x y : Operand} {kd : IntKind} {p q : Int} (hx : ev fr x = .int kd p) (hy : ev fr y = .int kd q) (h : p ≠ q)
    (hd : Nat.blt d n = true) (k : WPL ro P B n ops rest (fr.put d (.bool true)) H Q) :
    WPL ro P B n ops (⟨some d, .binOp .neq t x y yt, ty, pos, after, none⟩ :: rest) fr H Q := s_neq hx hy (decide_eq_true h) hd k
theorem s_neq_f {t yt : TypeId} {x y : Operand} {kd : IntKind} {p q : Int} (hx : ev fr x = .int kd p) (hy : ev fr y = .int kd q) (h : ¬ (p ≠ q))
    (hd : Nat.blt d n = true) (k : WPL ro P B n ops rest (fr.put d (.bool false)) H Q) :
    WPL ro P B n ops (⟨some d, .binOp .neq t x y yt, ty, pos, after, none⟩ :: rest) fr H Q := s_neq hx hy (decide_eq_false h) hd k
theorem s_neq_if {t yt : TypeId} {x y : Operand} {kd : IntKind} {p q : Int} (hx : ev fr x = .int kd p) (hy : ev fr y = .int kd q)
    (hd : Nat.blt d n = true) (k : p ≠ q → WPL ro P B n ops rest (fr.put d (.bool true)) H Q) (k' : ¬ (p ≠ q) → WPL ro P B n ops rest (fr.put d (.bool false)) H Q) :
    WPL ro P B n ops (⟨some d, .binOp .neq t x y yt, ty, pos, after, none⟩ :: rest) fr H Q := by
  by_cases h : p ≠ q
  · exact s_neq_t hx hy h hd (k h)
  · exact s_neq_f hx hy h hd (k' h)

/-- Facts on a program's types. -/
class UnderPtr (P : Program) (t : TypeId) : Prop where
  eq : P.underlying t = some (.pointer (P.pointee t))
class UnderBool (P : Program) (t : TypeId) : Prop where
  eq : P.underlying t = some .bool
class FieldOff (P : Program) (t : TypeId) (f : Nat) (o : outParam Nat) : Prop where
  eq : ∃ fs, P.underlying t = some (.struct fs) ∧ ∃ x, fs[f]? = some x ∧ x.offset = o ∧ 0 < ((P.info? x.type).map (·.size)).getD 0
class SliceOf (P : Program) (t : TypeId) (e : outParam TypeId) (sz bytes : outParam Nat) (z : outParam (List Value)) : Prop where
  eq : P.underlying t = some (.slice e) ∧ ∃ i zv, P.info? e = some i ∧ i.size = sz ∧ i.bytes = bytes ∧ i.zero = some zv ∧ zv.cells = z.toArray ∧ z.length = sz
class ArrayOf (P : Program) (t : TypeId) (len : outParam Nat) (e : outParam TypeId) (sz : outParam Nat) : Prop where
  eq : P.underlying t = some (.array len e) ∧ ∃ i, P.info? e = some i ∧ i.size = sz
class Plain (P : Program) (t : TypeId) : Prop where
  eq : ∃ i ds, P.info? t = some i ∧ P.underlying t = some ds ∧ i.size = 1 ∧ (match ds with | .struct _ | .array _ _ => False | _ => True)
class Aggr (P : Program) (t : TypeId) (sz : outParam Nat) : Prop where
  eq : ∃ i ds, P.info? t = some i ∧ P.underlying t = some ds ∧ i.size = sz ∧ (match ds with | .struct _ | .array _ _ => True | _ => False)
class ZeroOf (P : Program) (t : TypeId) (cs : outParam (List Value)) : Prop where
  eq : ∃ i z, P.info? t = some i ∧ i.zero = some z ∧ z.cells = cs.toArray
class Callable (P : Program) (f : FuncId) : Prop where
  eq : ∃ fn c, P.funcs[f]? = some fn ∧ (fn.name == "runtime.NumGoroutine") = false ∧ fn.body = some c

theorem FieldOff.of {t : TypeId} {f o : Nat} (h : (match P.underlying t with
    | some (.struct fs) => (fs[f]?).bind fun x => if 0 < ((P.info? x.type).map (·.size)).getD 0 then some x.offset else none
    | _ => none) = some o) : FieldOff P t f o := ⟨by
  split at h
  · rename_i fs hu
    cases hx : fs[f]? with
    | none => rw [hx] at h; cases h
    | some x =>
      rw [hx] at h
      simp only [Option.bind_some] at h
      split at h
      · rename_i hs; cases h; exact ⟨fs, hu, x, hx, rfl, hs⟩
      · cases h
  · cases h⟩
theorem SliceOf.of {t e : TypeId} {sz b : Nat} {z : List Value} (h : P.underlying t = some (.slice e)) (h2 : (P.info? e).map (fun i => (i.size, i.bytes, i.zero.map (·.cells))) = some (sz, b, some z.toArray))
    (h3 : z.length = sz) : SliceOf P t e sz b z := ⟨h, by
  cases hi : P.info? e with
  | none => rw [hi] at h2; cases h2
  | some i =>
    rw [hi] at h2
    simp only [Option.map_some, Option.some.injEq, Prod.mk.injEq] at h2
    obtain ⟨h4, h5, h6⟩ := h2
    cases hz : i.zero with
    | none => rw [hz] at h6; cases h6
    | some zv => rw [hz] at h6; exact ⟨i, zv, rfl, h4, h5, hz, by simpa using h6, h3⟩⟩
theorem ArrayOf.of {t e : TypeId} {len sz : Nat} (h : P.underlying t = some (.array len e)) (h2 : (P.info? e).map (·.size) = some sz) : ArrayOf P t len e sz := ⟨h, by
  cases hi : P.info? e with
  | none => rw [hi] at h2; cases h2
  | some i => rw [hi] at h2; exact ⟨i, rfl, by simpa using h2⟩⟩
theorem Plain.of {t : TypeId} (h : (P.info? t).map (·.size) = some 1) (h2 : (match P.underlying t with | some (.struct _) | some (.array _ _) | none => false | _ => true) = true) : Plain P t := ⟨by
  cases hi : P.info? t with
  | none => rw [hi] at h; cases h
  | some i =>
    rw [hi] at h
    cases hu : P.underlying t with
    | none => rw [hu] at h2; cases h2
    | some ds =>
      rw [hu] at h2
      refine ⟨i, ds, rfl, rfl, by simpa using h, ?_⟩
      cases ds <;> first | trivial | cases h2⟩
theorem Aggr.of {t : TypeId} {sz : Nat} (h : (P.info? t).map (·.size) = some sz) (h2 : (match P.underlying t with | some (.struct _) | some (.array _ _) => true | _ => false) = true) : Aggr P t sz := ⟨by
  cases hi : P.info? t with
  | none => rw [hi] at h; cases h
  | some i =>
    rw [hi] at h
    cases hu : P.underlying t with
    | none => rw [hu] at h2; cases h2
    | some ds =>
      rw [hu] at h2
      refine ⟨i, ds, rfl, rfl, by simpa using h, ?_⟩
      cases ds <;> first | trivial | cases h2⟩
theorem ZeroOf.of {t : TypeId} {cs : List Value} (h : (P.info? t).map (fun i => i.zero.map (·.cells)) = some (some cs.toArray)) : ZeroOf P t cs := ⟨by
  cases hi : P.info? t with
  | none => rw [hi] at h; cases h
  | some i =>
    rw [hi] at h
    cases hz : i.zero with
    | none => simp [hz] at h
    | some z => exact ⟨i, z, rfl, hz, by simpa [hz] using h⟩⟩
theorem Callable.of {f : FuncId} (h : (P.funcs[f]?).map (fun fn => (fn.name == "runtime.NumGoroutine", fn.body.isSome)) = some (false, true)) : Callable P f := ⟨by
  cases hf : P.funcs[f]? with
  | none => rw [hf] at h; cases h
  | some fn =>
    rw [hf] at h
    simp only [Option.map_some, Option.some.injEq, Prod.mk.injEq] at h
    cases hb : fn.body with
    | none => rw [hb] at h; simp at h
    | some c => exact ⟨fn, c, rfl, h.1, hb⟩⟩

theorem s_eqbool {t yt : TypeId} [u : UnderBool P t] {x y : Operand} {p q b : Bool} (hx : ev fr x = .bool p) (hy : ev fr y = .bool q) (hr : (p == q) = b)
    (hd : Nat.blt d n = true) (k : WPL ro P B n ops rest (fr.put d (.bool b)) H Q) :
    WPL ro P B n ops (⟨some d, .binOp .eql t x y yt, ty, pos, after, none⟩ :: rest) fr H Q :=
  step_pure hd (fun w => by
    have : execOp (ev fr) ⟨some d, .binOp .eql t x y yt, ty, pos, after, none⟩ = (do Pure.pure (Next.value (← (do eqGuard .eql t x y (ev fr x) (ev fr y); binOp .eql t (ev fr x) (ev fr y))))) := rfl
    rw [this, hx, hy]
    subst hr
    simp [eqGuard_at_bool, run_eql_bool w t p q u.eq]) k
theorem s_nebool {t yt : TypeId} [u : UnderBool P t] {x y : Operand} {p q b : Bool} (hx : ev fr x = .bool p) (hy : ev fr y = .bool q) (hr : (!(p == q)) = b)
    (hd : Nat.blt d n = true) (k : WPL ro P B n ops rest (fr.put d (.bool b)) H Q) :
    WPL ro P B n ops (⟨some d, .binOp .neq t x y yt, ty, pos, after, none⟩ :: rest) fr H Q :=
  step_pure hd (fun w => by
    have : execOp (ev fr) ⟨some d, .binOp .neq t x y yt, ty, pos, after, none⟩ = (do Pure.pure (Next.value (← (do eqGuard .neq t x y (ev fr x) (ev fr y); binOp .neq t (ev fr x) (ev fr y))))) := rfl
    rw [this, hx, hy]
    subst hr
    simp [eqGuard_at_bool, run_neq_bool w t p q u.eq]) k
/-- A pointer against nil. -/
theorem s_eqnil {t yt : TypeId} [u : UnderPtr P t] {x y : Operand} {p : Option Addr} {b : Bool} (hx : ev fr x = .pointer p) (hy : ev fr y = .pointer none) (hr : p.isNone = b)
    (hd : Nat.blt d n = true) (k : WPL ro P B n ops rest (fr.put d (.bool b)) H Q) :
    WPL ro P B n ops (⟨some d, .binOp .eql t x y yt, ty, pos, after, none⟩ :: rest) fr H Q :=
  step_pure hd (fun w => by
    have : execOp (ev fr) ⟨some d, .binOp .eql t x y yt, ty, pos, after, none⟩ = (do Pure.pure (Next.value (← (do eqGuard .eql t x y (ev fr x) (ev fr y); binOp .eql t (ev fr x) (ev fr y))))) := rfl
    rw [this, hx, hy]
    subst hr
    simp [eqGuard_at_pointer, run_eql_pointer_nil w t p u.eq]) k
theorem s_nenil {t yt : TypeId} [u : UnderPtr P t] {x y : Operand} {p : Option Addr} {b : Bool} (hx : ev fr x = .pointer p) (hy : ev fr y = .pointer none) (hr : (!p.isNone) = b)
    (hd : Nat.blt d n = true) (k : WPL ro P B n ops rest (fr.put d (.bool b)) H Q) :
    WPL ro P B n ops (⟨some d, .binOp .neq t x y yt, ty, pos, after, none⟩ :: rest) fr H Q :=
  step_pure hd (fun w => by
    have : execOp (ev fr) ⟨some d, .binOp .neq t x y yt, ty, pos, after, none⟩ = (do Pure.pure (Next.value (← (do eqGuard .neq t x y (ev fr x) (ev fr y); binOp .neq t (ev fr x) (ev fr y))))) := rfl
    rw [this, hx, hy]
    subst hr
    simp [eqGuard_at_pointer, run_neq_pointer_nil w t p u.eq]) k
theorem s_nilCheck {x : Operand} {a : Addr} (hx : ev fr x = .pointer (some a)) (hd : Nat.blt d n = true) (k : WPL ro P B n ops rest (fr.put d (.pointer (some a))) H Q) :
    WPL ro P B n ops (⟨some d, .nilCheck x, ty, pos, after, none⟩ :: rest) fr H Q := step_pure hd (fun w => by simp [execOp, hx]) k
end
end Go.SL
