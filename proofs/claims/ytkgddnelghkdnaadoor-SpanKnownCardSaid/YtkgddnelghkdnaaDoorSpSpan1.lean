/- Spans: of milliseconds, sums, and milliseconds of spans. No condition. -/
import Derived.Test.YtkgddnelghkdnaaDoorSpInst
import Derived.Test.YtkgddnelghkdnaaDoorSL3
import Derived.Test.YtkgddnelghkdnaaDoorSL2
import Derived.Test.YtkgddnelghkdnaaDoorSL4
namespace Go.Proofs.YtkgddnelghkdnaaDoor
open Go Go.SL Go.SL.Flo
set_option linter.unusedSimpArgs false
set_option linter.unusedVariables false
set_option maxRecDepth 10000
set_option maxHeartbeats 2000000
instance : FltTy Tryd.prog 22 := ⟨by kernel_rfl⟩
instance : SomeTy Tryd.prog 2 := ⟨by kernel_rfl⟩
open Classical in
/-- What the span of a double is answered as. -/
noncomputable def nanV (b : Nat) : Value := if FGood b then .tuple #[.int .i64 (nanosR (b % 2 ^ 63) : Nat), .int .i64 0] else .tuple #[.int .i64 0, .int .i64 10]
theorem nanV_good {b : Nat} (h : FGood b) : nanV b = .tuple #[.int .i64 (nanosR (b % 2 ^ 63) : Nat), .int .i64 0] := by unfold nanV; rw [if_pos h]
theorem nanV_bad {b : Nat} (h : ¬ FGood b) : nanV b = .tuple #[.int .i64 0, .int .i64 10] := by unfold nanV; rw [if_neg h]
def clampI (n : Int) : Int := min (max 0 n) 4611686018427387904
/-- The document's test of a digit. -/
def exB (m r : Nat) : Bool := if c53 ≤ r then decide (m ≤ V r / 2 ^ e0) else decide (fl m ≤ r)
theorem exB_eq {m p : Nat} (hp : p < c62) (hm : m ≤ 2 ^ 62) : (decide (fl m ≤ p) && exB m p) = decide (m ≤ V p / 2 ^ e0) := by
  have h := digit_test hp hm
  unfold exB
  by_cases hc : c53 ≤ p
  · rw [if_pos hc] at h ⊢
    rw [← Bool.decide_and]
    exact decide_eq_decide.2 h
  · rw [if_neg hc] at h ⊢
    rw [← Bool.decide_and]
    exact decide_eq_decide.2 h
theorem top62 : (2 : Nat) ^ 62 = 4611686018427387904 := by decide
attribute [local irreducible] WP WPL QSeq QBlk QRet Does Cell Cells Rd Mine Ent Aside RV e0
section
variable {B : World} {F H : HProp} {b p : Nat} {n : Int}
theorem isNaN_spec {r : Bool} (hr : cmpOf .neq (D.order b b) = r) : Does Tryd.prog B 38 [flt b] H fun r' H' => H' = H ∧ r' = .bool r := by
  refine fn_intro 6 Tryd.func38 rfl rfl rfl ?_
  refine walk ?_
  refine s_fcmp (op := .neq) rfl rfl rfl hr rfl ?_
  refine walk ?_
  (first | refine ret1 (v := .bool _) (.inr rfl) rfl rfl ?_ | refine ret1  (.inr rfl) rfl rfl ?_ | refine ret1 (v := .bool _) (.inl rfl) rfl rfl ?_ | refine ret1  (.inl rfl) rfl rfl ?_)
  exact ⟨rfl, rfl⟩
theorem bad_good (h : FGood b) : Does Tryd.prog B 27 [flt b] H fun r H' => H' = H ∧ r = .bool false := by
  have h1 : cmpOf .neq (D.order b b) = false := by rw [cmp_neq h h]; simp
  have h2 : cmpOf .lss (D.order b 0) = false := by rw [cmp_lss h good0]; simp
  refine fn_intro 9 Tryd.func27 rfl rfl rfl ?_
  refine walk ?_
  refine s_call rfl (isNaN_spec h1) rfl ?_
  rintro _ _ ⟨e_, rfl⟩
  obtain rfl := e_.symm
  refine walk ?_
  refine s_fcmp (op := .lss) rfl rfl rfl h2 rfl ?_
  refine walk ?_
  (first | refine ret1 (v := .bool _) (.inr rfl) rfl rfl ?_ | refine ret1  (.inr rfl) rfl rfl ?_ | refine ret1 (v := .bool _) (.inl rfl) rfl rfl ?_ | refine ret1  (.inl rfl) rfl rfl ?_)
  exact ⟨rfl, rfl⟩
theorem bad_bad (hb : b < 2 ^ 64) (h : ¬ FGood b) : Does Tryd.prog B 27 [flt b] H fun r H' => H' = H ∧ r = .bool true := by
  obtain ⟨_, h1 | ⟨h1, h2⟩⟩ := bad_word hb h
  · refine fn_intro 9 Tryd.func27 rfl rfl rfl ?_
    refine walk ?_
    refine s_call rfl (isNaN_spec h1) rfl ?_
    rintro _ _ ⟨e_, rfl⟩
    obtain rfl := e_.symm
    refine walk ?_
    (first | refine ret1 (v := .bool _) (.inr rfl) rfl rfl ?_ | refine ret1  (.inr rfl) rfl rfl ?_ | refine ret1 (v := .bool _) (.inl rfl) rfl rfl ?_ | refine ret1  (.inl rfl) rfl rfl ?_)
    exact ⟨rfl, rfl⟩
  · refine fn_intro 9 Tryd.func27 rfl rfl rfl ?_
    refine walk ?_
    refine s_call rfl (isNaN_spec h1) rfl ?_
    rintro _ _ ⟨e_, rfl⟩
    obtain rfl := e_.symm
    refine walk ?_
    refine s_fcmp (op := .lss) rfl rfl rfl h2 rfl ?_
    refine walk ?_
    (first | refine ret1 (v := .bool _) (.inr rfl) rfl rfl ?_ | refine ret1  (.inr rfl) rfl rfl ?_ | refine ret1 (v := .bool _) (.inl rfl) rfl rfl ?_ | refine ret1  (.inl rfl) rfl rfl ?_)
    exact ⟨rfl, rfl⟩
theorem nanos_good (h : FGood b) : Does Tryd.prog B 8 [flt b] H fun r H' => H' = H ∧ r = nanV b := by
  rw [nanV_good h]
  obtain ⟨p, hm, hp, hpm⟩ := mul_c6 h
  have hcmp := cmp_geq hp good62
  rw [hpm, mod62] at hcmp
  have hle := nanosR_le (b % 2 ^ 63)
  refine fn_intro 15 Tryd.func8 rfl rfl rfl ?_
  refine walk ?_
  refine s_fmul rfl rfl hm rfl ?_
  refine walk ?_
  refine s_call rfl (bad_good h) rfl ?_
  rintro _ _ ⟨e_, rfl⟩
  obtain rfl := e_.symm
  refine walk ?_
  by_cases hc : c62 ≤ Pm (b % 2 ^ 63)
  · have e : nanosR (b % 2 ^ 63) = 2 ^ 62 := by unfold nanosR; rw [if_pos hc]
    rw [decide_eq_true hc] at hcmp
    rw [e, top62]
    refine s_fcmp (op := .geq) rfl rfl rfl hcmp rfl ?_
    refine walk ?_
    (first | refine ret2 (v := .int _ _) (x := .int _ _) (.inr rfl) rfl rfl rfl ?_ | refine ret2  (.inr rfl) rfl rfl rfl ?_ | refine ret2 (v := .int _ _) (x := .int _ _) (.inl rfl) rfl rfl rfl ?_ | refine ret2  (.inl rfl) rfl rfl rfl ?_)
    exact ⟨rfl, rfl⟩
  · have e : nanosR (b % 2 ^ 63) = V (Pm (b % 2 ^ 63)) / 2 ^ e0 := by unfold nanosR; rw [if_neg hc]
    rw [decide_eq_false hc] at hcmp
    have hto := toInt_good hp (by rw [hpm]; have := c62_lt; omega)
    rw [hpm, ← e] at hto
    rw [top62] at hle
    refine s_fcmp (op := .geq) rfl rfl rfl hcmp rfl ?_
    refine walk ?_
    refine s_ftoi (kd := .i64) (by kernel_rfl) rfl hto (by show (-9223372036854775808 : Int) ≤ _; omega) (by show _ ≤ (9223372036854775807 : Int); omega) rfl ?_
    refine walk ?_
    (first | refine ret2 (v := .int _ _) (x := .int _ _) (.inr rfl) rfl rfl rfl ?_ | refine ret2  (.inr rfl) rfl rfl rfl ?_ | refine ret2 (v := .int _ _) (x := .int _ _) (.inl rfl) rfl rfl rfl ?_ | refine ret2  (.inl rfl) rfl rfl rfl ?_)
    exact ⟨rfl, rfl⟩
theorem nanos_bad (hb : b < 2 ^ 64) (h : ¬ FGood b) : Does Tryd.prog B 8 [flt b] H fun r H' => H' = H ∧ r = nanV b := by
  rw [nanV_bad h]
  refine fn_intro 15 Tryd.func8 rfl rfl rfl ?_
  refine walk ?_
  rcases hm : D.mul b c6 with _ | p
  · refine s_fmulN rfl rfl hm rfl ?_
    intro r _ _
    refine walk ?_
    refine s_call rfl (bad_bad hb h) rfl ?_
    rintro _ _ ⟨e_, rfl⟩
    obtain rfl := e_.symm
    refine walk ?_
    (first | refine ret2 (v := .int _ _) (x := .int _ _) (.inr rfl) rfl rfl rfl ?_ | refine ret2  (.inr rfl) rfl rfl rfl ?_ | refine ret2 (v := .int _ _) (x := .int _ _) (.inl rfl) rfl rfl rfl ?_ | refine ret2  (.inl rfl) rfl rfl rfl ?_)
    exact ⟨rfl, rfl⟩
  · refine s_fmul rfl rfl hm rfl ?_
    refine walk ?_
    refine s_call rfl (bad_bad hb h) rfl ?_
    rintro _ _ ⟨e_, rfl⟩
    obtain rfl := e_.symm
    refine walk ?_
    (first | refine ret2 (v := .int _ _) (x := .int _ _) (.inr rfl) rfl rfl rfl ?_ | refine ret2  (.inr rfl) rfl rfl rfl ?_ | refine ret2 (v := .int _ _) (x := .int _ _) (.inl rfl) rfl rfl rfl ?_ | refine ret2  (.inl rfl) rfl rfl rfl ?_)
    exact ⟨rfl, rfl⟩
theorem nanos_spec (hb : b < 2 ^ 64) : Does Tryd.prog B 8 [flt b] H fun r H' => H' = H ∧ r = nanV b := by
  by_cases h : FGood b
  · exact nanos_good h
  · exact nanos_bad hb h
theorem exact_spec {m p : Nat} (hp : FGood p) (hlt : p % 2 ^ 63 < c62) (hm : m ≤ 2 ^ 62) : Does Tryd.prog B 28 [.int .i64 (m : Nat), flt p] H fun r H' => H' = H ∧ r = .bool (exB m (p % 2 ^ 63)) := by
  have hcmp := cmp_geq hp good53
  rw [mod53] at hcmp
  have hV : V (p % 2 ^ 63) / 2 ^ e0 ≤ 4611686018427387904 := by
    rw [← top62]
    have h1 : V (p % 2 ^ 63) < 2 ^ 62 * 2 ^ e0 := by rw [← V62]; exact V_lt.2 hlt
    exact Nat.le_of_lt ((Nat.div_lt_iff_lt_mul (Nat.two_pow_pos _)).2 h1)
  have hm' := hm
  rw [top62] at hm'
  refine fn_intro 15 Tryd.func28 rfl rfl rfl ?_
  refine walk ?_
  by_cases hc : c53 ≤ p % 2 ^ 63
  · rw [decide_eq_true hc] at hcmp
    have ex : exB m (p % 2 ^ 63) = decide (m ≤ V (p % 2 ^ 63) / 2 ^ e0) := by unfold exB; rw [if_pos hc]
    rw [ex]
    refine s_fcmp (op := .geq) rfl rfl rfl hcmp rfl ?_
    have hto := toInt_good hp (Nat.lt_trans hlt c62_lt)
    generalize V (p % 2 ^ 63) / 2 ^ e0 = T at *
    refine walk ?_
    refine s_ftoi (kd := .i64) (by kernel_rfl) rfl hto (by show (-9223372036854775808 : Int) ≤ _; omega) (by show _ ≤ (9223372036854775807 : Int); omega) rfl ?_
    by_cases hle : m ≤ T
    · refine walk ?_
      (first | refine ret1 (v := .bool _) (.inr rfl) rfl rfl ?_ | refine ret1  (.inr rfl) rfl rfl ?_ | refine ret1 (v := .bool _) (.inl rfl) rfl rfl ?_ | refine ret1  (.inl rfl) rfl rfl ?_)
      exact ⟨rfl, by rw [decide_eq_true hle]⟩
    · refine walk ?_
      (first | refine ret1 (v := .bool _) (.inr rfl) rfl rfl ?_ | refine ret1  (.inr rfl) rfl rfl ?_ | refine ret1 (v := .bool _) (.inl rfl) rfl rfl ?_ | refine ret1  (.inl rfl) rfl rfl ?_)
      exact ⟨rfl, by rw [decide_eq_false hle]⟩
  · rw [decide_eq_false hc] at hcmp
    have ex : exB m (p % 2 ^ 63) = decide (fl m ≤ p % 2 ^ 63) := by unfold exB; rw [if_neg hc]
    rw [ex]
    have hcl := cmp_leq (fl_good hm) hp
    rw [fl_mod hm] at hcl
    refine s_fcmp (op := .geq) rfl rfl rfl hcmp rfl ?_
    refine walk ?_
    refine s_itof rfl (nearest_nat hm) rfl ?_
    refine walk ?_
    refine s_fcmp (op := .leq) rfl rfl rfl hcl rfl ?_
    refine walk ?_
    (first | refine ret1 (v := .bool _) (.inr rfl) rfl rfl ?_ | refine ret1  (.inr rfl) rfl rfl ?_ | refine ret1 (v := .bool _) (.inl rfl) rfl rfl ?_ | refine ret1  (.inl rfl) rfl rfl ?_)
    exact ⟨rfl, rfl⟩
theorem halves {T j : Nat} : (if T / 2 ^ (j + 1) * 2 ^ (j + 1) + 2 ^ j ≤ T then T / 2 ^ (j + 1) * 2 ^ (j + 1) + 2 ^ j else T / 2 ^ (j + 1) * 2 ^ (j + 1)) = T / 2 ^ j * 2 ^ j := by
  have hp := Nat.two_pow_pos j
  have e : 2 ^ (j + 1) = 2 ^ j * 2 := Nat.pow_succ 2 j
  have h1 := Nat.div_add_mod T (2 ^ j)
  have h2 := Nat.div_add_mod T (2 ^ j * 2)
  have h3 := Nat.mod_lt T hp
  have h4 : T / (2 ^ j * 2) = T / 2 ^ j / 2 := by rw [Nat.div_div_eq_div_mul]
  rw [e, h4]
  generalize 2 ^ j = q at *
  generalize T / q = a at *
  have h5 : a = a / 2 * 2 + a % 2 := by omega
  have h6 : a % 2 < 2 := Nat.mod_lt _ (by omega)
  generalize a / 2 = c at *
  have e5 : c * (q * 2) = q * (c * 2) := by ac_rfl
  rw [e5]
  have hqa : q * a = q * (c * 2) + q * (a % 2) := by rw [← Nat.mul_add, ← h5]
  have hcom : a * q = q * a := Nat.mul_comm _ _
  rw [hcom]
  rcases (show a % 2 = 0 ∨ a % 2 = 1 by omega) with h0 | h0 <;> rw [h0] at hqa
  · rw [if_neg (by omega)]; omega
  · rw [if_pos (by omega)]; omega
theorem clamp_spec : Does Tryd.prog B 29 [.int .i64 n] H fun r H' => H' = H ∧ r = .int .i64 (clampI n) := by
  refine fn_intro 6 Tryd.func29 rfl rfl rfl ?_
  refine walk ?_
  refine s_max2 rfl rfl rfl rfl ?_
  refine s_min2 rfl rfl rfl rfl ?_
  refine walk ?_
  (first | refine ret1 (v := .int _ _) (.inr rfl) rfl rfl ?_ | refine ret1  (.inr rfl) rfl rfl ?_ | refine ret1 (v := .int _ _) (.inl rfl) rfl rfl ?_ | refine ret1  (.inl rfl) rfl rfl ?_)
  exact ⟨rfl, rfl⟩
theorem rclamp_spec : Does Tryd.prog B 35 [.int .i64 n] H fun r H' => H' = H ∧ r = .int .i64 (clampI n) := by
  refine fn_intro 8 Tryd.func35 rfl rfl rfl ?_
  by_cases h0 : n < 0
  · have e : clampI n = 0 := by unfold clampI; omega
    rw [e]
    refine walk ?_
    (first | refine ret1 (v := .int _ _) (.inr rfl) rfl rfl ?_ | refine ret1  (.inr rfl) rfl rfl ?_ | refine ret1 (v := .int _ _) (.inl rfl) rfl rfl ?_ | refine ret1  (.inl rfl) rfl rfl ?_)
    exact ⟨rfl, rfl⟩
  · by_cases h1 : n > 4611686018427387904
    · have e : clampI n = 4611686018427387904 := by unfold clampI; omega
      rw [e]
      refine walk ?_
      (first | refine ret1 (v := .int _ _) (.inr rfl) rfl rfl ?_ | refine ret1  (.inr rfl) rfl rfl ?_ | refine ret1 (v := .int _ _) (.inl rfl) rfl rfl ?_ | refine ret1  (.inl rfl) rfl rfl ?_)
      exact ⟨rfl, rfl⟩
    · have e : clampI n = n := by unfold clampI; omega
      rw [e]
      refine walk ?_
      (first | refine ret1 (v := .int _ _) (.inr rfl) rfl rfl ?_ | refine ret1  (.inr rfl) rfl rfl ?_ | refine ret1 (v := .int _ _) (.inl rfl) rfl rfl ?_ | refine ret1  (.inl rfl) rfl rfl ?_)
      exact ⟨rfl, rfl⟩
end
end Go.Proofs.YtkgddnelghkdnaaDoor
