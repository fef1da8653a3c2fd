/- Spans: milliseconds of a span, the class of a double. No condition. -/
import Derived.Test.YtkgddnelghkdnaaDoorSpSpan3
import Derived.Test.YtkgddnelghkdnaaDoorSL4
namespace Go.Proofs.YtkgddnelghkdnaaDoor
open Go Go.SL Go.SL.Flo Ieee
set_option linter.unusedSimpArgs false
set_option linter.unusedVariables false
set_option maxRecDepth 10000
set_option maxHeartbeats 2000000
theorem mil_some {m : Nat} (h : m ≤ 2 ^ 62) : ∃ q, D.div (fl m) c6 = some q := by
  have h1 : fl m < infR := Nat.lt_of_le_of_lt (fl_top h) c62_lt
  have h2 : fl m % 2 ^ 63 < infR := Nat.lt_of_le_of_lt (Nat.mod_le _ _) h1
  obtain ⟨mag, place, hr, _⟩ := read_num h2
  obtain ⟨M, hM, hM2, hMl⟩ := c6_read
  have hM0 : M ≠ 0 := by rw [hM2]; decide
  unfold Format.div
  rw [hr, hM]
  unfold Datum.quotient
  simp only [if_neg hM0, Option.map_some]
  exact ⟨_, rfl⟩
/-- Milliseconds of a span. -/
noncomputable def milQ (n : Int) : Nat := (D.div (fl (clampI n).toNat) c6).getD 0
theorem milQ_eq (n : Int) : D.div (fl (clampI n).toNat) c6 = some (milQ n) := by
  have : (clampI n).toNat ≤ 2 ^ 62 := by have := clampI_range n; omega
  obtain ⟨q, hq⟩ := mil_some this
  unfold milQ
  rw [hq]; rfl
theorem near_clamp (n : Int) : FloatKind.f64.nearest (clampI n) = fl (clampI n).toNat := by
  have h := clampI_range n
  obtain ⟨m, hm⟩ : ∃ m : Nat, clampI n = (m : Nat) := ⟨(clampI n).toNat, by omega⟩
  rw [hm, nearest_nat (by omega), Int.toNat_natCast]
open Classical in
/-- The class of a double. -/
noncomputable def clsV (b : Nat) : Int :=
  if ¬ FGood b then 0 else if b % 2 ^ 63 = 0 then 1 else if nanosR (b % 2 ^ 63) = 0 then 2 else if nanosR (b % 2 ^ 63) < 4611686018427387904 then 3 else 4
instance : ExternAt Tryd.prog 19 Extern.MathFloatBits.float64bits := ⟨_, rfl, by kernel_rfl, by kernel_rfl, by kernel_rfl, by kernel_rfl⟩
instance : ExternAt Tryd.prog 39 Extern.MathFloatBits.float64frombits := ⟨_, rfl, by kernel_rfl, by kernel_rfl, by kernel_rfl, by kernel_rfl⟩
attribute [local irreducible] WP WPL QSeq QBlk QRet Does Cell Cells Rd Mine Ent Aside RV e0 QScp nanosR FGood
section
variable {B : World} {F H : HProp} {b : Nat} {n : Int}
theorem milP : Does Tryd.prog B 20 [.int .i64 n] H fun r H' => H' = H ∧ r = flt (milQ n) := by
  refine fn_intro 7 Tryd.func20 rfl rfl rfl ?_
  refine walk ?_
  refine s_call rfl (clamp_spec) rfl ?_
  rintro _ _ ⟨e_, rfl⟩
  obtain rfl := e_.symm
  refine walk ?_
  refine s_itof rfl (near_clamp n) rfl ?_
  refine s_fquo rfl rfl (milQ_eq n) rfl ?_
  refine walk ?_
  (first | refine ret1 (v := .float _ _) (.inr rfl) rfl rfl ?_ | refine ret1  (.inr rfl) rfl rfl ?_ | refine ret1 (v := .float _ _) (.inl rfl) rfl rfl ?_ | refine ret1  (.inl rfl) rfl rfl ?_)
  exact ⟨rfl, rfl⟩
theorem rMilP : Does Tryd.prog B 21 [.int .i64 n] H fun r H' => H' = H ∧ r = flt (milQ n) := by
  refine fn_intro 7 Tryd.func21 rfl rfl rfl ?_
  refine walk ?_
  refine s_call rfl (rclamp_spec) rfl ?_
  rintro _ _ ⟨e_, rfl⟩
  obtain rfl := e_.symm
  refine walk ?_
  refine s_itof rfl (near_clamp n) rfl ?_
  refine s_fquo rfl rfl (milQ_eq n) rfl ?_
  refine walk ?_
  (first | refine ret1 (v := .float _ _) (.inr rfl) rfl rfl ?_ | refine ret1  (.inr rfl) rfl rfl ?_ | refine ret1 (v := .float _ _) (.inl rfl) rfl rfl ?_ | refine ret1  (.inl rfl) rfl rfl ?_)
  exact ⟨rfl, rfl⟩
theorem classP (hb : b < 2 ^ 64) : Does Tryd.prog B 10 [flt b] H fun r H' => H' = H ∧ r = .int .i64 (clsV b) := by
  by_cases hg : FGood b
  · have hcz := cmp_eql hg good0
    rw [Nat.zero_mod] at hcz
    by_cases hz : b % 2 ^ 63 = 0
    · rw [decide_eq_true hz] at hcz
      have e : clsV b = 1 := by unfold clsV; rw [if_neg (by simp [hg]), if_pos hz]
      rw [e]
      refine fn_intro 29 Tryd.func10 rfl rfl rfl ?_
      refine walk ?_
      refine wp_scope' ?_
      refine walk ?_
      refine s_call rfl (nanos_spec hb) rfl ?_
      rintro _ _ ⟨e_, rfl⟩
      obtain rfl := e_.symm
      refine walk ?_
      rw [nanV_good hg]
      refine walk ?_
      refine s_fcmp (op := .eql) rfl rfl rfl hcz rfl ?_
      refine walk ?_
      refine q_scp_ret ?_
      (first | refine ret1 (v := .int _ _) (.inr rfl) rfl rfl ?_ | refine ret1  (.inr rfl) rfl rfl ?_ | refine ret1 (v := .int _ _) (.inl rfl) rfl rfl ?_ | refine ret1  (.inl rfl) rfl rfl ?_)
      exact ⟨rfl, rfl⟩
    · rw [decide_eq_false hz] at hcz
      have e : clsV b = if nanosR (b % 2 ^ 63) = 0 then 2 else if nanosR (b % 2 ^ 63) < 4611686018427387904 then 3 else 4 := by unfold clsV; rw [if_neg (by simp [hg]), if_neg hz]
      rw [e]
      generalize hm : nanosR (b % 2 ^ 63) = m
      refine fn_intro 29 Tryd.func10 rfl rfl rfl ?_
      refine walk ?_
      refine wp_scope' ?_
      refine walk ?_
      refine s_call rfl (nanos_spec hb) rfl ?_
      rintro _ _ ⟨e_, rfl⟩
      obtain rfl := e_.symm
      refine walk ?_
      rw [nanV_good hg, hm]
      refine walk ?_
      refine s_fcmp (op := .eql) rfl rfl rfl hcz rfl ?_
      refine walk ?_
      refine wp_label' ?_
      refine walk ?_
      (refine s_buildA (cs := [.int .i64 1, .int .i64 4611686018427387904]) ?_ rfl ?_; (· kernel_rfl))
      refine walk ?_
      refine wp_loopR (α := Nat) [5, 6, 7, 18, 19, 20, 21, 22, 23, 24, 25, 26, 27] (fun k => [(18, .int .i64 k), (5, .int .i64 ((k + 2 : Nat) : Int))]) (fun k => k ≤ 2 ∧ (k = 1 → 1 ≤ m) ∧ (k = 2 → 4611686018427387904 ≤ m)) (fun k => 2 - k) 0 agreed ⟨by omega, by omega, by omega⟩ ?_
      rintro k f ⟨hk, hk1, hk2⟩
      simp only [putAll]
      obtain rfl | rfl | rfl : k = 0 ∨ k = 1 ∨ k = 2 := by omega
      · by_cases h0 : m = 0
        · rw [if_pos h0]
          refine walk ?_
          refine s_indexV (j := 0) rfl rfl rfl (by decide) rfl rfl ?_
          refine walk ?_
          refine q_scp_ret ?_
          (first | refine ret1 (v := .int _ _) (.inr rfl) rfl rfl ?_ | refine ret1  (.inr rfl) rfl rfl ?_ | refine ret1 (v := .int _ _) (.inl rfl) rfl rfl ?_ | refine ret1  (.inl rfl) rfl rfl ?_)
          exact ⟨rfl, rfl⟩
        · refine walk ?_
          refine s_indexV (j := 0) rfl rfl rfl (by decide) rfl rfl ?_
          refine walk ?_
          exact ⟨1, asided, agreed, Ent.refl _, ⟨by omega, by omega, by omega⟩, by omega⟩
      · have h0 : m ≠ 0 := by have := hk1 rfl; omega
        rw [if_neg h0]
        by_cases h1 : m < 4611686018427387904
        · rw [if_pos h1]
          refine walk ?_
          refine s_indexV (j := 1) rfl rfl rfl (by decide) rfl rfl ?_
          refine walk ?_
          refine q_scp_ret ?_
          (first | refine ret1 (v := .int _ _) (.inr rfl) rfl rfl ?_ | refine ret1  (.inr rfl) rfl rfl ?_ | refine ret1 (v := .int _ _) (.inl rfl) rfl rfl ?_ | refine ret1  (.inl rfl) rfl rfl ?_)
          exact ⟨rfl, rfl⟩
        · refine walk ?_
          refine s_indexV (j := 1) rfl rfl rfl (by decide) rfl rfl ?_
          refine walk ?_
          exact ⟨2, asided, agreed, Ent.refl _, ⟨by omega, by omega, by omega⟩, by omega⟩
      · have h1 := hk2 rfl
        rw [if_neg (by omega), if_neg (by omega)]
        refine walk ?_
        refine q_scp_ret ?_
        (first | refine ret1 (v := .int _ _) (.inr rfl) rfl rfl ?_ | refine ret1  (.inr rfl) rfl rfl ?_ | refine ret1 (v := .int _ _) (.inl rfl) rfl rfl ?_ | refine ret1  (.inl rfl) rfl rfl ?_)
        exact ⟨rfl, rfl⟩
  · have e : clsV b = 0 := by unfold clsV; rw [if_pos hg]
    rw [e]
    refine fn_intro 29 Tryd.func10 rfl rfl rfl ?_
    refine walk ?_
    refine wp_scope' ?_
    refine walk ?_
    refine s_call rfl (nanos_spec hb) rfl ?_
    rintro _ _ ⟨e_, rfl⟩
    obtain rfl := e_.symm
    refine walk ?_
    rw [nanV_bad hg]
    refine walk ?_
    refine q_scp_ret ?_
    (first | refine ret1 (v := .int _ _) (.inr rfl) rfl rfl ?_ | refine ret1  (.inr rfl) rfl rfl ?_ | refine ret1 (v := .int _ _) (.inl rfl) rfl rfl ?_ | refine ret1  (.inl rfl) rfl rfl ?_)
    exact ⟨rfl, rfl⟩
theorem rClassP (hb : b < 2 ^ 64) : Does Tryd.prog B 11 [flt b] H fun r H' => H' = H ∧ r = .int .i64 (clsV b) := by
  by_cases hg : FGood b
  · have hcz := cmp_eql hg good0
    rw [Nat.zero_mod] at hcz
    by_cases hz : b % 2 ^ 63 = 0
    · rw [decide_eq_true hz] at hcz
      have e : clsV b = 1 := by unfold clsV; rw [if_neg (by simp [hg]), if_pos hz]
      rw [e]
      refine fn_intro 22 Tryd.func11 rfl rfl rfl ?_
      refine walk ?_
      refine s_call rfl (rnanos_spec hb) rfl ?_
      rintro _ _ ⟨e_, rfl⟩
      obtain rfl := e_.symm
      refine walk ?_
      rw [nanV_good hg]
      refine walk ?_
      refine s_fcmp (op := .eql) rfl rfl rfl hcz rfl ?_
      refine walk ?_
      (first | refine ret1 (v := .int _ _) (.inr rfl) rfl rfl ?_ | refine ret1  (.inr rfl) rfl rfl ?_ | refine ret1 (v := .int _ _) (.inl rfl) rfl rfl ?_ | refine ret1  (.inl rfl) rfl rfl ?_)
      exact ⟨rfl, rfl⟩
    · rw [decide_eq_false hz] at hcz
      have e : clsV b = if nanosR (b % 2 ^ 63) = 0 then 2 else if nanosR (b % 2 ^ 63) < 4611686018427387904 then 3 else 4 := by unfold clsV; rw [if_neg (by simp [hg]), if_neg hz]
      rw [e]
      generalize hm : nanosR (b % 2 ^ 63) = m
      by_cases h0 : m = 0
      · rw [if_pos h0]
        refine fn_intro 22 Tryd.func11 rfl rfl rfl ?_
        refine walk ?_
        refine s_call rfl (rnanos_spec hb) rfl ?_
        rintro _ _ ⟨e_, rfl⟩
        obtain rfl := e_.symm
        refine walk ?_
        rw [nanV_good hg, hm]
        refine walk ?_
        refine s_fcmp (op := .eql) rfl rfl rfl hcz rfl ?_
        refine walk ?_
        (first | refine ret1 (v := .int _ _) (.inr rfl) rfl rfl ?_ | refine ret1  (.inr rfl) rfl rfl ?_ | refine ret1 (v := .int _ _) (.inl rfl) rfl rfl ?_ | refine ret1  (.inl rfl) rfl rfl ?_)
        exact ⟨rfl, rfl⟩
      · rw [if_neg h0]
        by_cases h1 : m < 4611686018427387904
        · rw [if_pos h1]
          refine fn_intro 22 Tryd.func11 rfl rfl rfl ?_
          refine walk ?_
          refine s_call rfl (rnanos_spec hb) rfl ?_
          rintro _ _ ⟨e_, rfl⟩
          obtain rfl := e_.symm
          refine walk ?_
          rw [nanV_good hg, hm]
          refine walk ?_
          refine s_fcmp (op := .eql) rfl rfl rfl hcz rfl ?_
          refine walk ?_
          (first | refine ret1 (v := .int _ _) (.inr rfl) rfl rfl ?_ | refine ret1  (.inr rfl) rfl rfl ?_ | refine ret1 (v := .int _ _) (.inl rfl) rfl rfl ?_ | refine ret1  (.inl rfl) rfl rfl ?_)
          exact ⟨rfl, rfl⟩
        · rw [if_neg h1]
          refine fn_intro 22 Tryd.func11 rfl rfl rfl ?_
          refine walk ?_
          refine s_call rfl (rnanos_spec hb) rfl ?_
          rintro _ _ ⟨e_, rfl⟩
          obtain rfl := e_.symm
          refine walk ?_
          rw [nanV_good hg, hm]
          refine walk ?_
          refine s_fcmp (op := .eql) rfl rfl rfl hcz rfl ?_
          refine walk ?_
          (first | refine ret1 (v := .int _ _) (.inr rfl) rfl rfl ?_ | refine ret1  (.inr rfl) rfl rfl ?_ | refine ret1 (v := .int _ _) (.inl rfl) rfl rfl ?_ | refine ret1  (.inl rfl) rfl rfl ?_)
          exact ⟨rfl, rfl⟩
  · have e : clsV b = 0 := by unfold clsV; rw [if_pos hg]
    rw [e]
    refine fn_intro 22 Tryd.func11 rfl rfl rfl ?_
    refine walk ?_
    refine s_call rfl (rnanos_spec hb) rfl ?_
    rintro _ _ ⟨e_, rfl⟩
    obtain rfl := e_.symm
    refine walk ?_
    rw [nanV_bad hg]
    refine walk ?_
    (first | refine ret1 (v := .int _ _) (.inr rfl) rfl rfl ?_ | refine ret1  (.inr rfl) rfl rfl ?_ | refine ret1 (v := .int _ _) (.inl rfl) rfl rfl ?_ | refine ret1  (.inl rfl) rfl rfl ?_)
    exact ⟨rfl, rfl⟩
end
end Go.Proofs.YtkgddnelghkdnaaDoor
