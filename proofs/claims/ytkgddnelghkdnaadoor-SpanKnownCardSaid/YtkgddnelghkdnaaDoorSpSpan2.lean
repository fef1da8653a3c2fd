/- The document's spans, digit by digit; classes; sums; milliseconds. No condition. -/
import Derived.Test.YtkgddnelghkdnaaDoorSpSpan1
import Derived.Test.YtkgddnelghkdnaaDoorSL2
namespace Go.Proofs.YtkgddnelghkdnaaDoor
open Go Go.SL Go.SL.Flo
set_option linter.unusedSimpArgs false
set_option linter.unusedVariables false
set_option maxRecDepth 10000
set_option maxHeartbeats 2000000
/-- The digit that is tried, when so many are left. -/
def dOf (k : Nat) : Nat := if k = 0 then 0 else 2 ^ (k - 1)
theorem dOf_succ (j : Nat) : dOf (j + 1) = 2 ^ j := by unfold dOf; rw [if_neg (by omega)]; rfl
theorem dOf_half (j : Nat) : 2 ^ j / 2 = dOf j := by
  unfold dOf
  cases j with
  | zero => rfl
  | succ j =>
    rw [if_neg (by omega), Nat.pow_succ, Nat.mul_div_cancel _ (by omega)]
    rfl
theorem digit_room {T j : Nat} (hT : T < 2 ^ 62) (hj : j + 1 ≤ 62) : T / 2 ^ (j + 1) * 2 ^ (j + 1) + 2 ^ j ≤ 2 ^ 62 := by
  have h1 : T / 2 ^ (j + 1) < 2 ^ (61 - j) := by
    rw [Nat.div_lt_iff_lt_mul (Nat.two_pow_pos _), ← Nat.pow_add]
    rw [show 61 - j + (j + 1) = 62 by omega]
    exact hT
  have h2 : (T / 2 ^ (j + 1) + 1) * 2 ^ (j + 1) ≤ 2 ^ (61 - j) * 2 ^ (j + 1) := Nat.mul_le_mul_right _ h1
  rw [← Nat.pow_add, show 61 - j + (j + 1) = 62 by omega, Nat.add_mul, Nat.one_mul] at h2
  have h3 : 2 ^ j ≤ 2 ^ (j + 1) := Nat.pow_le_pow_right (by omega) (by omega)
  omega
attribute [local irreducible] WP WPL QSeq QBlk QRet Does Cell Cells Rd Mine Ent Aside RV e0
section
variable {B : World} {F H : HProp} {b p : Nat} {n : Int}
theorem exact_at {x : Int} {m p : Nat} {r : Bool} (hx : x = (m : Nat)) (hp : FGood p) (hlt : p % 2 ^ 63 < c62) (hm : m ≤ 2 ^ 62) (hr : exB m (p % 2 ^ 63) = r) : Does Tryd.prog B 28 [.int .i64 x, flt p] H fun r' H' => H' = H ∧ r' = .bool r := by
  subst hx hr
  exact exact_spec hp hlt hm
theorem rnanos_spec (hb : b < 2 ^ 64) : Does Tryd.prog B 9 [flt b] H fun r H' => H' = H ∧ r = nanV b := by
  by_cases h : FGood b
  · rw [nanV_good h]
    obtain ⟨p, hm, hp, hpm⟩ := mul_c6 h
    have hcmp := cmp_geq hp good62
    rw [mod62] at hcmp
    have hge : cmpOf .geq (D.order b 0) = true := by rw [cmp_geq h good0]; simp
    refine fn_intro 33 Tryd.func9 rfl rfl rfl ?_
    refine walk ?_
    refine s_fcmp (op := .geq) rfl rfl rfl hge rfl ?_
    refine walk ?_
    refine s_fmul rfl rfl hm rfl ?_
    refine walk ?_
    by_cases hc : c62 ≤ p % 2 ^ 63
    · have e : nanosR (b % 2 ^ 63) = 2 ^ 62 := by unfold nanosR; rw [← hpm, if_pos hc]
      rw [decide_eq_true hc] at hcmp
      rw [e, top62]
      refine s_fcmp (op := .geq) rfl rfl rfl hcmp rfl ?_
      refine walk ?_
      (first | refine ret2 (v := .int _ _) (x := .int _ _) (.inr rfl) rfl rfl rfl ?_ | refine ret2  (.inr rfl) rfl rfl rfl ?_ | refine ret2 (v := .int _ _) (x := .int _ _) (.inl rfl) rfl rfl rfl ?_ | refine ret2  (.inl rfl) rfl rfl rfl ?_)
      exact ⟨rfl, rfl⟩
    · have hlt : p % 2 ^ 63 < c62 := by omega
      have e : nanosR (b % 2 ^ 63) = V (p % 2 ^ 63) / 2 ^ e0 := by unfold nanosR; rw [← hpm, if_neg hc]
      rw [decide_eq_false hc] at hcmp
      rw [e]
      have hT : V (p % 2 ^ 63) / 2 ^ e0 < 2 ^ 62 := by
        have h1 : V (p % 2 ^ 63) < 2 ^ 62 * 2 ^ e0 := by rw [← V62]; exact V_lt.2 hlt
        exact (Nat.div_lt_iff_lt_mul (Nat.two_pow_pos _)).2 h1
      have hex := @exB_eq
      have hex2 : ∀ m, m ≤ 2 ^ 62 → (decide (fl m ≤ p % 2 ^ 63) && exB m (p % 2 ^ 63)) = decide (m ≤ V (p % 2 ^ 63) / 2 ^ e0) := fun m hm => exB_eq hlt hm
      have hcl : ∀ m, m ≤ 2 ^ 62 → cmpOf .leq (D.order (fl m) p) = decide (fl m ≤ p % 2 ^ 63) := fun m hm => by
        have := cmp_leq (fl_good hm) hp
        rwa [fl_mod hm] at this
      have hexd : ∀ (m : Nat) (x : Int) (r : Bool), x = (m : Nat) → m ≤ 2 ^ 62 → exB m (p % 2 ^ 63) = r → Does Tryd.prog B 28 [.int .i64 x, flt p] H fun r' H' => H' = H ∧ r' = .bool r := fun m x r hx hm hr => exact_at hx hp hlt hm hr
      clear hex e
      generalize V (p % 2 ^ 63) / 2 ^ e0 = T at *
      refine s_fcmp (op := .geq) rfl rfl rfl hcmp rfl ?_
      refine walk ?_
      refine wp_loopR (α := Nat) [5, 6, 14, 15, 16, 17, 18, 19, 20, 21, 22, 23, 24, 25, 26, 27, 28, 29, 30, 31] (fun k => [(5, .int .i64 ((T / 2 ^ k * 2 ^ k : Nat) : Int)), (6, .int .i64 (dOf k : Nat))]) (fun k => k ≤ 62) (fun k => k) 62 ?_ (Nat.le_refl _) ?_
      · have h0 : T / 2 ^ 62 = 0 := Nat.div_eq_of_lt hT
        have e1 : ((T / 2 ^ 62 * 2 ^ 62 : Nat) : Int) = 0 := by rw [h0]; rfl
        have e2 : ((dOf 62 : Nat) : Int) = 2305843009213693952 := by decide
        rw [e1, e2]
        exact agreed
      rintro k f hk
      cases k with
      | zero =>
        have e1 : ((T / 2 ^ 0 * 2 ^ 0 : Nat) : Int) = T := by simp
        have e2 : ((dOf 0 : Nat) : Int) = 0 := by decide
        rw [e1, e2]
        simp only [putAll]
        refine walk ?_
        (first | refine ret2 (v := .int _ _) (x := .int _ _) (.inr rfl) rfl rfl rfl ?_ | refine ret2  (.inr rfl) rfl rfl rfl ?_ | refine ret2 (v := .int _ _) (x := .int _ _) (.inl rfl) rfl rfl rfl ?_ | refine ret2  (.inl rfl) rfl rfl rfl ?_)
        exact ⟨rfl, rfl⟩
      | succ j =>
        have hroom := digit_room hT hk
        have hnext := halves (T := T) (j := j)
        have hhalf := dOf_half j
        have hpos := Nat.two_pow_pos j
        rw [dOf_succ]
        generalize T / 2 ^ (j + 1) * 2 ^ (j + 1) = N at *
        have hfit : ((T / 2 ^ j * 2 ^ j : Nat) : Int) = if N + 2 ^ j ≤ T then (N : Int) + (2 ^ j : Nat) else (N : Int) := by
          rw [← hnext]
          split <;> simp
        generalize hDj : 2 ^ j = Dj at *
        have hroom' := hroom
        rw [top62] at hroom'
        have hx := hex2 (N + Dj) hroom
        have hnear : FloatKind.f64.nearest ((N : Int) + (Dj : Int)) = fl (N + Dj) := by
          have := nearest_nat hroom
          rwa [Int.natCast_add] at this
        simp only [putAll]
        refine walk ?_
        refine s_itof rfl hnear rfl ?_
        refine walk ?_
        refine s_fcmp (op := .leq) rfl rfl rfl (hcl _ hroom) rfl ?_
        by_cases h1 : fl (N + Dj) ≤ p % 2 ^ 63
        · rw [decide_eq_true h1] at hx ⊢
          rw [Bool.true_and] at hx
          refine walk ?_
          by_cases h2 : N + Dj ≤ T
          · rw [if_pos h2] at hfit
            rw [decide_eq_true h2] at hx
            refine s_call rfl (hexd (N + Dj) ((N : Int) + (Dj : Int)) true (by push_cast; rfl) hroom hx) rfl ?_
            rintro _ _ ⟨e_, rfl⟩
            obtain rfl := e_.symm
            refine walk ?_
            refine ⟨j, asided, ?_, Ent.refl _, by omega, by omega⟩
            rw [hDj, hfit, ← hhalf]
            exact agreed
          · rw [if_neg h2] at hfit
            rw [decide_eq_false h2] at hx
            refine s_call rfl (hexd (N + Dj) ((N : Int) + (Dj : Int)) false (by push_cast; rfl) hroom hx) rfl ?_
            rintro _ _ ⟨e_, rfl⟩
            obtain rfl := e_.symm
            refine walk ?_
            refine ⟨j, asided, ?_, Ent.refl _, by omega, by omega⟩
            rw [hDj, hfit, ← hhalf]
            exact agreed
        · rw [decide_eq_false h1] at hx ⊢
          rw [Bool.false_and] at hx
          have h2 : ¬ N + Dj ≤ T := fun h2 => by rw [decide_eq_true h2] at hx; cases hx
          rw [if_neg h2] at hfit
          refine walk ?_
          refine ⟨j, asided, ?_, Ent.refl _, by omega, by omega⟩
          rw [hDj, hfit, ← hhalf]
          exact agreed
  · rw [nanV_bad h]
    obtain ⟨hge, _⟩ := bad_word hb h
    refine fn_intro 33 Tryd.func9 rfl rfl rfl ?_
    refine walk ?_
    refine s_fcmp (op := .geq) rfl rfl rfl hge rfl ?_
    refine walk ?_
    (first | refine ret2 (v := .int _ _) (x := .int _ _) (.inr rfl) rfl rfl rfl ?_ | refine ret2  (.inr rfl) rfl rfl rfl ?_ | refine ret2 (v := .int _ _) (x := .int _ _) (.inl rfl) rfl rfl rfl ?_ | refine ret2  (.inl rfl) rfl rfl rfl ?_)
    exact ⟨rfl, rfl⟩
end
end Go.Proofs.YtkgddnelghkdnaaDoor
