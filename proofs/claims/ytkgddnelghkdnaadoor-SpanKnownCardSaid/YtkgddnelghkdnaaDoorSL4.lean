/- Rules for walks: what one's own memory is, and what each operation does. No condition. -/
import Ieee.Arith
import Derived.Test.YtkgddnelghkdnaaDoorSL1
import Derived.Laws.FloatArith
import Derived.Laws.Externs
import Derived.Lib.ItoaNum
import Derived.Lib.Join
import Derived.Test.YtkgddnelghkdnaaDoorSL3
import Derived.Scope
import Derived.Test.YtkgddnelghkdnaaDoorSL2
import Derived.Lib.SplitLaws
import Derived.Lib.AtoiAll
import Derived.WideLaws
import Derived.WideShapes
import Derived.ChangeArms
import Derived.Handed
import Derived.Shelf.Vars
import Derived.LaidLaws
set_option linter.unusedSimpArgs false
set_option linter.unusedVariables false
namespace Go.SL.Flo
/-- A number's half to a whole, ties to even. -/
def RE (N D : Nat) : Nat := N / D + (if D < 2 * (N % D) ∨ (D = 2 * (N % D) ∧ N / D % 2 = 1) then 1 else 0)
theorem RE_le (N D : Nat) : RE N D ≤ N / D + 1 := by unfold RE; split <;> omega
theorem le_RE (N D : Nat) : N / D ≤ RE N D := by unfold RE; omega
theorem RE_mono {N N' D : Nat} (hD : 0 < D) (h : N ≤ N') : RE N D ≤ RE N' D := by
  have hq := Nat.div_le_div_right (c := D) h
  rcases Nat.lt_or_ge (N / D) (N' / D) with hlt | hge
  · have := RE_le N D
    have := le_RE N' D
    omega
  · have he : N / D = N' / D := by omega
    have h1 := Nat.div_add_mod N D
    have h2 := Nat.div_add_mod N' D
    have hr : N % D ≤ N' % D := by
      rw [he] at h1
      omega
    unfold RE
    rw [he]
    split
    · rename_i hc
      rw [if_pos (by omega)]
      omega
    · split <;> omega
theorem RE_scale {N D c : Nat} (hc : 0 < c) : RE (N * c) (D * c) = RE N D := by
  unfold RE
  rw [Nat.mul_div_mul_right _ _ hc, Nat.mul_mod_mul_right]
  congr 1
  have e1 : (D * c < 2 * (N % D * c)) ↔ (D < 2 * (N % D)) := by
    rw [← Nat.mul_assoc]
    exact Nat.mul_lt_mul_right hc
  have e2 : (D * c = 2 * (N % D * c)) ↔ (D = 2 * (N % D)) := by
    rw [← Nat.mul_assoc]
    exact Nat.mul_left_inj (by omega)
  simp only [e1, e2]
theorem RE_exact {m D : Nat} (hD : 0 < D) : RE (m * D) D = m := by
  unfold RE
  rw [Nat.mul_div_cancel _ hD, Nat.mul_mod_left, if_neg (by omega)]
  rfl
theorem RE_one (m : Nat) : RE m 1 = m := by
  have := RE_exact (m := m) (D := 1) (by omega)
  rwa [Nat.mul_one] at this
theorem RE_small {N D : Nat} (h : 2 * N < D) : RE N D = 0 := by
  unfold RE
  rw [Nat.div_eq_of_lt (by omega), Nat.mod_eq_of_lt (by omega), if_neg (by omega)]
theorem cut_even (neg : Bool) (n drop : Nat) : Ieee.Toward.even.cut neg n drop = RE n (2 ^ drop) := by
  have key : ∀ k, Ieee.Toward.even.cut neg n drop = n / k + (decide (k < 2 * (n % k)) || (k == 2 * (n % k) && n / k % 2 == 1)).toNat → k = 1 <<< min drop (n.log2 + 2) → Ieee.Toward.even.cut neg n drop = RE n k := by
    intro k h _
    rw [h]
    unfold RE
    congr 1
    by_cases h1 : k < 2 * (n % k)
    · simp [h1]
    · by_cases h2 : k = 2 * (n % k) ∧ n / k % 2 = 1
      · rw [if_pos (.inr h2)]
        have := h2.1
        simp only [Bool.toNat_eq_one, Bool.or_eq_true, Bool.and_eq_true, beq_iff_eq, decide_eq_true_eq]
        exact .inr h2
      · rw [if_neg (by omega)]
        simp only [Bool.toNat_eq_zero, Bool.or_eq_false_iff, decide_eq_false_iff_not]
        refine ⟨h1, ?_⟩
        cases hb : (k == 2 * (n % k) && n / k % 2 == 1) with
        | false => rfl
        | true =>
          rw [Bool.and_eq_true, beq_iff_eq, beq_iff_eq] at hb
          exact absurd hb h2
  rcases Nat.le_total drop (n.log2 + 2) with hd | hd
  · have := key (1 <<< min drop (n.log2 + 2)) rfl rfl
    rw [this, Nat.min_eq_left hd, Nat.one_shiftLeft]
  · have := key (1 <<< min drop (n.log2 + 2)) rfl rfl
    rw [this, Nat.min_eq_right hd, Nat.one_shiftLeft]
    have hn : n < 2 ^ (n.log2 + 1) := Nat.lt_log2_self
    have h2 : 2 ^ (n.log2 + 2) = 2 * 2 ^ (n.log2 + 1) := by rw [Nat.pow_succ]; omega
    have h3 : 2 ^ (n.log2 + 2) ≤ 2 ^ drop := Nat.pow_le_pow_right (by omega) hd
    rw [RE_small (by omega), RE_small (by omega)]
/-- The rung of the number N / 2 ^ T, in units of the least one. -/
def R (N T : Nat) : Nat := (N.log2 - T - 52) * 2 ^ 52 + RE N (2 ^ (T + (N.log2 - T - 52)))
theorem log2_lt {N : Nat} : N < 2 ^ (N.log2 + 1) := Nat.lt_log2_self
theorem log2_le {N : Nat} (h : N ≠ 0) : 2 ^ N.log2 ≤ N := Nat.log2_self_le h
theorem log2_of {N k : Nat} (h1 : 2 ^ k ≤ N) (h2 : N < 2 ^ (k + 1)) : N.log2 = k := by
  have hN : N ≠ 0 := by have := Nat.two_pow_pos k; omega
  refine (Nat.log2_eq_iff hN).2 ⟨h1, h2⟩
theorem log2_mono {N N' : Nat} (h : N ≤ N') : N.log2 ≤ N'.log2 := by
  rcases Nat.eq_zero_or_pos N with rfl | hN
  · simp
  · rcases Nat.lt_or_ge N'.log2 N.log2 with hlt | hge
    · have h1 := log2_le (N := N) (by omega)
      have h2 := log2_lt (N := N')
      have h3 : 2 ^ (N'.log2 + 1) ≤ 2 ^ N.log2 := Nat.pow_le_pow_right (by omega) hlt
      omega
    · exact hge
theorem log2_mul_pow {N : Nat} (h : N ≠ 0) (k : Nat) : (N * 2 ^ k).log2 = N.log2 + k := by
  refine log2_of ?_ ?_
  · rw [Nat.pow_add]
    exact Nat.mul_le_mul_right _ (log2_le h)
  · rw [show N.log2 + k + 1 = (N.log2 + 1) + k by omega, Nat.pow_add]
    exact Nat.mul_lt_mul_of_pos_right log2_lt (Nat.two_pow_pos k)
theorem R_zero (T : Nat) : R 0 T = 0 := by
  unfold R RE
  simp
theorem R_scale {N : Nat} (T k : Nat) : R (N * 2 ^ k) (T + k) = R N T := by
  rcases Nat.eq_zero_or_pos N with rfl | hN
  · rw [Nat.zero_mul, R_zero, R_zero]
  · unfold R
    rw [log2_mul_pow (by omega)]
    have e : N.log2 + k - (T + k) - 52 = N.log2 - T - 52 := by omega
    rw [e, show T + k + (N.log2 - T - 52) = (T + (N.log2 - T - 52)) + k by omega, Nat.pow_add _ _ k, RE_scale (Nat.two_pow_pos k)]
theorem R_mono {N N' T : Nat} (h : N ≤ N') : R N T ≤ R N' T := by
  have hl := log2_mono h
  unfold R
  rcases Nat.lt_or_ge (N.log2 - T - 52) (N'.log2 - T - 52) with hlt | hge
  · have hN' : N' ≠ 0 := by
      rintro rfl
      simp at hlt
    have h1 := log2_le hN'
    have h2 := log2_lt (N := N)
    have hb := le_RE N' (2 ^ (T + (N'.log2 - T - 52)))
    have ha := RE_le N (2 ^ (T + (N.log2 - T - 52)))
    have hb2 : 2 ^ 52 ≤ N' / 2 ^ (T + (N'.log2 - T - 52)) := by
      rw [Nat.le_div_iff_mul_le (Nat.two_pow_pos _), ← Nat.pow_add]
      refine Nat.le_trans (Nat.pow_le_pow_right (by omega) ?_) h1
      omega
    have ha2 : N / 2 ^ (T + (N.log2 - T - 52)) < 2 ^ 53 := by
      rw [Nat.div_lt_iff_lt_mul (Nat.two_pow_pos _), ← Nat.pow_add]
      refine Nat.lt_of_lt_of_le h2 (Nat.pow_le_pow_right (by omega) ?_)
      omega
    have hm : (N.log2 - T - 52 + 1) * 2 ^ 52 ≤ (N'.log2 - T - 52) * 2 ^ 52 := Nat.mul_le_mul_right _ hlt
    rw [Nat.add_mul] at hm
    omega
  · have e : N.log2 - T - 52 = N'.log2 - T - 52 := by omega
    rw [e]
    exact Nat.add_le_add_left (RE_mono (Nat.two_pow_pos _) h) _
/-- What a rung stands for, in units of the least one. -/
def V (r : Nat) : Nat := if r < 2 ^ 52 then r else (2 ^ 52 + r % 2 ^ 52) * 2 ^ (r / 2 ^ 52 - 1)
theorem R_exact0 (r : Nat) : R (V r) 0 = r := by
  unfold V
  by_cases h : r < 2 ^ 52
  · rw [if_pos h]
    have hl : r.log2 - 0 - 52 = 0 := by
      rcases Nat.eq_zero_or_pos r with rfl | hr
      · simp
      · have := (Nat.log2_lt (n := r) (k := 52) (by omega)).2 h
        omega
    unfold R
    rw [hl]
    simp only [Nat.zero_mul, Nat.zero_add, Nat.add_zero, Nat.pow_zero]
    exact RE_one r
  · rw [if_neg h]
    have hm : r % 2 ^ 52 < 2 ^ 52 := Nat.mod_lt _ (by omega)
    have ha : 1 ≤ r / 2 ^ 52 := (Nat.le_div_iff_mul_le (by omega)).2 (by omega)
    have hd := Nat.div_add_mod r (2 ^ 52)
    have h52 : (2 ^ 52 + r % 2 ^ 52).log2 = 52 := log2_of (by omega) (by omega)
    have hl := log2_mul_pow (N := 2 ^ 52 + r % 2 ^ 52) (by omega) (r / 2 ^ 52 - 1)
    rw [h52] at hl
    unfold R
    rw [hl, show 52 + (r / 2 ^ 52 - 1) - 0 - 52 = r / 2 ^ 52 - 1 by omega, Nat.zero_add, RE_exact (Nat.two_pow_pos _), Nat.sub_mul]
    have : 1 * 2 ^ 52 ≤ r / 2 ^ 52 * 2 ^ 52 := Nat.mul_le_mul_right _ ha
    rw [Nat.mul_comm] at hd
    omega
theorem R_exact (r T : Nat) : R (V r * 2 ^ T) T = r := by
  have := R_scale (N := V r) 0 T
  rw [Nat.zero_add] at this
  rw [this, R_exact0]
theorem le_R {r N T : Nat} (h : V r * 2 ^ T ≤ N) : r ≤ R N T := by
  have := R_mono (T := T) h
  rwa [R_exact] at this
theorem R_le {r N T : Nat} (h : N ≤ V r * 2 ^ T) : R N T ≤ r := by
  have := R_mono (T := T) h
  rwa [R_exact] at this
theorem V_le {r s : Nat} : V r ≤ V s ↔ r ≤ s := by
  have key : ∀ {r s : Nat}, V r ≤ V s → r ≤ s := fun {r s} h => by
    have := R_mono (T := 0) h
    rwa [R_exact0, R_exact0] at this
  refine ⟨key, fun h => ?_⟩
  rcases Nat.lt_or_ge (V s) (V r) with hlt | hge
  · have := key (Nat.le_of_lt hlt)
    obtain rfl : r = s := by omega
    omega
  · exact hge
theorem V_lt {r s : Nat} : V r < V s ↔ r < s := by
  have := V_le (r := s) (s := r)
  omega
theorem V_inj {r s : Nat} (h : V r = V s) : r = s := by
  have := (V_le (r := r) (s := s)).1 (by omega)
  have := (V_le (r := s) (s := r)).1 (by omega)
  omega
end Go.SL.Flo
set_option linter.unusedSimpArgs false
set_option linter.unusedVariables false
namespace Go.SL.Flo
open Ieee
abbrev D : Format := Ieee.double
abbrev infR : Nat := 2047 * 2 ^ 52
theorem infR_lt : infR < 2 ^ 63 := by decide
theorem D_inf : D.infRung = infR := by decide
theorem D_bin : D.binade = 2 ^ 52 := by decide
theorem D_sign : D.signWeight = 2 ^ 63 := by decide
theorem D_least : D.leastPlace = -1074 := by decide
theorem word_eq (neg : Bool) (r : Nat) : D.word neg r = if neg then 2 ^ 63 + r else r := by
  unfold Format.word
  rw [D_sign]
/-- A finite word, read. -/
theorem read_num {w : Nat} (h : w % 2 ^ 63 < infR) : ∃ mag place, D.read w = .number (w / 2 ^ 63 % 2 == 1) mag place ∧ -1074 ≤ place ∧ mag * 2 ^ (place + 1074).toNat = V (w % 2 ^ 63) ∧ (2 ^ 52 ≤ w % 2 ^ 63 → mag.log2 = 52) := by
  unfold Format.read
  rw [D_sign, D_bin, D_inf, D_least]
  simp only
  generalize w % 2 ^ 63 = r at *
  by_cases h1 : r < 2 ^ 52
  · rw [if_pos h1]
    refine ⟨r, -1074, rfl, by omega, ?_, fun h => absurd h1 (by omega)⟩
    unfold V
    rw [if_pos h1, show ((-1074 : Int) + 1074).toNat = 0 by decide, Nat.pow_zero, Nat.mul_one]
  · rw [if_neg h1, if_pos h]
    have ha : 1 ≤ r / 2 ^ 52 := (Nat.le_div_iff_mul_le (by omega)).2 (by omega)
    have hm : r % 2 ^ 52 < 2 ^ 52 := Nat.mod_lt _ (by omega)
    refine ⟨_, _, rfl, by omega, ?_, fun _ => log2_of (by omega) (by omega)⟩
    unfold V
    rw [if_neg h1]
    congr 2
    omega
theorem read_inf (neg : Bool) : D.read (D.word neg infR) = .infinity neg := by
  cases neg <;> decide
theorem shl (a b : Nat) : a <<< b = a * 2 ^ b := Nat.shiftLeft_eq a b
/-- Rounding, by the number's units. -/
theorem nearest_R {neg : Bool} {mag : Nat} {place : Int} {A B : Nat} (h : mag * 2 ^ (place + 1074).toNat * 2 ^ B = A * 2 ^ (-(place + 1074)).toNat) :
    D.nearest neg mag place = D.word neg (min (R A B) infR) := by
  have hR : R A B = R (mag * 2 ^ (place + 1074).toNat) (-(place + 1074)).toNat := by
    rw [← R_scale (N := A) B (-(place + 1074)).toNat, ← h, Nat.add_comm B, R_scale]
  rw [hR]
  unfold Format.nearest
  rw [D_inf, D_bin, D_least]
  by_cases h0 : mag = 0
  · subst h0
    rw [if_pos rfl, Nat.zero_mul, R_zero, Nat.zero_min]
  · rw [if_neg h0]
    simp only
    refine congrArg (fun x => D.word neg (min x infR)) ?_
    have hl := log2_mul_pow h0 (place + 1074).toNat
    unfold R
    rw [hl, show D.fractionBits = 52 from rfl]
    have e1 : (max (place + (mag.log2 : Int) - (52 : Nat)) (-1074) - -1074).toNat = mag.log2 + (place + 1074).toNat - (-(place + 1074)).toNat - 52 := by omega
    rw [e1]
    congr 1
    rw [cut_even, shl]
    generalize he : mag.log2 + (place + 1074).toNat - (-(place + 1074)).toNat - 52 = e at *
    generalize hla : max (place + (mag.log2 : Int) - (52 : Nat)) (-1074) = last at *
    have k1 : (place - last).toNat + (-(place + 1074)).toNat + e = (place + 1074).toNat + (last - place).toNat := by omega
    rw [← RE_scale (c := 2 ^ (place + 1074).toNat) (Nat.two_pow_pos _), ← RE_scale (N := mag * 2 ^ (place + 1074).toNat) (c := 2 ^ (place - last).toNat) (Nat.two_pow_pos _)]
    rw [Nat.mul_assoc, Nat.mul_assoc, ← Nat.pow_add, ← Nat.pow_add, ← Nat.pow_add, ← Nat.pow_add]
    rw [Nat.add_comm (place - last).toNat, show (last - place).toNat + (place + 1074).toNat = (-(place + 1074)).toNat + e + (place - last).toNat by omega]
theorem nearest_S {neg : Bool} {mag : Nat} {place : Int} {S T A B : Nat} (hS : (place + 1074).toNat = S) (hT : (-(place + 1074)).toNat = T) (h : mag * 2 ^ S * 2 ^ B = A * 2 ^ T) :
    D.nearest neg mag place = D.word neg (min (R A B) infR) := nearest_R (by rw [hS, hT]; exact h)
/-- A word that is a number from 0 on, or the infinity. -/
def FGood (w : Nat) : Prop := w ≤ infR ∨ w = 2 ^ 63
theorem FGood.small {w : Nat} (h : FGood w) : w % 2 ^ 63 ≤ infR := by
  rcases h with h | h
  · rw [Nat.mod_eq_of_lt (Nat.lt_of_le_of_lt h infR_lt)]; exact h
  · subst h; decide
theorem FGood.cases {w : Nat} (h : FGood w) : (w = infR ∧ D.read w = .infinity false) ∨ (w % 2 ^ 63 < infR ∧ ∃ neg mag place, D.read w = .number neg mag place ∧ -1074 ≤ place ∧ mag * 2 ^ (place + 1074).toNat = V (w % 2 ^ 63) ∧ (neg = true → mag = 0)) := by
  rcases h with h | h
  · rcases Nat.lt_or_ge w infR with hlt | hge
    · right
      have hm : w % 2 ^ 63 = w := Nat.mod_eq_of_lt (Nat.lt_trans hlt infR_lt)
      have hd : w / 2 ^ 63 = 0 := Nat.div_eq_of_lt (Nat.lt_trans hlt infR_lt)
      obtain ⟨mag, place, e, h1, h2, _⟩ := read_num (w := w) (by rw [hm]; exact hlt)
      refine ⟨by rw [hm]; exact hlt, _, mag, place, e, h1, h2, ?_⟩
      rw [hd]
      intro hb
      cases hb
    · left
      obtain rfl : w = infR := by omega
      exact ⟨rfl, read_inf false⟩
  · right
    subst h
    refine ⟨by decide, true, 0, -1074, by decide, by omega, ?_, fun _ => rfl⟩
    rw [Nat.zero_mul]
    decide
theorem cmp_scale {a b : Int} {K : Nat} (hK : 0 < K) : compare (a * K) (b * K) = compare a b := by
  have hK' : (0 : Int) < K := by omega
  simp only [compare, compareOfLessAndEq]
  have e1 : (a * K < b * K) ↔ a < b := Int.mul_lt_mul_right hK'
  have e2 : (a * K = b * K) ↔ a = b := ⟨fun h => Int.eq_of_mul_eq_mul_right (by omega) h, fun h => by rw [h]⟩
  simp only [e1, e2]
theorem cmp_nat {a b : Nat} : compare (a : Int) (b : Int) = compare a b := by
  simp only [compare, compareOfLessAndEq, Int.ofNat_lt, Int.ofNat_inj]
theorem cmp_V {r s : Nat} : compare (V r) (V s) = compare r s := by
  simp only [compare, compareOfLessAndEq, V_lt]
  have e2 : (V r = V s) ↔ r = s := ⟨V_inj, fun h => by rw [h]⟩
  simp only [e2]
theorem signed_zero {neg : Bool} {mag up : Nat} (h : neg = true → mag = 0) : signed neg mag up = ((mag * 2 ^ up : Nat) : Int) := by
  unfold signed
  cases neg with
  | true => rw [h rfl, shl]; simp
  | false => rw [shl]; rfl
/-- FGood words stand to each other as their rungs do. -/
theorem order_good {x y : Nat} (hx : FGood x) (hy : FGood y) : D.order x y = some (compare (x % 2 ^ 63) (y % 2 ^ 63)) := by
  unfold Format.order
  rcases hx.cases with ⟨ex, rx⟩ | ⟨lx, nx, mx, px, rx, hpx, vx, zx⟩
  · rcases hy.cases with ⟨ey, ry⟩ | ⟨ly, ny, my, py, ry, hpy, vy, zy⟩
    · rw [rx, ry, ex, ey]
      decide
    · rw [rx, ry]
      show some (if false = true then Ordering.lt else Ordering.gt) = _
      have : compare (x % 2 ^ 63) (y % 2 ^ 63) = .gt := by
        rw [Nat.compare_eq_gt]
        subst ex
        exact ly
      rw [this]; rfl
  · rcases hy.cases with ⟨ey, ry⟩ | ⟨ly, ny, my, py, ry, hpy, vy, zy⟩
    · rw [rx, ry]
      show some (if false = true then Ordering.gt else Ordering.lt) = _
      have : compare (x % 2 ^ 63) (y % 2 ^ 63) = .lt := by
        rw [Nat.compare_eq_lt]
        subst ey
        exact lx
      rw [this]; rfl
    · rw [rx, ry]
      show some (compare (signed nx mx (px - min px py).toNat) (signed ny my (py - min px py).toNat)) = _
      rw [signed_zero zx, signed_zero zy, ← cmp_scale (K := 2 ^ (min px py + 1074).toNat) (Nat.two_pow_pos _)]
      rw [← cmp_V, ← vx, ← vy, ← cmp_nat]
      congr 2
      · push_cast
        rw [Int.mul_assoc, ← Int.pow_add]
        congr 2
        omega
      · push_cast
        rw [Int.mul_assoc, ← Int.pow_add]
        congr 2
        omega
end Go.SL.Flo
set_option linter.unusedSimpArgs false
set_option linter.unusedVariables false
namespace Go.SL.Flo
open Ieee
/-- The place of 1 among the units. It is never written out. -/
def e0 : Nat := 1074
theorem e0_eq : e0 = 1074 := rfl
abbrev c6 : Nat := 4696837146684686336
abbrev c62 : Nat := 4886405595696988160
abbrev c53 : Nat := 4845873199050653696
theorem c6_read0 : D.read c6 = .number false 8589934592000000 (-33) := by decide
theorem c6_read : ∃ M, D.read c6 = .number false M (-33) ∧ M = 1000000 * 2 ^ 33 ∧ M.log2 = 52 := ⟨_, c6_read0, by decide, by decide⟩
/-- A number with few digits is a rung's. -/
theorem rung_of {a k : Nat} (h : a < 2 ^ 53) : ∃ r, V r = a * 2 ^ k := by
  rcases Nat.lt_or_ge (a * 2 ^ k) (2 ^ 52) with hlt | hge
  · refine ⟨a * 2 ^ k, ?_⟩
    rw [V, if_pos hlt]
  · have ha : a ≠ 0 := by
      rintro rfl
      rw [Nat.zero_mul] at hge
      exact absurd hge (by decide)
    have hl := log2_mul_pow ha k
    have h52 : 52 ≤ a.log2 + k := by
      rw [← hl]
      exact (Nat.le_log2 (by omega)).2 hge
    have ha52 : a.log2 ≤ 52 := by
      have := (Nat.log2_lt ha).2 h
      omega
    obtain ⟨j, hj⟩ : ∃ j, a.log2 + k = 52 + j := ⟨a.log2 + k - 52, by omega⟩
    have hjk : j ≤ k := by omega
    have h1 := log2_le (N := a * 2 ^ k) (by omega)
    have h2 := log2_lt (N := a * 2 ^ k)
    rw [hl, hj] at h1 h2
    obtain ⟨m, hm⟩ : ∃ m, a * 2 ^ k = m * 2 ^ j := ⟨a * 2 ^ (k - j), by rw [Nat.mul_assoc, ← Nat.pow_add]; congr 2; omega⟩
    rw [hm] at h1 h2 ⊢
    rw [Nat.pow_add] at h1
    rw [show 52 + j + 1 = 53 + j by omega, Nat.pow_add] at h2
    have hp := Nat.two_pow_pos j
    have m1 : 2 ^ 52 ≤ m := Nat.le_of_mul_le_mul_right h1 hp
    have m2 : m < 2 ^ 53 := Nat.lt_of_mul_lt_mul_right h2
    refine ⟨j * 2 ^ 52 + m, ?_⟩
    have e1 : (j * 2 ^ 52 + m) % 2 ^ 52 = m - 2 ^ 52 := by omega
    have e2 : (j * 2 ^ 52 + m) / 2 ^ 52 = j + 1 := by omega
    rw [V, if_neg (by omega), e1, e2, show 2 ^ 52 + (m - 2 ^ 52) = m by omega, Nat.add_sub_cancel]
/-- The rung of a whole number. -/
def fl (n : Nat) : Nat := R (n * 2 ^ e0) 0
theorem fl_exact {n : Nat} (h : n < 2 ^ 53) : V (fl n) = n * 2 ^ e0 := by
  obtain ⟨r, hr⟩ := rung_of (a := n) (k := e0) h
  unfold fl
  rw [← hr, R_exact0]
theorem le_fl {n r : Nat} (h : V r ≤ n * 2 ^ e0) : r ≤ fl n := le_R (by rw [Nat.pow_zero, Nat.mul_one]; exact h)
theorem fl_le {n r : Nat} (h : n * 2 ^ e0 ≤ V r) : fl n ≤ r := R_le (by rw [Nat.pow_zero, Nat.mul_one]; exact h)
theorem fl_mono {n m : Nat} (h : n ≤ m) : fl n ≤ fl m := R_mono (Nat.mul_le_mul_right _ h)
theorem V_pow {r j : Nat} (h0 : r % 2 ^ 52 = 0) (h1 : r / 2 ^ 52 = 1 + (e0 - 52) + j) : V r = 2 ^ j * 2 ^ e0 := by
  have hr : ¬ r < 2 ^ 52 := by omega
  have := e0_eq
  unfold V
  rw [if_neg hr, h0, h1, Nat.add_zero, ← Nat.pow_add, ← Nat.pow_add]
  congr 1
  omega
theorem V62 : V c62 = 2 ^ 62 * 2 ^ e0 := V_pow (by decide) (by decide)
theorem V53 : V c53 = 2 ^ 53 * 2 ^ e0 := V_pow (by decide) (by decide)
theorem c62_lt : c62 < infR := by decide
theorem fl_top {n : Nat} (h : n ≤ 2 ^ 62) : fl n ≤ c62 := fl_le (by rw [V62]; exact Nat.mul_le_mul_right _ h)
/-- A whole number's word. -/
theorem place0 : ((0 : Int) + 1074).toNat = e0 ∧ (-((0 : Int) + 1074)).toNat = 0 := ⟨rfl, rfl⟩
theorem word_pos (r : Nat) : D.word false r = r := by
  rw [word_eq]
  exact if_neg (by decide)
theorem nearest_word {n : Nat} : D.nearest false n 0 = D.word false (min (R (n * 2 ^ e0) 0) infR) := by
  have h2 : n * 2 ^ e0 * 2 ^ 0 = (n * 2 ^ e0) * 2 ^ 0 := Eq.refl _
  exact nearest_S (neg := false) place0.1 place0.2 h2
theorem fl_min {n : Nat} (h1 : R (n * 2 ^ e0) 0 ≤ infR) : D.word false (min (R (n * 2 ^ e0) 0) infR) = fl n := by
  rw [word_pos, Nat.min_eq_left h1, fl]
theorem R_fits {n : Nat} (h : n ≤ 2 ^ 62) : R (n * 2 ^ e0) 0 ≤ infR := Nat.le_trans (fl_top h) (Nat.le_of_lt c62_lt)
theorem nearest_int {n : Nat} (h : n ≤ 2 ^ 62) : D.nearest false n 0 = fl n := by
  have h1 := @nearest_word n
  have h2 := @fl_min n (R_fits h)
  exact Eq.trans h1 h2
/-- Milliseconds, a million times. -/
def Pm (r : Nat) : Nat := min (R (V r * 1000000) 0) infR
theorem Pm_mono {r s : Nat} (h : r ≤ s) : Pm r ≤ Pm s := by
  have := R_mono (T := 0) (Nat.mul_le_mul_right 1000000 (V_le.2 h))
  unfold Pm
  omega
theorem Pm_inf (r : Nat) : Pm r ≤ infR := Nat.min_le_right _ _
theorem R_up (r : Nat) : r ≤ R (V r * 1000000) 0 := by
  have := R_mono (T := 0) (Nat.le_mul_of_pos_right (V r) (show 0 < 1000000 by omega))
  rwa [R_exact0] at this
theorem Pm_top {r : Nat} (h : r = infR) : Pm r = infR := by
  have h1 := R_up r
  unfold Pm
  exact Nat.min_eq_right (by rw [← h]; exact h1)
theorem key33 {mag M v a b c : Nat} (hM : M = 1000000 * 2 ^ 33) (hv : mag * 2 ^ c = v) (e2 : a + 33 = c + b) : mag * M * 2 ^ a * 2 ^ 0 = v * 1000000 * 2 ^ b := by
  rw [Nat.pow_zero, Nat.mul_one, ← hv, hM]
  have e3 : 2 ^ a * 2 ^ 33 = 2 ^ c * 2 ^ b := by rw [← Nat.pow_add, ← Nat.pow_add, e2]
  generalize 2 ^ 33 = q at *
  generalize 2 ^ a = x at *
  generalize 2 ^ b = y at *
  generalize 2 ^ c = z at *
  calc mag * (1000000 * q) * x = mag * 1000000 * (x * q) := by ac_rfl
    _ = mag * 1000000 * (z * y) := by rw [e3]
    _ = mag * z * 1000000 * y := by ac_rfl
theorem prod_num {neg : Bool} {mag M : Nat} {place q : Int} : (Datum.product (.number neg mag place) (.number false M q)).map D.write = some (D.nearest neg (mag * M) (place + q)) := by
  unfold Datum.product
  simp only [Option.map_some, Bool.xor_false]
  unfold Format.write
  rfl
theorem prod_inf {M : Nat} {q : Int} (h : M ≠ 0) : (Datum.product (.infinity false) (.number false M q)).map D.write = some infR := by
  unfold Datum.product
  simp only [if_neg h, Option.map_some, Bool.xor_false]
  unfold Format.write
  simp only
  rw [D_inf, word_pos]
theorem mod_small {x : Nat} (h : x ≤ infR) : x % 2 ^ 63 = x := Nat.mod_eq_of_lt (Nat.lt_of_le_of_lt h infR_lt)
theorem neg_word {v : Nat} (hv : 0 = v) : FGood (D.word true (min (R (v * 1000000) 0) infR)) ∧ D.word true (min (R (v * 1000000) 0) infR) % 2 ^ 63 = min (R (v * 1000000) 0) infR := by
  subst hv
  rw [Nat.zero_mul, R_zero, Nat.zero_min, word_eq, if_pos rfl]
  exact ⟨.inr (by decide), by decide⟩
theorem word_fin {neg : Bool} {v : Nat} (hz : neg = true → 0 = v) : FGood (D.word neg (min (R (v * 1000000) 0) infR)) ∧ D.word neg (min (R (v * 1000000) 0) infR) % 2 ^ 63 = min (R (v * 1000000) 0) infR := by
  have hP : min (R (v * 1000000) 0) infR ≤ infR := Nat.min_le_right _ _
  cases neg with
  | false =>
    rw [word_pos]
    exact ⟨.inl hP, mod_small hP⟩
  | true => exact neg_word (hz rfl)
theorem mul_c6 {w : Nat} (h : FGood w) : ∃ p, D.mul w c6 = some p ∧ FGood p ∧ p % 2 ^ 63 = Pm (w % 2 ^ 63) := by
  obtain ⟨M, hM, hM2, _⟩ := c6_read
  have hM0 : M ≠ 0 := by rw [hM2]; decide
  unfold Format.mul
  rw [hM]
  clear hM
  rcases h.cases with ⟨e, r⟩ | ⟨l, neg, mag, place, r, hp, hv, hz⟩
  · rw [r, prod_inf hM0]
    refine ⟨infR, rfl, .inl (Nat.le_refl _), ?_⟩
    have hm : w % 2 ^ 63 = w := mod_small (by rw [e]; exact Nat.le_refl _)
    rw [hm, Pm_top e]
    exact mod_small (Nat.le_refl _)
  · have e2 : (place + -33 + 1074).toNat + 33 = (place + 1074).toNat + (-(place + -33 + 1074)).toNat := by omega
    rw [r, prod_num, nearest_R (neg := neg) (key33 hM2 hv e2)]
    exact ⟨_, rfl, word_fin fun hn => by rw [← hv, hz hn, Nat.zero_mul]⟩
/-- A good word, cut to a whole number. -/
theorem toInt_good {w : Nat} (h : FGood w) (hlt : w % 2 ^ 63 < infR) : (D.read w).toInt .zero = some ((V (w % 2 ^ 63) / 2 ^ e0 : Nat) : Int) := by
  rcases h.cases with ⟨e, r⟩ | ⟨l, neg, mag, place, r, hp, hv, hz⟩
  · subst e
    rw [Nat.mod_eq_of_lt infR_lt] at hlt
    exact absurd hlt (Nat.lt_irrefl _)
  · rw [r]
    unfold Datum.toInt Datum.integral
    simp only
    have hcut : Toward.zero.cut neg (mag <<< place.toNat) (-place).toNat = V (w % 2 ^ 63) / 2 ^ e0 := by
      have h1 : Toward.zero.cut neg (mag <<< place.toNat) (-place).toNat = mag * 2 ^ place.toNat / 2 ^ (-place).toNat := by
        unfold Toward.cut
        simp only [Bool.toNat_false, Nat.add_zero, shl, Nat.one_mul]
        rcases Nat.le_total (-place).toNat ((mag * 2 ^ place.toNat).log2 + 2) with hd | hd
        · rw [Nat.min_eq_left hd]
        · rw [Nat.min_eq_right hd]
          have h3 := log2_lt (N := mag * 2 ^ place.toNat)
          have h4 : 2 ^ ((mag * 2 ^ place.toNat).log2 + 1) ≤ 2 ^ ((mag * 2 ^ place.toNat).log2 + 2) := Nat.pow_le_pow_right (by omega) (by omega)
          have h5 : 2 ^ ((mag * 2 ^ place.toNat).log2 + 2) ≤ 2 ^ (-place).toNat := Nat.pow_le_pow_right (by omega) hd
          rw [Nat.div_eq_of_lt (by omega), Nat.div_eq_of_lt (by omega)]
      rw [h1, ← hv]
      have he := e0_eq
      rw [← Nat.mul_div_mul_right (mag * 2 ^ place.toNat) (2 ^ (-place).toNat) (Nat.two_pow_pos (place + 1074).toNat), ← Nat.mul_div_mul_right (mag * 2 ^ (place + 1074).toNat) (2 ^ e0) (Nat.two_pow_pos place.toNat)]
      rw [Nat.mul_assoc, Nat.mul_assoc, ← Nat.pow_add, ← Nat.pow_add, ← Nat.pow_add, ← Nat.pow_add]
      rw [show place.toNat + (place + 1074).toNat = (place + 1074).toNat + place.toNat by omega, show (-place).toNat + (place + 1074).toNat = e0 + place.toNat by omega]
    rw [hcut]
    have hz2 : neg = true → V (w % 2 ^ 63) / 2 ^ e0 = 0 := fun hn => by
      rw [← hv, hz hn, Nat.zero_mul, Nat.zero_div]
    rw [signed_zero hz2, Nat.pow_zero, Nat.mul_one]
/-- The span of a good word. -/
def nanosR (r : Nat) : Nat := if c62 ≤ Pm r then 2 ^ 62 else V (Pm r) / 2 ^ e0
theorem nanosR_le (r : Nat) : nanosR r ≤ 2 ^ 62 := by
  unfold nanosR
  split
  · exact Nat.le_refl _
  · rename_i h
    have h1 : V (Pm r) < 2 ^ 62 * 2 ^ e0 := by rw [← V62]; exact V_lt.2 (by omega)
    exact Nat.le_of_lt ((Nat.div_lt_iff_lt_mul (Nat.two_pow_pos _)).2 h1)
theorem nanosR_mono {r s : Nat} (h : r ≤ s) : nanosR r ≤ nanosR s := by
  have hp := Pm_mono h
  by_cases hs : c62 ≤ Pm s
  · have : nanosR s = 2 ^ 62 := by unfold nanosR; rw [if_pos hs]
    rw [this]; exact nanosR_le r
  · have hr : ¬ c62 ≤ Pm r := by omega
    unfold nanosR
    rw [if_neg hs, if_neg hr]
    exact Nat.div_le_div_right (V_le.2 hp)
/-- A digit's test, of the document's answer. -/
theorem digit_test {p m : Nat} (hp : p < c62) (hm : m ≤ 2 ^ 62) : (fl m ≤ p ∧ (if c53 ≤ p then m ≤ V p / 2 ^ e0 else fl m ≤ p)) ↔ m ≤ V p / 2 ^ e0 := by
  have hfl : m ≤ V p / 2 ^ e0 → fl m ≤ p := fun h => fl_le ((Nat.le_div_iff_mul_le (Nat.two_pow_pos _)).1 h)
  constructor
  · rintro ⟨h1, h2⟩
    by_cases hc : c53 ≤ p
    · rw [if_pos hc] at h2; exact h2
    · rw [Nat.le_div_iff_mul_le (Nat.two_pow_pos _)]
      rcases Nat.lt_or_ge m (2 ^ 53) with hlt | hge
      · rw [← fl_exact hlt]; exact V_le.2 h1
      · have : c53 ≤ fl m := le_fl (by rw [V53]; exact Nat.mul_le_mul_right _ hge)
        omega
  · intro h
    refine ⟨hfl h, ?_⟩
    split
    · exact h
    · exact hfl h
end Go.SL.Flo
set_option linter.unusedSimpArgs false
set_option linter.unusedVariables false
namespace Go.SL.Flo
open Ieee
attribute [local irreducible] e0
theorem good_of_le {r : Nat} (h : r ≤ infR) : FGood r := .inl h
theorem fl_good {n : Nat} (h : n ≤ 2 ^ 62) : FGood (fl n) := .inl (Nat.le_trans (fl_top h) (Nat.le_of_lt c62_lt))
theorem fl_mod {n : Nat} (h : n ≤ 2 ^ 62) : fl n % 2 ^ 63 = fl n := mod_small (Nat.le_trans (fl_top h) (Nat.le_of_lt c62_lt))
/-- The span of a whole number of milliseconds. -/
theorem nanos_whole {k : Nat} (h : k * 1000000 < 2 ^ 53) : nanosR (fl k) = k * 1000000 := by
  have hk : k < 2 ^ 53 := by omega
  have e1 : V (fl k) * 1000000 = k * 1000000 * 2 ^ e0 := by rw [fl_exact hk]; ac_rfl
  have e2 : R (V (fl k) * 1000000) 0 = fl (k * 1000000) := by rw [e1, fl]
  have hlt : k * 1000000 ≤ 2 ^ 62 := by omega
  have hP : Pm (fl k) = fl (k * 1000000) := by
    unfold Pm
    rw [e2]
    exact Nat.min_eq_left (Nat.le_trans (fl_top hlt) (Nat.le_of_lt c62_lt))
  have hn : ¬ c62 ≤ fl (k * 1000000) := by
    intro hc
    have := V_le.2 hc
    rw [V62, fl_exact h] at this
    have := Nat.le_of_mul_le_mul_right this (Nat.two_pow_pos e0)
    omega
  unfold nanosR
  rw [hP, if_neg hn, fl_exact h, Nat.mul_div_cancel _ (Nat.two_pow_pos e0)]
/-- What is read of a whole number's word. -/
theorem fl_read {c : Nat} (h0 : 0 < c) (h : c < 2 ^ 53) : ∃ m E : Nat, D.read (fl c) = .number false m ((E : Int) - 1074) ∧ m * 2 ^ E = c * 2 ^ e0 ∧ m.log2 = 52 ∧ E ≤ e0 := by
  have hle : c ≤ 2 ^ 62 := by omega
  have hV := fl_exact h
  have hlt : fl c < infR := Nat.lt_of_le_of_lt (fl_top hle) c62_lt
  have hm := fl_mod hle
  have hd : fl c / 2 ^ 63 = 0 := Nat.div_eq_of_lt (Nat.lt_trans hlt infR_lt)
  obtain ⟨mag, place, e, hp, hv, hl⟩ := read_num (w := fl c) (by rw [hm]; exact hlt)
  rw [hm] at hv hl
  have h52 : 2 ^ 52 ≤ fl c := by
    rcases Nat.lt_or_ge (fl c) (2 ^ 52) with hs | hs
    · have : V (fl c) = fl c := by rw [V, if_pos hs]
      rw [this] at hV
      have h3 : 2 ^ 52 ≤ 2 ^ e0 := Nat.pow_le_pow_right (by omega) (by have := e0_eq; omega)
      have h4 : 1 * 2 ^ e0 ≤ c * 2 ^ e0 := Nat.mul_le_mul_right _ h0
      omega
    · exact hs
  have hlog := hl h52
  obtain ⟨E, hE⟩ : ∃ E : Nat, (place + 1074).toNat = E := ⟨_, rfl⟩
  have hpl : place = (E : Int) - 1074 := by omega
  rw [hd] at e
  rw [hE, hV] at hv
  refine ⟨mag, E, by rw [e, hpl]; rfl, hv, hlog, ?_⟩
  have hc0 : c ≠ 0 := by omega
  have hm0 : mag ≠ 0 := by
    rintro rfl
    rw [Nat.zero_mul] at hv
    have := Nat.mul_pos h0 (Nat.two_pow_pos e0)
    omega
  have h1 := log2_mul_pow hm0 E
  have h2 := log2_mul_pow hc0 e0
  rw [hv, h2] at h1
  have h3 : c.log2 ≤ 52 := by
    have := (Nat.log2_lt hc0).2 h
    omega
  omega
/-- The quotient of a whole number by a million, by its parts. -/
theorem quo_form {c : Nat} (h0 : 0 < c) (h : c < 2 ^ 53) : ∃ m E M : Nat, m * 2 ^ E = c * 2 ^ e0 ∧ E ≤ e0 ∧ M = 1000000 * 2 ^ 33 ∧
    D.div (fl c) c6 = some (D.nearest false (2 * (m * 2 ^ 54 / M) + (m * 2 ^ 54 % M != 0).toNat) ((E : Int) - 1074 - -33 - (54 : Nat) - 1)) := by
  obtain ⟨m, E, hr, hv, hl, hE⟩ := fl_read h0 h
  obtain ⟨M, hM, hM2, hMl⟩ := c6_read
  have hM0 : M ≠ 0 := by rw [hM2]; decide
  refine ⟨m, E, M, hv, hE, hM2, ?_⟩
  unfold Format.div
  rw [hr, hM]
  unfold Datum.quotient
  simp only [if_neg hM0, Option.map_some, Bool.xor_false]
  unfold Format.write
  simp only
  rw [hl, hMl, show D.fractionBits + 2 + 52 - 52 = 54 by decide, shl]
theorem quo_units {Q E : Nat} : ∃ S T : Nat, (((E : Int) - 1074 - -33 - (54 : Nat) - 1) + 1074).toNat = S ∧ (-(((E : Int) - 1074 - -33 - (54 : Nat) - 1) + 1074)).toNat = T ∧ Q * 2 ^ S * 2 ^ 22 = (Q * 2 ^ E) * 2 ^ T := by
  refine ⟨_, _, rfl, rfl, ?_⟩
  rw [Nat.mul_assoc, Nat.mul_assoc, ← Nat.pow_add, ← Nat.pow_add]
  congr 2
  omega
/-- A whole number's millionth, as a rung. -/
theorem quo_rung {c : Nat} (h0 : 0 < c) (h : c < 2 ^ 53) : ∃ m E M : Nat, m * 2 ^ E = c * 2 ^ e0 ∧ E ≤ e0 ∧ M = 1000000 * 2 ^ 33 ∧
    D.div (fl c) c6 = some (min (R ((2 * (m * 2 ^ 54 / M) + (m * 2 ^ 54 % M != 0).toNat) * 2 ^ E) 22) infR) := by
  obtain ⟨m, E, M, hv, hE, hM, hd⟩ := quo_form h0 h
  refine ⟨m, E, M, hv, hE, hM, ?_⟩
  rw [hd]
  obtain ⟨S, T, hS, hT, hq⟩ := quo_units (Q := 2 * (m * 2 ^ 54 / M) + (m * 2 ^ 54 % M != 0).toNat) (E := E)
  rw [nearest_S hS hT hq, word_pos]
/-- What lies below a millionth, and above it. -/
theorem quo_low {m E M c t : Nat} (hv : m * 2 ^ E = c * 2 ^ e0) (hE : E ≤ e0) (hM : M = 1000000 * 2 ^ 33) (ht : t * 1000000 ≤ c * 2 ^ 20) :
    t * 2 ^ (e0 - 20) * 2 ^ 22 ≤ (2 * (m * 2 ^ 54 / M) + (m * 2 ^ 54 % M != 0).toNat) * 2 ^ E := by
  have he := e0_eq
  have hMp : 0 < M := by rw [hM]; decide
  -- t * 2 ^ (e0 - 20 + 22) = 2 * z * 2 ^ E with z whole
  have hz : t * 2 ^ (e0 - 20) * 2 ^ 22 = 2 * (t * 2 ^ (e0 + 1 - E)) * 2 ^ E := by
    rw [Nat.mul_comm 2, Nat.mul_assoc, Nat.mul_assoc, Nat.mul_assoc, ← Nat.pow_add, ← Nat.pow_succ', ← Nat.pow_add]
    congr 2
    omega
  rw [hz]
  refine Nat.mul_le_mul_right _ (Nat.le_trans (Nat.mul_le_mul_left 2 ?_) (Nat.le_add_right _ _))
  rw [Nat.le_div_iff_mul_le hMp, hM]
  refine Nat.le_of_mul_le_mul_right (c := 2 ^ E) ?_ (Nat.two_pow_pos E)
  calc t * 2 ^ (e0 + 1 - E) * (1000000 * 2 ^ 33) * 2 ^ E = t * 1000000 * (2 ^ (e0 + 1 - E) * 2 ^ E * 2 ^ 33) := by ac_rfl
    _ ≤ c * 2 ^ 20 * (2 ^ (e0 + 1 - E) * 2 ^ E * 2 ^ 33) := Nat.mul_le_mul_right _ ht
    _ = c * (2 ^ (e0 + 1 - E) * 2 ^ E * 2 ^ 33 * 2 ^ 20) := by ac_rfl
    _ = c * (2 ^ e0 * 2 ^ 54) := by
      rw [← Nat.pow_add, ← Nat.pow_add, ← Nat.pow_add, ← Nat.pow_add]
      congr 2
      omega
    _ = m * 2 ^ E * 2 ^ 54 := by rw [hv]; ac_rfl
    _ = m * 2 ^ 54 * 2 ^ E := by ac_rfl
theorem quo_top {X M z : Nat} (hMp : 0 < M) (hle : X ≤ z * M) : 2 * (X / M) + (X % M != 0).toNat ≤ 2 * z := by
  have h1 := Nat.div_add_mod X M
  by_cases hr : X % M = 0
  · rw [hr]
    have : X / M ≤ z := Nat.div_le_of_le_mul (by rw [Nat.mul_comm]; exact hle)
    simp
    omega
  · have hlt : X / M < z := (Nat.div_lt_iff_lt_mul hMp).2 (by
      rcases Nat.lt_or_ge X (z * M) with h | h
      · exact h
      · obtain rfl : X = z * M := by omega
        exact absurd (Nat.mul_mod_left z M) hr)
    have : (X % M != 0).toNat ≤ 1 := by cases (X % M != 0) <;> simp
    omega
theorem quo_high {m E M c t : Nat} (hv : m * 2 ^ E = c * 2 ^ e0) (hE : E ≤ e0) (hM : M = 1000000 * 2 ^ 33) (ht : c * 2 ^ 20 ≤ t * 1000000) :
    (2 * (m * 2 ^ 54 / M) + (m * 2 ^ 54 % M != 0).toNat) * 2 ^ E ≤ t * 2 ^ (e0 - 20) * 2 ^ 22 := by
  have he := e0_eq
  have hMp : 0 < M := by rw [hM]; decide
  have hz : t * 2 ^ (e0 - 20) * 2 ^ 22 = 2 * (t * 2 ^ (e0 + 1 - E)) * 2 ^ E := by
    rw [Nat.mul_comm 2, Nat.mul_assoc, Nat.mul_assoc, Nat.mul_assoc, ← Nat.pow_add, ← Nat.pow_succ', ← Nat.pow_add]
    congr 2
    omega
  rw [hz]
  refine Nat.mul_le_mul_right _ ?_
  have hle : m * 2 ^ 54 ≤ t * 2 ^ (e0 + 1 - E) * M := by
    rw [hM]
    refine Nat.le_of_mul_le_mul_right (c := 2 ^ E) ?_ (Nat.two_pow_pos E)
    calc m * 2 ^ 54 * 2 ^ E = m * 2 ^ E * 2 ^ 54 := by ac_rfl
      _ = c * (2 ^ e0 * 2 ^ 54) := by rw [hv]; ac_rfl
      _ = c * (2 ^ (e0 + 1 - E) * 2 ^ E * 2 ^ 33 * 2 ^ 20) := by
        rw [← Nat.pow_add, ← Nat.pow_add, ← Nat.pow_add, ← Nat.pow_add]
        congr 2
        omega
      _ = c * 2 ^ 20 * (2 ^ (e0 + 1 - E) * 2 ^ E * 2 ^ 33) := by ac_rfl
      _ ≤ t * 1000000 * (2 ^ (e0 + 1 - E) * 2 ^ E * 2 ^ 33) := Nat.mul_le_mul_right _ ht
      _ = t * 2 ^ (e0 + 1 - E) * (1000000 * 2 ^ 33) * 2 ^ E := by ac_rfl
  exact quo_top hMp hle
/-- A whole number's millionth lies between what a twentieth place tells. -/
theorem quo_between {c : Nat} (h0 : 0 < c) (h : c < 2 ^ 53) : ∃ q, D.div (fl c) c6 = some q ∧ FGood q ∧ q % 2 ^ 63 = q ∧
    (∀ t, t * 1000000 ≤ c * 2 ^ 20 → ∀ r, V r = t * 2 ^ (e0 - 20) → r ≤ infR → r ≤ q) ∧ (∀ t, c * 2 ^ 20 ≤ t * 1000000 → ∀ r, V r = t * 2 ^ (e0 - 20) → q ≤ r) := by
  obtain ⟨m, E, M, hv, hE, hM, hd⟩ := quo_rung h0 h
  refine ⟨_, hd, .inl (Nat.min_le_right _ _), mod_small (Nat.min_le_right _ _), fun t ht r hr hi => ?_, fun t ht r hr => ?_⟩
  · exact Nat.le_min.2 ⟨le_R (by rw [hr]; exact quo_low hv hE hM ht), hi⟩
  · exact Nat.le_trans (Nat.min_le_left _ _) (R_le (by rw [hr]; exact quo_high hv hE hM ht))
theorem V_t {t : Nat} (h : t < 2 ^ 53) : ∃ r, V r = t * 2 ^ (e0 - 20) ∧ r ≤ c62 := by
  obtain ⟨r, hr⟩ := rung_of (a := t) (k := e0 - 20) h
  refine ⟨r, hr, V_le.1 ?_⟩
  rw [hr, V62]
  have he := e0_eq
  have h1 : 2 ^ (e0 - 20) ≤ 2 ^ e0 := Nat.pow_le_pow_right (by omega) (by omega)
  exact Nat.le_trans (Nat.mul_le_mul_left t h1) (Nat.mul_le_mul_right _ (by omega))
theorem pow20 (t : Nat) : t * 2 ^ 20 * 2 ^ (e0 - 20) = t * 2 ^ e0 := by
  have he := e0_eq
  rw [Nat.mul_assoc, ← Nat.pow_add]
  congr 2
  omega
theorem div_zero : D.div (fl 0) c6 = some 0 := by
  have : fl 0 = 0 := by unfold fl; rw [Nat.zero_mul, R_zero]
  rw [this]
  decide
/-- A whole number of milliseconds, told of its span. -/
theorem millis_whole {k : Nat} (h : k ≤ 8589934592) : D.div (fl (k * 1000000)) c6 = some (fl k) := by
  rcases Nat.eq_zero_or_pos k with rfl | h0
  · rw [Nat.zero_mul, div_zero]
    have : fl 0 = 0 := by unfold fl; rw [Nat.zero_mul, R_zero]
    rw [this]
  · obtain ⟨q, hq, _, _, hlow, hhigh⟩ := quo_between (c := k * 1000000) (by omega) (by omega)
    have hV : V (fl k) = k * 2 ^ 20 * 2 ^ (e0 - 20) := by rw [pow20, fl_exact (by omega)]
    have ht : k * 2 ^ 20 * 1000000 = k * 1000000 * 2 ^ 20 := by omega
    have hi : fl k ≤ infR := Nat.le_trans (fl_top (by omega)) (Nat.le_of_lt c62_lt)
    have h1 := hlow (k * 2 ^ 20) (Nat.le_of_eq ht) _ hV hi
    have h2 := hhigh (k * 2 ^ 20) (Nat.le_of_eq ht.symm) _ hV
    rw [hq]
    exact congrArg some (Nat.le_antisymm h2 h1)
theorem nanos_ge {q n : Nat} (hn : n < 2 ^ 53) (h : n * 2 ^ e0 ≤ V q * 1000000) : n ≤ nanosR q := by
  have h1 : fl n ≤ R (V q * 1000000) 0 := le_R (by rw [Nat.pow_zero, Nat.mul_one, fl_exact hn]; exact h)
  have hP : fl n ≤ Pm q := Nat.le_min.2 ⟨h1, Nat.le_trans (fl_top (by omega)) (Nat.le_of_lt c62_lt)⟩
  unfold nanosR
  split
  · omega
  · rw [Nat.le_div_iff_mul_le (Nat.two_pow_pos _), ← fl_exact hn]
    exact V_le.2 hP
theorem nanos_le {q n : Nat} (hn : n < 2 ^ 53) (h : V q * 1000000 ≤ n * 2 ^ e0) : nanosR q ≤ n := by
  have h1 : R (V q * 1000000) 0 ≤ fl n := R_le (by rw [Nat.pow_zero, Nat.mul_one, fl_exact hn]; exact h)
  have hP : Pm q ≤ fl n := Nat.le_trans (Nat.min_le_left _ _) h1
  have hlt : fl n < c62 := by
    have : V (fl n) < V c62 := by
      rw [fl_exact hn, V62]
      exact Nat.mul_lt_mul_of_pos_right (by omega) (Nat.two_pow_pos _)
    exact V_lt.1 this
  unfold nanosR
  rw [if_neg (by omega)]
  have h2 := V_le.2 hP
  rw [fl_exact hn] at h2
  exact Nat.div_le_of_le_mul (by rw [Nat.mul_comm]; exact h2)
theorem near_arith {m t : Nat} (h0 : 0 < m) (h1 : t * 1000000 ≤ m * 2 ^ 20) (h2 : m * 2 ^ 20 < (t + 1) * 1000000) : (m - 1) * 2 ^ 20 ≤ t * 1000000 ∧ (t + 1) * 1000000 ≤ (m + 1) * 2 ^ 20 := by
  have e : (2 : Nat) ^ 20 = 1048576 := by decide
  rw [e] at *
  omega
/-- A span told as milliseconds, and back. -/
theorem back_near {m : Nat} (h : m < 4503599627370496) : ∃ q, D.div (fl m) c6 = some q ∧ FGood q ∧ m ≤ nanosR (q % 2 ^ 63) + 1 ∧ nanosR (q % 2 ^ 63) ≤ m + 1 := by
  rcases Nat.eq_zero_or_pos m with rfl | h0
  · refine ⟨0, div_zero, .inl (by decide), by omega, ?_⟩
    have := nanos_le (q := 0) (n := 0) (by decide) (by rw [show V 0 = 0 by decide]; simp)
    rw [Nat.zero_mod]
    omega
  · obtain ⟨q, hq, hg, hmod, hlow, hhigh⟩ := quo_between (c := m) h0 (by omega)
    refine ⟨q, hq, hg, ?_⟩
    rw [hmod]
    obtain ⟨t, ht1, ht2⟩ : ∃ t, t * 1000000 ≤ m * 2 ^ 20 ∧ m * 2 ^ 20 < (t + 1) * 1000000 := ⟨m * 2 ^ 20 / 1000000, by omega, by omega⟩
    have htl : t + 1 < 2 ^ 53 := by omega
    obtain ⟨k1, k2⟩ := near_arith h0 ht1 ht2
    obtain ⟨r1, hr1, hi1⟩ := V_t (t := t) (by omega)
    obtain ⟨r2, hr2, _⟩ := V_t (t := t + 1) htl
    have h1 := V_le.2 (hlow t ht1 r1 hr1 (Nat.le_trans hi1 (Nat.le_of_lt c62_lt)))
    have h2 := V_le.2 (hhigh (t + 1) (Nat.le_of_lt ht2) r2 hr2)
    rw [hr1] at h1
    rw [hr2] at h2
    constructor
    · have := nanos_ge (q := q) (n := m - 1) (by omega) (by
        rw [← pow20]
        refine Nat.le_trans ?_ (Nat.mul_le_mul_right 1000000 h1)
        rw [Nat.mul_right_comm t]
        exact Nat.mul_le_mul_right (2 ^ (e0 - 20)) k1)
      omega
    · exact nanos_le (q := q) (n := m + 1) (by omega) (by
        rw [← pow20]
        refine Nat.le_trans (Nat.mul_le_mul_right 1000000 h2) ?_
        rw [Nat.mul_right_comm (t + 1)]
        exact Nat.mul_le_mul_right (2 ^ (e0 - 20)) k2)
end Go.SL.Flo
set_option linter.unusedSimpArgs false
set_option linter.unusedVariables false
namespace Go.SL
open Go Go.RowKit
class FltTy (P : Program) (t : TypeId) : Prop where
  eq : P.underlying t = some (.float .f64)
class SomeTy (P : Program) (t : TypeId) : Prop where
  eq : (P.underlying t).isSome = true
instance {P : Program} {t : TypeId} [i : FltTy P t] : SomeTy P t := ⟨by rw [i.eq]; rfl⟩
abbrev flt (w : Nat) : Value := .float .f64 w
theorem nan_cut (p q t : Nat) : (Question.nanBits .f64 p q).cut t < 2 ^ 64 ∧ ¬ Flo.FGood ((Question.nanBits .f64 p q).cut t) := by
  have e : (Question.nanBits .f64 p q).cut t = (t % 2) * 2 ^ 63 + 0x7ff0000000000000 + 1 + (t / 2) % (2 ^ 52 - 1) := rfl
  rw [e]
  have h1 : (t / 2) % (2 ^ 52 - 1) < 2 ^ 52 - 1 := Nat.mod_lt _ (by omega)
  have h2 : t % 2 < 2 := Nat.mod_lt _ (by omega)
  have hi : Flo.infR = 0x7ff0000000000000 := by decide
  refine ⟨by omega, ?_⟩
  unfold Flo.FGood
  rw [hi]
  omega
section
variable {ro : Option Nat} {P : Program} {B : World} {n : Nat} {ops : Array Oper} {rest : List Oper} {fr : Fr} {H F : HProp} {Q : Post}
variable {d : Nat} {ty : TypeId} {pos : String} {after : Array Edge}
theorem s_fmul {t yt : TypeId} {x y : Operand} {p q r : Nat} (hx : ev fr x = flt p) (hy : ev fr y = flt q) (hr : Flo.D.mul p q = some r) (hd : Nat.blt d n = true)
    (k : WPL ro P B n ops rest (fr.put d (flt r)) H Q) : WPL ro P B n ops (⟨some d, .binOp .mul t x y yt, ty, pos, after, none⟩ :: rest) fr H Q :=
  step_pure hd (fun w => by
    have : execOp (ev fr) ⟨some d, .binOp .mul t x y yt, ty, pos, after, none⟩ = (do Pure.pure (Next.value (← (do eqGuard .mul t x y (ev fr x) (ev fr y); binOp .mul t (ev fr x) (ev fr y))))) := rfl
    rw [this, hx, hy]
    simp [eqGuard, run_float_arith w .mul t .f64 p q r hr]) k
/-- A product that is none: any double may come. -/
theorem s_fmulN {t yt : TypeId} {x y : Operand} {p q : Nat} (hx : ev fr x = flt p) (hy : ev fr y = flt q) (hr : Flo.D.mul p q = none) (hd : Nat.blt d n = true)
    (k : ∀ r, r < 2 ^ 64 → ¬ Flo.FGood r → WPL ro P B n ops rest (fr.put d (flt r)) H Q) : WPL ro P B n ops (⟨some d, .binOp .mul t x y yt, ty, pos, after, none⟩ :: rest) fr H Q :=
  step_val hd (fun w hw => by
    have e : execOp (ev fr) ⟨some d, .binOp .mul t x y yt, ty, pos, after, none⟩ = (do Pure.pure (Next.value (← (do eqGuard .mul t x y (ev fr x) (ev fr y); binOp .mul t (ev fr x) (ev fr y))))) := rfl
    refine ⟨flt ((Question.nanBits .f64 p q).cut (w.tape w.drawn (.nanBits .f64 p q))), w.drew, H, ?_, hw.drew, k _ (nan_cut _ _ _).1 (nan_cut _ _ _).2⟩
    rw [e, hx, hy]
    have hf : (Question.nanBits .f64 p q).forced = false := rfl
    have hr2 : FloatKind.f64.format.mul p q = none := hr
    simp [eqGuard, binOp, Op.floatArith, hr2, hf])
theorem s_fquo {t yt : TypeId} {x y : Operand} {p q r : Nat} (hx : ev fr x = flt p) (hy : ev fr y = flt q) (hr : Flo.D.div p q = some r) (hd : Nat.blt d n = true)
    (k : WPL ro P B n ops rest (fr.put d (flt r)) H Q) : WPL ro P B n ops (⟨some d, .binOp .quo t x y yt, ty, pos, after, none⟩ :: rest) fr H Q :=
  step_pure hd (fun w => by
    have : execOp (ev fr) ⟨some d, .binOp .quo t x y yt, ty, pos, after, none⟩ = (do Pure.pure (Next.value (← (do eqGuard .quo t x y (ev fr x) (ev fr y); binOp .quo t (ev fr x) (ev fr y))))) := rfl
    rw [this, hx, hy]
    simp [eqGuard, run_float_arith w .quo t .f64 p q r hr]) k
theorem s_fquoN {t yt : TypeId} {x y : Operand} {p q : Nat} (hx : ev fr x = flt p) (hy : ev fr y = flt q) (hr : Flo.D.div p q = none) (hd : Nat.blt d n = true)
    (k : ∀ r, r < 2 ^ 64 → ¬ Flo.FGood r → WPL ro P B n ops rest (fr.put d (flt r)) H Q) : WPL ro P B n ops (⟨some d, .binOp .quo t x y yt, ty, pos, after, none⟩ :: rest) fr H Q :=
  step_val hd (fun w hw => by
    have e : execOp (ev fr) ⟨some d, .binOp .quo t x y yt, ty, pos, after, none⟩ = (do Pure.pure (Next.value (← (do eqGuard .quo t x y (ev fr x) (ev fr y); binOp .quo t (ev fr x) (ev fr y))))) := rfl
    refine ⟨flt ((Question.nanBits .f64 p q).cut (w.tape w.drawn (.nanBits .f64 p q))), w.drew, H, ?_, hw.drew, k _ (nan_cut _ _ _).1 (nan_cut _ _ _).2⟩
    rw [e, hx, hy]
    have hf : (Question.nanBits .f64 p q).forced = false := rfl
    have hr2 : FloatKind.f64.format.div p q = none := hr
    simp [eqGuard, binOp, Op.floatArith, hr2, hf])
/-- What a comparison tells of an order. -/
def cmpOf : BinOp → Option Ordering → Bool
  | .eql, c => c == some .eq
  | .neq, c => c != some .eq
  | .lss, c => c == some .lt
  | .leq, c => c == some .lt || c == some .eq
  | .gtr, c => c == some .gt
  | .geq, c => c == some .gt || c == some .eq
  | _, _ => false
def isCmp : BinOp → Bool
  | .eql | .neq | .lss | .leq | .gtr | .geq => true
  | _ => false
theorem s_fcmp {op : BinOp} {t yt : TypeId} {x y : Operand} {p q : Nat} {b : Bool} (hx : ev fr x = flt p) (hy : ev fr y = flt q) (ho : isCmp op = true) (hb : cmpOf op (Flo.D.order p q) = b) (hd : Nat.blt d n = true)
    (k : WPL ro P B n ops rest (fr.put d (.bool b)) H Q) : WPL ro P B n ops (⟨some d, .binOp op t x y yt, ty, pos, after, none⟩ :: rest) fr H Q :=
  step_pure hd (fun w => by
    have : execOp (ev fr) ⟨some d, .binOp op t x y yt, ty, pos, after, none⟩ = (do Pure.pure (Next.value (← (do eqGuard op t x y (ev fr x) (ev fr y); binOp op t (ev fr x) (ev fr y))))) := rfl
    rw [this, hx, hy]
    subst hb
    cases op <;> first | (cases ho; done) | (simp [eqGuard, binOp, Op.floatCmp, cmpOf]; rfl) | simp [eqGuard, binOp, Op.floatCmp, cmpOf]) k
theorem s_itof {src dst : TypeId} {x : Operand} {kd : IntKind} {p : Int} [i : SomeTy P src] [j : FltTy P dst] (hx : ev fr x = .int kd p) {r : Nat} (hr : FloatKind.f64.nearest p = r) (hd : Nat.blt d n = true)
    (k : WPL ro P B n ops rest (fr.put d (flt r)) H Q) : WPL ro P B n ops (⟨some d, .convert src dst x, ty, pos, after, none⟩ :: rest) fr H Q :=
  step_pure hd (fun w => by
    have : execOp (ev fr) ⟨some d, .convert src dst x, ty, pos, after, none⟩ = (do Pure.pure (Next.value (← convert src dst (ev fr x)))) := rfl
    rw [this, hx]
    subst hr
    simp [run_convert_int_float w src dst kd .f64 p i.eq j.eq, floatOfInt]) k
theorem s_ftoi {src dst : TypeId} {x : Operand} {kd : IntKind} {p : Nat} {r : Int} [i : FltTy P src] (hdst : P.underlying dst = some (.int kd)) (hx : ev fr x = flt p) (hr : (Flo.D.read p).toInt .zero = some r) (h0 : kd.min ≤ r) (h1 : r ≤ kd.max) (hd : Nat.blt d n = true)
    (k : WPL ro P B n ops rest (fr.put d (.int kd r)) H Q) : WPL ro P B n ops (⟨some d, .convert src dst x, ty, pos, after, none⟩ :: rest) fr H Q :=
  step_pure hd (fun w => by
    have : execOp (ev fr) ⟨some d, .convert src dst x, ty, pos, after, none⟩ = (do Pure.pure (Next.value (← convert src dst (ev fr x)))) := rfl
    rw [this, hx]
    have hv : floatToIntVal .f64 p kd = some r := by
      unfold floatToIntVal
      have e : (FloatKind.f64.decode p).toInt .zero = some r := hr
      rw [e]
      simp [h0, h1]
    simp [run_convert_float_int w src dst .f64 kd p r (by rw [i.eq]; rfl) hdst hv]) k
theorem s_fneg {t : TypeId} {x : Operand} {p : Nat} (hx : ev fr x = flt p) (hd : Nat.blt d n = true)
    (k : WPL ro P B n ops rest (fr.put d (flt (p ^^^ 2 ^ 63))) H Q) : WPL ro P B n ops (⟨some d, .unOp .neg t x, ty, pos, after, none⟩ :: rest) fr H Q :=
  step_pure hd (fun w => by
    have : execOp (ev fr) ⟨some d, .unOp .neg t x, ty, pos, after, none⟩ = (do Pure.pure (Next.value (← Op.unary .neg (ev fr x)))) := rfl
    rw [this, hx]
    rfl) k
end
end Go.SL
set_option linter.unusedSimpArgs false
set_option linter.unusedVariables false
namespace Go.SL.Flo
open Ieee
attribute [local irreducible] e0
theorem good0 : FGood 0 := .inl (Nat.zero_le _)
theorem good62 : FGood c62 := .inl (Nat.le_of_lt c62_lt)
theorem good53 : FGood c53 := .inl (by decide)
theorem mod62 : c62 % 2 ^ 63 = c62 := by decide
theorem mod53 : c53 % 2 ^ 63 = c53 := by decide
theorem cmp_geq {x y : Nat} (hx : FGood x) (hy : FGood y) : cmpOf .geq (D.order x y) = decide (y % 2 ^ 63 ≤ x % 2 ^ 63) := by
  rw [order_good hx hy]
  generalize x % 2 ^ 63 = a
  generalize y % 2 ^ 63 = b
  unfold cmpOf
  rcases Nat.lt_trichotomy a b with h | h | h
  · rw [Nat.compare_eq_lt.2 h, decide_eq_false (by omega)]; rfl
  · rw [Nat.compare_eq_eq.2 h, decide_eq_true (by omega)]; rfl
  · rw [Nat.compare_eq_gt.2 h, decide_eq_true (by omega)]; rfl
theorem cmp_leq {x y : Nat} (hx : FGood x) (hy : FGood y) : cmpOf .leq (D.order x y) = decide (x % 2 ^ 63 ≤ y % 2 ^ 63) := by
  rw [order_good hx hy]
  generalize x % 2 ^ 63 = a
  generalize y % 2 ^ 63 = b
  unfold cmpOf
  rcases Nat.lt_trichotomy a b with h | h | h
  · rw [Nat.compare_eq_lt.2 h, decide_eq_true (by omega)]; rfl
  · rw [Nat.compare_eq_eq.2 h, decide_eq_true (by omega)]; rfl
  · rw [Nat.compare_eq_gt.2 h, decide_eq_false (by omega)]; rfl
theorem cmp_lss {x y : Nat} (hx : FGood x) (hy : FGood y) : cmpOf .lss (D.order x y) = decide (x % 2 ^ 63 < y % 2 ^ 63) := by
  rw [order_good hx hy]
  generalize x % 2 ^ 63 = a
  generalize y % 2 ^ 63 = b
  unfold cmpOf
  rcases Nat.lt_trichotomy a b with h | h | h
  · rw [Nat.compare_eq_lt.2 h, decide_eq_true (by omega)]; rfl
  · rw [Nat.compare_eq_eq.2 h, decide_eq_false (by omega)]; rfl
  · rw [Nat.compare_eq_gt.2 h, decide_eq_false (by omega)]; rfl
theorem cmp_eql {x y : Nat} (hx : FGood x) (hy : FGood y) : cmpOf .eql (D.order x y) = decide (x % 2 ^ 63 = y % 2 ^ 63) := by
  rw [order_good hx hy]
  generalize x % 2 ^ 63 = a
  generalize y % 2 ^ 63 = b
  unfold cmpOf
  rcases Nat.lt_trichotomy a b with h | h | h
  · rw [Nat.compare_eq_lt.2 h, decide_eq_false (by omega)]; rfl
  · rw [Nat.compare_eq_eq.2 h, decide_eq_true (by omega)]; rfl
  · rw [Nat.compare_eq_gt.2 h, decide_eq_false (by omega)]; rfl
theorem cmp_neq {x y : Nat} (hx : FGood x) (hy : FGood y) : cmpOf .neq (D.order x y) = !decide (x % 2 ^ 63 = y % 2 ^ 63) := by
  have := cmp_eql hx hy
  unfold cmpOf at this ⊢
  simp only at this ⊢
  rw [← this]
  cases h : (D.order x y == some Ordering.eq) <;> simp_all [bne]
theorem cmp_self (x : Int) : compare x x = .eq := by
  simp [compare, compareOfLessAndEq]
/-- A word that has no span. -/
theorem bad_word {b : Nat} (h : b < 2 ^ 64) (hg : ¬ FGood b) : cmpOf .geq (D.order b 0) = false ∧ (cmpOf .neq (D.order b b) = true ∨ (cmpOf .neq (D.order b b) = false ∧ cmpOf .lss (D.order b 0) = true)) := by
  have hnan : ∀ s t, D.read b = .nan s t → cmpOf .geq (D.order b 0) = false ∧ (cmpOf .neq (D.order b b) = true ∨ (cmpOf .neq (D.order b b) = false ∧ cmpOf .lss (D.order b 0) = true)) := by
    intro s t e
    have o0 : D.order b 0 = none := by unfold Format.order; rw [e]; rfl
    have o1 : D.order b b = none := by unfold Format.order; rw [e]; rfl
    rw [o0, o1]
    exact ⟨rfl, .inl rfl⟩
  have hneg : D.order b b = some .eq → D.order b 0 = some .lt → cmpOf .geq (D.order b 0) = false ∧ (cmpOf .neq (D.order b b) = true ∨ (cmpOf .neq (D.order b b) = false ∧ cmpOf .lss (D.order b 0) = true)) := by
    intro o1 o0
    rw [o0, o1]
    exact ⟨rfl, .inr ⟨rfl, rfl⟩⟩
  have r0 : D.read 0 = .number false 0 (-1074) := by decide
  have hread : infR < b % 2 ^ 63 → ∃ s t, D.read b = .nan s t := by
    intro hlt
    unfold Format.read
    rw [D_sign, D_bin, D_inf]
    simp only
    have h52 : (2 ^ 52 : Nat) ≤ infR := by decide
    rw [if_neg (by omega), if_neg (by omega), if_neg (by omega)]
    exact ⟨_, _, rfl⟩
  rcases Nat.lt_or_ge infR (b % 2 ^ 63) with hlt | hge
  · obtain ⟨s, t, e⟩ := hread hlt
    exact hnan s t e
  · have hb : b / 2 ^ 63 = 1 := by
      rcases Nat.lt_or_ge b (2 ^ 63) with hs | hs
      · exact absurd (.inl (by rwa [Nat.mod_eq_of_lt hs] at hge)) hg
      · omega
    have hr0 : b % 2 ^ 63 ≠ 0 := fun e => hg (.inr (by omega))
    rcases Nat.lt_or_ge (b % 2 ^ 63) infR with h1 | h1
    · obtain ⟨mag, place, e, hp, hv, _⟩ := read_num h1
      rw [hb] at e
      have hV : V (b % 2 ^ 63) ≠ 0 := by
        intro e0
        have : V 0 = 0 := by decide
        exact hr0 (V_inj (by rw [e0, this]))
      have hm : mag ≠ 0 := by
        rintro rfl
        rw [Nat.zero_mul] at hv
        exact hV hv.symm
      refine hneg ?_ ?_
      · unfold Format.order
        rw [e]
        show some (compare _ _) = _
        rw [cmp_self]
      · unfold Format.order
        rw [e, r0]
        show some (compare (signed true mag _) (signed false 0 _)) = _
        have hpos : 0 < mag <<< (place - min place (-1074)).toNat := by
          rw [shl]
          exact Nat.mul_pos (by omega) (Nat.two_pow_pos _)
        unfold signed
        simp only [Bool.false_eq_true, if_true, if_false, Nat.zero_shiftLeft]
        simp only [compare, compareOfLessAndEq]
        rw [if_pos (by omega)]
    · have hbi : b = D.word true infR := by
        rw [word_eq, if_pos rfl]
        have : b % 2 ^ 63 = infR := by omega
        omega
      have e := read_inf true
      rw [← hbi] at e
      refine hneg ?_ ?_
      · unfold Format.order
        rw [e]; rfl
      · unfold Format.order
        rw [e, r0]; rfl
theorem nearest_nat {m : Nat} (h : m ≤ 2 ^ 62) : FloatKind.f64.nearest (m : Int) = fl m := by
  have e : FloatKind.f64.nearest (m : Int) = D.nearest (decide ((m : Int) < 0)) (m : Int).natAbs 0 := rfl
  rw [e, decide_eq_false (by omega), Int.natAbs_natCast, nearest_int h]
end Go.SL.Flo
set_option linter.unusedSimpArgs false
set_option linter.unusedVariables false
namespace Go.SL
open Go
theorem dec_step (u : Nat) : Lib.decDigits u = if u < 10 then [UInt8.ofNat (48 + u)] else Lib.decDigits (u / 10) ++ [UInt8.ofNat (48 + u % 10)] := by
  rw [Lib.decDigits]
  split <;> rfl
theorem ofNat_dig : ∀ a, a < 10 → ∀ b, b < 10 → UInt8.ofNat (48 + a) = UInt8.ofNat (48 + b) → a = b := by decide
theorem dec_ne (u : Nat) : Lib.decDigits u ≠ [] := by
  rw [dec_step]
  split <;> simp
theorem dec_inj : ∀ (u v : Nat), Lib.decDigits u = Lib.decDigits v → u = v := by
  intro u
  induction u using Nat.strongRecOn with
  | _ u ih =>
    intro v h
    rw [dec_step u, dec_step v] at h
    by_cases hu : u < 10
    · rw [if_pos hu] at h
      by_cases hv : v < 10
      · rw [if_pos hv] at h
        exact ofNat_dig u hu v hv (by simpa using h)
      · rw [if_neg hv] at h
        have := congrArg List.length h
        simp only [List.length_cons, List.length_nil, List.length_append] at this
        have h0 : (Lib.decDigits (v / 10)).length ≠ 0 := fun e => dec_ne _ (List.length_eq_zero_iff.1 e)
        omega
    · rw [if_neg hu] at h
      by_cases hv : v < 10
      · rw [if_pos hv] at h
        have := congrArg List.length h
        simp only [List.length_cons, List.length_nil, List.length_append] at this
        have h0 : (Lib.decDigits (u / 10)).length ≠ 0 := fun e => dec_ne _ (List.length_eq_zero_iff.1 e)
        omega
      · rw [if_neg hv] at h
        obtain ⟨h1, h2⟩ := List.append_inj' h rfl
        have e1 := ih (u / 10) (by omega) _ h1
        have e2 := ofNat_dig (u % 10) (by omega) (v % 10) (by omega) (by simpa using h2)
        omega
theorem dig_range : ∀ a, a < 10 → 48 ≤ UInt8.ofNat (48 + a) ∧ UInt8.ofNat (48 + a) ≤ 57 := by decide
theorem dec_range : ∀ (u : Nat) (c : UInt8), c ∈ Lib.decDigits u → 48 ≤ c ∧ c ≤ 57 := by
  intro u
  induction u using Nat.strongRecOn with
  | _ u ih =>
    intro c h
    rw [dec_step] at h
    split at h
    · rename_i hu
      rw [List.mem_singleton] at h
      subst h
      exact dig_range u hu
    · rw [List.mem_append, List.mem_singleton] at h
      rcases h with h | h
      · exact ih (u / 10) (by omega) c h
      · subst h
        exact dig_range (u % 10) (by omega)
theorem dec_no (u : Nat) {c : UInt8} (h : c < 48 ∨ 57 < c) : c ∉ Lib.decDigits u := fun hm => by
  obtain ⟨h1, h2⟩ := dec_range u c hm
  rw [UInt8.le_iff_toNat_le] at h1 h2
  rw [UInt8.lt_iff_toNat_lt, UInt8.lt_iff_toNat_lt] at h
  omega
/-- The first place of a sign parts a row in one way. -/
theorem cut_inj {α : Type} {x : α} : ∀ {a a' b b' : List α}, x ∉ a → x ∉ a' → a ++ x :: b = a' ++ x :: b' → a = a' ∧ b = b'
  | [], [], b, b', _, _, h => ⟨rfl, by simpa using h⟩
  | [], y :: a', b, b', _, h2, h => by
    simp only [List.nil_append, List.cons_append, List.cons.injEq] at h
    exact absurd (by rw [h.1]; simp) h2
  | y :: a, [], b, b', h1, _, h => by
    simp only [List.nil_append, List.cons_append, List.cons.injEq] at h
    exact absurd (by rw [← h.1]; simp) h1
  | y :: a, z :: a', b, b', h1, h2, h => by
    simp only [List.cons_append, List.cons.injEq] at h
    obtain ⟨e1, e2⟩ := cut_inj (fun hm => h1 (List.mem_cons_of_mem _ hm)) (fun hm => h2 (List.mem_cons_of_mem _ hm)) h.2
    exact ⟨by rw [h.1, e1], e2⟩
theorem flatMap_len {α : Type} {f : Nat → List α} {sz : Nat} (hf : ∀ p, (f p).length = sz) (n : Nat) : ((List.range n).flatMap f).length = n * sz := by
  induction n with
  | zero => simp
  | succ n ih => rw [List.range_succ, List.flatMap_append, List.length_append, ih, Nat.add_mul]; simp [hf]
theorem flatMap_get {α : Type} {f : Nat → List α} {sz : Nat} (hf : ∀ p, (f p).length = sz) : ∀ (n k : Nat), k < n * sz → ((List.range n).flatMap f)[k]? = (f (k / sz))[k % sz]?
  | 0, k, h => by simp at h
  | n + 1, k, h => by
    have hl := flatMap_len hf n
    have hs : 0 < sz := by
      rcases Nat.eq_zero_or_pos sz with h0 | h0
      · subst h0; simp at h
      · exact h0
    rw [List.range_succ, List.flatMap_append]
    by_cases hlt : k < n * sz
    · rw [List.getElem?_append_left (by omega), flatMap_get hf n k hlt]
    · rw [List.getElem?_append_right (by omega), hl]
      have hk : k - n * sz < sz := by rw [Nat.add_mul] at h; omega
      have e : k = (k - n * sz) + n * sz := by omega
      have e1 : k / sz = n := by rw [e, Nat.add_mul_div_right _ _ hs, Nat.div_eq_of_lt hk]; omega
      have e2 : k % sz = k - n * sz := by
        conv => lhs; rw [e]
        rw [Nat.add_mul_mod_self_right, Nat.mod_eq_of_lt hk]
      rw [e1, e2]
      simp
theorem join_two (x y sep : List UInt8) : Lib.join [x, y] sep = x ++ sep ++ y := by simp [Lib.join_cons, Lib.joinTail]
theorem join_three (x y z sep : List UInt8) : Lib.join [x, y, z] sep = x ++ sep ++ y ++ sep ++ z := by simp [Lib.join_cons, Lib.joinTail]
end Go.SL
set_option linter.unusedSimpArgs false
set_option linter.unusedVariables false
namespace Go.SL
open Go Go.RowKit
section
variable {P : Program} {B : World} {H F : HProp} {f : FuncId} {args : List Value} {v : Value}
theorem Holds.laid {w w' : World} (h : Holds B H w) (hb : Below w.heap.size w w') : Holds B H w' := by
  obtain ⟨hB, x, hx, p⟩ := h
  have hsz := hB.size
  refine ⟨hB.trans (hb.mono hsz), x, fun k y hy => ⟨?_, (hx k y hy).2⟩, p⟩
  have h1 := (hx k y hy).1
  have hlt : k < w.heap.size := (Array.getElem?_eq_some_iff.1 h1).1
  rw [hb.block k hlt]
  exact h1
theorem Does.ofBelow (h : ∀ w, Holds B H w → Calls P f args.toArray w fun e w' => e = .returned v ∧ Below w.heap.size w w') : Does P B f args H fun r H' => H' = H ∧ r = v :=
  fun w hw => (h w hw).mono fun _ _ ⟨he, hb⟩ => ⟨v, H, he, hw.laid hb, rfl, rfl⟩
end
end Go.SL
set_option linter.unusedSimpArgs false
set_option linter.unusedVariables false
namespace Go.SL
open Go Go.RowKit
section
variable {ro : Option Nat} {P : Program} {B : World} {n : Nat} {fr : Fr} {H : HProp} {Q : Post}
def QScp (Q : Post) : Post
  | .goto _, _, _ => False
  | e, fr, H => Q e fr H
theorem wp_label' {l : Nat} (h : Q .normal fr H) : WP ro P B n (.label l) fr H Q := fun a w hm hh => Go.wpIn_label ⟨fr, H, hm, hh, h⟩
theorem wp_scope' {c : Code} (h : WP none P B n c fr H (QScp Q)) : WP none P B n (.scope c) fr H Q := fun a w hm hh => by
  have h0 := h a w hm hh
  rw [FW_none] at h0 ⊢
  rw [wpIn_wide] at h0 ⊢
  refine wp_scope_straight ?_
  refine wp_mono h0 fun e a1 w1 hq => ?_
  cases e with
  | goto l => obtain ⟨f1, H1, _, _, h5⟩ := hq; exact h5
  | normal => exact hq
  | exit id => exact hq
  | ret => exact hq
  | panic ch => exact hq
  | outgrown => exact hq
theorem q_scp (h : Q .normal fr H) : QScp Q .normal fr H := h
theorem q_scp_ret (h : Q .ret fr H) : QScp Q .ret fr H := h
theorem q_scp_exit {id : Nat} (h : Q (.exit id) fr H) : QScp Q (.exit id) fr H := h
end
end Go.SL
set_option linter.unusedSimpArgs false
set_option linter.unusedVariables false
namespace Go.SL
open Go Go.RowKit
class ExternAt (P : Program) (f : FuncId) (g : outParam (Array Value → Sem Value)) : Prop where
  eq : ∃ fn, P.funcs[f]? = some fn ∧ (fn.name == "runtime.NumGoroutine") = false ∧ fn.body.isNone = true ∧ Extern.findNext fn = none ∧ Extern.find fn = some g
section
variable {ro : Option Nat} {P : Program} {B : World} {n : Nat} {ops : Array Oper} {rest : List Oper} {fr : Fr} {H F : HProp} {Q : Post}
variable {d : Nat} {ty : TypeId} {pos : String} {after : Array Edge}
theorem s_ext {f : FuncId} {args : List Operand} {tys : Array TypeId} {vs : List Value} {v : Value} {g : Array Value → Sem Value} [c : ExternAt P f g] (hargs : args.map (ev fr) = vs)
    (hg : g vs.toArray = Pure.pure v) (hd : Nat.blt d n = true) (k : WPL ro P B n ops rest (fr.put d v) H Q) :
    WPL ro P B n ops (⟨some d, .call ⟨.value (.func f), args.toArray, tys⟩, ty, pos, after, none⟩ :: rest) fr H Q :=
  step_pure hd (fun w => by
    obtain ⟨fn, hf, hn, hb, h1, h2⟩ := c.eq
    have hn' : fn.name ≠ "runtime.NumGoroutine" := by simpa using hn
    have hb' : fn.body = none := by simpa using hb
    subst hargs
    simp [execOp, resolve, ev, Deferred.ofValue, invoke, callFunc, hf, hn', hb', h1, h2, hg]) k
theorem s_andNot {t yt : TypeId} {x y : Operand} {kd : IntKind} {p q : Int} {r : Nat} (hx : ev fr x = .int kd p) (hy : ev fr y = .int kd q) (hr : (BitVec.ofInt kd.bits p &&& ~~~BitVec.ofInt kd.bits q).toNat = r) (hw : kd.wrap r = r)
    (hd : Nat.blt d n = true) (k : WPL ro P B n ops rest (fr.put d (.int kd (r : Int))) H Q) :
    WPL ro P B n ops (⟨some d, .binOp .andNot t x y yt, ty, pos, after, none⟩ :: rest) fr H Q :=
  s_bin hx hy (fun w => by
    subst hr
    simp only [binOp_andNot, Op.intBits]
    simp only [Sem.run_pure, hw]) hd k
end
end Go.SL
namespace Go.SL
/-- The pieces of a text between the bytes c. -/
def cutAt (c : UInt8) : List UInt8 → List (List UInt8)
  | [] => [[]]
  | a :: l => if a = c then [] :: cutAt c l else (a :: (cutAt c l).headD []) :: (cutAt c l).tail
/-- Pieces with a byte c between them. -/
def glue (c : UInt8) : List (List UInt8) → List UInt8
  | [] => []
  | [x] => x
  | x :: y :: l => x ++ c :: glue c (y :: l)
theorem cutAt_ne (c : UInt8) (l : List UInt8) : cutAt c l ≠ [] := by
  cases l with
  | nil => simp [cutAt]
  | cons a l => unfold cutAt; split <;> simp
theorem glue_nil {c : UInt8} {l : List (List UInt8)} (h : l ≠ []) : glue c ([] :: l) = c :: glue c l := by
  cases l with
  | nil => exact absurd rfl h
  | cons y l => rfl
theorem glue_push {c a : UInt8} {x : List UInt8} {l : List (List UInt8)} : glue c ((a :: x) :: l) = a :: glue c (x :: l) := by
  cases l with
  | nil => rfl
  | cons y l => rfl
theorem glue_cut (c : UInt8) (l : List UInt8) : glue c (cutAt c l) = l := by
  induction l with
  | nil => rfl
  | cons a l ih =>
    unfold cutAt
    split
    · rename_i h
      rw [glue_nil (cutAt_ne c l), ih, h]
    · rw [glue_push]
      have e : (cutAt c l).headD [] :: (cutAt c l).tail = cutAt c l := by
        cases h : cutAt c l with
        | nil => exact absurd h (cutAt_ne c l)
        | cons y l => rfl
      rw [e, ih]
/-- What is cut alike is alike. -/
theorem cutAt_inj {c : UInt8} {l m : List UInt8} (h : cutAt c l = cutAt c m) : l = m := by
  rw [← glue_cut c l, h, glue_cut]
/-- A text without c is one piece; a piece ends at c. -/
theorem cutAt_one {c : UInt8} {l : List UInt8} (h : c ∉ l) : cutAt c l = [l] := by
  induction l with
  | nil => rfl
  | cons a l ih =>
    have h1 : ¬ a = c := fun e => h (by rw [e]; exact List.mem_cons_self)
    have h2 : c ∉ l := fun e => h (List.mem_cons_of_mem _ e)
    unfold cutAt
    rw [if_neg h1, ih h2]
    rfl
theorem cutAt_cons {c : UInt8} {x l : List UInt8} (h : c ∉ x) : cutAt c (x ++ c :: l) = x :: cutAt c l := by
  induction x with
  | nil =>
    show cutAt c (c :: l) = _
    rw [cutAt, if_pos rfl]
  | cons a x ih =>
    have h1 : ¬ a = c := fun e => h (by rw [e]; exact List.mem_cons_self)
    have h2 : c ∉ x := fun e => h (List.mem_cons_of_mem _ e)
    show cutAt c (a :: (x ++ c :: l)) = _
    rw [cutAt, if_neg h1, ih h2]
    rfl
/-- Pieces without c are found again. -/
theorem cut_glue {c : UInt8} : ∀ {l : List (List UInt8)}, l ≠ [] → (∀ x ∈ l, c ∉ x) → cutAt c (glue c l) = l
  | [], h, _ => absurd rfl h
  | [x], _, h => cutAt_one (h x (List.mem_singleton.2 rfl))
  | x :: y :: l, _, h => by
    show cutAt c (x ++ c :: glue c (y :: l)) = _
    rw [cutAt_cons (h x List.mem_cons_self), cut_glue (by simp) fun z hz => h z (List.mem_cons_of_mem _ hz)]
end Go.SL
namespace Go.SL
open Go
theorem split_cut (c : UInt8) : ∀ s : List UInt8, Lib.splitK [c] 0 (Lib.count s [c]) s = cutAt c s
  | [] => by
    have : Lib.count [] [c] = 0 := by rw [Lib.count_one]; rfl
    rw [this]; rfl
  | b :: l => by
    have ih := split_cut c l
    by_cases h : b = c
    · subst h
      have hix : Lib.index (b :: l) [b] = 0 := by rw [Lib.index]; simp [List.isPrefixOf]
      rw [Lib.count_cons_eq, Nat.add_comm, Lib.splitK, hix, if_neg (by decide)]
      simp only [cutAt, if_true]
      rw [← ih]
      rfl
    · have hp : ([c] : List UInt8).isPrefixOf (b :: l) = false := by simp [List.isPrefixOf, Ne.symm h]
      have hix : Lib.index (b :: l) [c] = if Lib.index l [c] == -1 then -1 else Lib.index l [c] + 1 := by rw [Lib.index, hp]; simp
      rw [Lib.count_cons_ne b c l h]
      rw [cutAt, if_neg h, ← ih]
      cases hk : Lib.count l [c] with
      | zero => rfl
      | succ k =>
        have hge := Lib.index_ge l [c]
        have hne : ¬ (Lib.index l [c] == -1) = true := fun e => by
          rw [Lib.count_miss (beq_iff_eq.1 e)] at hk
          omega
        have hne1 : ¬ Lib.index l [c] = -1 := fun e => hne (beq_iff_eq.2 e)
        obtain ⟨i, hi⟩ := Int.eq_ofNat_of_zero_le (show 0 ≤ Lib.index l [c] by omega)
        rw [if_neg hne] at hix
        have hne2 : ¬ (Lib.index (b :: l) [c] == -1) = true := fun e => by have := beq_iff_eq.1 e; omega
        rw [Lib.splitK, Lib.splitK, if_neg hne, if_neg hne2, hix, hi]
        have e1 : ((i : Int) + 1).toNat = i + 1 := by omega
        rw [e1, Int.toNat_natCast]
        rfl
theorem join_glue (c : UInt8) : ∀ l : List (List UInt8), Lib.join l [c] = glue c l
  | [] => rfl
  | [x] => Lib.join_one x [c]
  | x :: y :: l => by
    have ih := join_glue c (y :: l)
    show _ = x ++ c :: glue c (y :: l)
    rw [← ih]
    simp [Lib.join, List.intercalate]
end Go.SL
set_option linter.unusedSimpArgs false
set_option linter.unusedVariables false
namespace Go.SL
open Go
theorem dig_nat : ∀ a, a < 10 → (UInt8.ofNat (48 + a)).toNat = 48 + a := by decide
theorem parse_dec : ∀ (n : Nat), n < 18446744073709551616 → ∀ t, Lib.parseUint10 0 (Lib.decDigits n ++ t) = Lib.parseUint10 n t := by
  intro n
  induction n using Nat.strongRecOn with
  | _ n ih =>
    intro hn t
    rw [dec_step]
    by_cases h : n < 10
    · have := dig_nat n h
      rw [if_pos h]
      show Lib.parseUint10 0 (_ :: t) = _
      rw [Lib.parseUint10, this, if_pos (by omega), if_neg (by omega), if_neg (by omega)]
      congr 1
      omega
    · have hd := dig_nat (n % 10) (by omega)
      rw [if_neg h, List.append_assoc, ih (n / 10) (by omega) (by omega)]
      show Lib.parseUint10 (n / 10) (_ :: t) = _
      rw [Lib.parseUint10, hd, if_pos (by omega), if_neg (by omega), if_neg (by omega)]
      congr 1
      omega
/-- The whole number that Atoi tells of a text. -/
def atoiV (l : List UInt8) : Int := match Lib.atoiAll l with
  | .ok v => v
  | .range => Lib.atoiSat l
  | _ => 0
def atoiOk (l : List UInt8) : Bool := match Lib.atoiAll l with
  | .ok _ => true
  | _ => false
theorem atoi_dec {n : Nat} (h : n < 9223372036854775808) : Lib.atoiAll (Lib.decDigits n) = .ok (n : Int) := by
  have hp : Lib.parseMag (Lib.decDigits n) = .ok n := by
    unfold Lib.parseMag
    rw [if_neg (dec_ne n)]
    have := parse_dec n (by omega) []
    rw [List.append_nil] at this
    exact this
  cases hd : Lib.decDigits n with
  | nil => exact absurd hd (dec_ne n)
  | cons c r =>
    have hr := dec_range n c (by rw [hd]; exact List.mem_cons_self)
    rw [UInt8.le_iff_toNat_le, UInt8.le_iff_toNat_le] at hr
    have h1 : (48 : UInt8).toNat = 48 := rfl
    have h2 : (57 : UInt8).toNat = 57 := rfl
    have e43 : ¬ c.toNat = 43 := by omega
    have e45 : ¬ c.toNat = 45 := by omega
    unfold Lib.atoiAll
    simp only [e43, e45, or_self, if_false]
    rw [← hd, hp]
    simp only [e45, false_and, if_false, not_false_eq_true, true_and]
    rw [if_neg (by omega)]
theorem atoiV_dec {n : Nat} (h : n < 9223372036854775808) : atoiV (Lib.decDigits n) = n := by
  unfold atoiV; rw [atoi_dec h]
theorem atoiOk_dec {n : Nat} (h : n < 9223372036854775808) : atoiOk (Lib.decDigits n) = true := by
  unfold atoiOk; rw [atoi_dec h]
/-- Is a byte a digit? -/
def isDig (b : UInt8) : Prop := 48 ≤ b.toNat ∧ b.toNat ≤ 57
instance (b : UInt8) : Decidable (isDig b) := inferInstanceAs (Decidable (_ ∧ _))
/-- The numbers that runs of digits tell, brought to at most a bound; n: the number of the run so far; -1: none. -/
def runs (top : Int) : List UInt8 → Int → List Int
  | [], n => if 0 ≤ n then [n] else []
  | b :: t, n => if isDig b then runs top t (min (max n 0 * 10 + ((b.toNat : Int) - 48)) top) else (if 0 ≤ n then [n] else []) ++ runs top t (-1)
theorem runs_dec {top : Nat} : ∀ (n : Nat), n ≤ top → ∀ t, runs top (Lib.decDigits n ++ t) (-1) = runs top t n := by
  intro n
  induction n using Nat.strongRecOn with
  | _ n ih =>
    intro hn t
    rw [dec_step]
    by_cases h : n < 10
    · have := dig_nat n h
      rw [if_pos h]
      show runs top (_ :: t) (-1) = _
      rw [runs, if_pos (show isDig _ by unfold isDig; rw [this]; omega), this]
      congr 1
      omega
    · have hd := dig_nat (n % 10) (by omega)
      rw [if_neg h, List.append_assoc, ih (n / 10) (by omega) (by omega)]
      show runs top (_ :: t) _ = _
      rw [runs, if_pos (show isDig _ by unfold isDig; rw [hd]; omega), hd]
      congr 1
      omega
theorem runs_no {top : Int} {b : UInt8} {t : List UInt8} {n : Int} (h : ¬ isDig b) : runs top (b :: t) n = (if 0 ≤ n then [n] else []) ++ runs top t (-1) := by
  rw [runs, if_neg h]
theorem runs_run {top n : Nat} (hn : n ≤ top) {b : UInt8} {t : List UInt8} (h : ¬ isDig b) : runs top (Lib.decDigits n ++ b :: t) (-1) = (n : Int) :: runs top t (-1) := by
  rw [runs_dec n hn, runs_no h, if_pos (by omega)]; rfl
theorem runs_end {top n : Nat} (hn : n ≤ top) : runs top (Lib.decDigits n) (-1) = [(n : Int)] := by
  have := runs_dec n hn []
  rw [List.append_nil] at this
  rw [this, runs, if_pos (by omega)]
theorem runs_blank {top : Int} {b : UInt8} {t : List UInt8} (h : ¬ isDig b) : runs top (b :: t) (-1) = runs top t (-1) := by
  rw [runs_no h, if_neg (by omega)]; rfl
theorem runs_nonneg {top : Int} (ht : 0 ≤ top) : ∀ (l : List UInt8) (n : Int), ∀ x ∈ runs top l n, 0 ≤ x
  | [], n, x, h => by
    rw [runs] at h
    split at h
    · rw [List.mem_singleton] at h; omega
    · cases h
  | b :: t, n, x, h => by
    rw [runs] at h
    split at h
    · exact runs_nonneg ht t _ x h
    · rw [List.mem_append] at h
      rcases h with h | h
      · split at h
        · rw [List.mem_singleton] at h; omega
        · cases h
      · exact runs_nonneg ht t _ x h
/-- A whole number of 64 bits, as an int. -/
abbrev toI (v : Int) : Int := IntKind.i64.wrap v
/-- The numbers that runs of digits tell, as they go round in 64 bits; inn: within a run. -/
def runsU : List UInt8 → Bool → Int → List Int
  | [], inn, v => if inn then [toI v] else []
  | b :: t, inn, v => if isDig b then runsU t true ((v * 10 % 18446744073709551616 + ((b.toNat : Int) - 48)) % 18446744073709551616) else (if inn then [toI v] else []) ++ runsU t false 0
theorem runsU_dec : ∀ (n : Nat), n < 18446744073709551616 → ∀ t, runsU (Lib.decDigits n ++ t) false 0 = runsU t true n := by
  intro n
  induction n using Nat.strongRecOn with
  | _ n ih =>
    intro hn t
    rw [dec_step]
    by_cases h : n < 10
    · have := dig_nat n h
      rw [if_pos h]
      show runsU (_ :: t) false 0 = _
      rw [runsU, if_pos (show isDig _ by unfold isDig; rw [this]; omega), this]
      congr 1
      omega
    · have hd := dig_nat (n % 10) (by omega)
      rw [if_neg h, List.append_assoc, ih (n / 10) (by omega) (by omega)]
      show runsU (_ :: t) _ _ = _
      rw [runsU, if_pos (show isDig _ by unfold isDig; rw [hd]; omega), hd]
      congr 1
      omega
theorem runsU_no {b : UInt8} {t : List UInt8} {inn : Bool} {v : Int} (h : ¬ isDig b) : runsU (b :: t) inn v = (if inn then [toI v] else []) ++ runsU t false 0 := by
  rw [runsU, if_neg h]
theorem runsU_skip {w t : List UInt8} (h : ∀ b ∈ w, ¬ isDig b) : runsU (w ++ t) false 0 = runsU t false 0 := by
  induction w with
  | nil => rfl
  | cons b w ih =>
    show runsU (b :: (w ++ t)) false 0 = _
    rw [runsU_no (h b List.mem_cons_self), ih fun x hx => h x (List.mem_cons_of_mem _ hx)]
    rfl
theorem toI_small {v : Int} (h0 : 0 ≤ v) (h : v < 9223372036854775808) : toI v = v := by
  unfold toI IntKind.wrap
  simp [IntKind.min, IntKind.max, IntKind.signed, IntKind.bits]
  omega
theorem runsU_top : ∀ (l : List UInt8) (inn : Bool) (v : Int), ∀ x ∈ runsU l inn v, x < 9223372036854775808
  | [], inn, v, x, h => by
    rw [runsU] at h
    split at h
    · rw [List.mem_singleton] at h; subst h; unfold toI IntKind.wrap; simp [IntKind.min, IntKind.max, IntKind.signed, IntKind.bits]; omega
    · cases h
  | b :: t, inn, v, x, h => by
    rw [runsU] at h
    split at h
    · exact runsU_top t _ _ x h
    · rw [List.mem_append] at h
      rcases h with h | h
      · split at h
        · rw [List.mem_singleton] at h; subst h; unfold toI IntKind.wrap; simp [IntKind.min, IntKind.max, IntKind.signed, IntKind.bits]; omega
        · cases h
      · exact runsU_top t _ _ x h
theorem runsU_len : ∀ (l : List UInt8) (inn : Bool) (v : Int), (runsU l inn v).length ≤ l.length + 1
  | [], inn, v => by
    rw [runsU]; split <;> simp
  | b :: t, inn, v => by
    rw [runsU]
    split
    · have := runsU_len t true ((v * 10 % 18446744073709551616 + ((b.toNat : Int) - 48)) % 18446744073709551616)
      simp only [List.length_cons]; omega
    · have := runsU_len t false 0
      rw [List.length_append]
      split <;> simp only [List.length_cons, List.length_nil] <;> omega
theorem atoiV_top (l : List UInt8) : atoiV l < 9223372036854775808 := by
  have hs : Lib.atoiSat l ≤ 9223372036854775807 := by unfold Lib.atoiSat; split <;> omega
  have key : ∀ x : Lib.NumEnd Int, Lib.atoiAll l = x → atoiV l < 9223372036854775808 := by
    intro x hx
    unfold atoiV
    rw [hx]
    rcases x with v | _ | _
    · simp only
      cases l with
      | nil => cases hx
      | cons c r =>
        unfold Lib.atoiAll at hx
        simp only at hx
        split at hx
        · cases hx
        · cases hx
        · split at hx
          · cases hx
          · split at hx
            · cases hx
            · cases hx
              split <;> omega
    · simp only; omega
    · simp only; omega
  exact key _ rfl
end Go.SL
set_option linter.unusedSimpArgs false
set_option linter.unusedVariables false
namespace Go.SL
open Go Go.RowKit
section
variable {P : Program} {B : World} {H F : HProp} {f : FuncId} {args : List Value} {v : Value}
/-- A contract that answers one new row. -/
theorem Does.ofAlloc {n : Nat} {cs : List Value} {t : TypeId} (h : ∀ w, Holds B H w → Calls P f args.toArray w fun e w' => e = .returned (.slice (some ⟨w.heap.size, 0, none⟩) n n) ∧ w' = w.alloc (.cells cs.toArray t)) :
    Does P B f args H fun r H' => ∃ b, H' = blk b cs t + H ∧ r = .slice (some ⟨b, 0, none⟩) n n :=
  fun w hw => (h w hw).mono fun _ _ ⟨he, hb⟩ => ⟨_, _, he, by rw [hb]; exact blk_new hw cs t, w.heap.size, rfl, rfl⟩
/-- A contract that lays new blocks, and answers one of many. -/
theorem Does.ofBelowR {R : Value → Prop} (h : ∀ w, Holds B H w → Calls P f args.toArray w fun e w' => ∃ v, e = .returned v ∧ R v ∧ Below w.heap.size w w') : Does P B f args H fun r H' => H' = H ∧ R r :=
  fun w hw => (h w hw).mono fun _ _ ⟨v, he, hr, hb⟩ => ⟨v, H, he, hw.laid hb, rfl, hr⟩
end
end Go.SL
set_option linter.unusedSimpArgs false
set_option linter.unusedVariables false
namespace Go.SL
open Go Go.RowKit
class UnderIfc (P : Program) (t : TypeId) : Prop where
  eq : P.underlying t = some (.interface (P.methodsAt t))
section
variable {ro : Option Nat} {P : Program} {B : World} {n : Nat} {ops : Array Oper} {rest : List Oper} {fr : Fr} {H F : HProp} {Q : Post}
variable {d : Nat} {ty : TypeId} {pos : String} {after : Array Edge}
theorem s_neqI0 {t yt : TypeId} [u : UnderIfc P t] {x : Operand} (hx : ev fr x = .nilIface) (hd : Nat.blt d n = true) (k : WPL ro P B n ops rest (fr.put d (.bool false)) H Q) :
    WPL ro P B n ops (⟨some d, .binOp .neq t x (.const .nilIface) yt, ty, pos, after, none⟩ :: rest) fr H Q :=
  step_pure hd (fun w => by
    have : execOp (ev fr) ⟨some d, .binOp .neq t x (.const .nilIface) yt, ty, pos, after, none⟩ = (do Pure.pure (Next.value (← (do eqGuard .neq t x (.const .nilIface) (ev fr x) .nilIface; binOp .neq t (ev fr x) .nilIface)))) := rfl
    rw [this, hx]
    simp [eqGuard, run_neq_nil_nil w t u.eq]) k
theorem s_neqI1 {t yt : TypeId} [u : UnderIfc P t] {x : Operand} {ti : TypeId} {v : Value} (hx : ev fr x = .iface ti v) (hd : Nat.blt d n = true) (k : WPL ro P B n ops rest (fr.put d (.bool true)) H Q) :
    WPL ro P B n ops (⟨some d, .binOp .neq t x (.const .nilIface) yt, ty, pos, after, none⟩ :: rest) fr H Q :=
  step_pure hd (fun w => by
    have : execOp (ev fr) ⟨some d, .binOp .neq t x (.const .nilIface) yt, ty, pos, after, none⟩ = (do Pure.pure (Next.value (← (do eqGuard .neq t x (.const .nilIface) (ev fr x) .nilIface; binOp .neq t (ev fr x) .nilIface)))) := rfl
    rw [this, hx]
    simp [eqGuard, run_neq_held_nil w t ti v u.eq]) k
end
end Go.SL
set_option linter.unusedSimpArgs false
set_option linter.unusedVariables false
namespace Go.SL
open Go Go.RowKit
namespace Flo
theorem word_lt {neg : Bool} {r : Nat} (h : r < 2 ^ 63) : D.word neg r < 2 ^ 64 := by
  rw [word_eq]
  split <;> omega
theorem nearest_lt (neg : Bool) (mag : Nat) (place : Int) : D.nearest neg mag place < 2 ^ 64 := by
  unfold Ieee.Format.nearest
  split
  · exact word_lt (by omega)
  · exact word_lt (Nat.lt_of_le_of_lt (Nat.min_le_right _ _) (by rw [D_inf]; exact infR_lt))
theorem write_lt (d : Ieee.Datum) : D.write d < 2 ^ 64 := by
  cases d with
  | number s m p => exact nearest_lt s m p
  | infinity s => exact word_lt (by rw [D_inf]; exact infR_lt)
  | nan s f =>
    refine word_lt ?_
    rw [D_inf, D_bin]
    have := Nat.mod_lt f (show 0 < 2 ^ 52 by omega)
    have : infR = 9218868437227405312 := by decide
    omega
theorem mul_lt {p q r : Nat} (h : D.mul p q = some r) : r < 2 ^ 64 := by
  unfold Ieee.Format.mul at h
  cases hp : (D.read p).product (D.read q) with
  | none => rw [hp] at h; cases h
  | some d => rw [hp] at h; cases h; exact write_lt d
theorem div_lt {p q r : Nat} (h : D.div p q = some r) : r < 2 ^ 64 := by
  unfold Ieee.Format.div at h
  cases hp : (D.read p).quotient (D.fractionBits + 2) (D.read q) with
  | none => rw [hp] at h; cases h
  | some d => rw [hp] at h; cases h; exact write_lt d
theorem itof_lt (n : Int) : FloatKind.f64.nearest n < 2 ^ 64 := by
  have h := write_lt (.number (decide (n < 0)) n.natAbs 0)
  exact h
end Flo
section
variable {ro : Option Nat} {P : Program} {B : World} {n : Nat} {ops : Array Oper} {rest : List Oper} {fr : Fr} {H F : HProp} {Q : Post}
variable {d : Nat} {ty : TypeId} {pos : String} {after : Array Edge}
theorem s_fmulW {t yt : TypeId} {x y : Operand} {p q : Nat} (hx : ev fr x = flt p) (hy : ev fr y = flt q) (hd : Nat.blt d n = true)
    (k : ∀ r, r < 2 ^ 64 → WPL ro P B n ops rest (fr.put d (flt r)) H Q) : WPL ro P B n ops (⟨some d, .binOp .mul t x y yt, ty, pos, after, none⟩ :: rest) fr H Q := by
  cases h : Flo.D.mul p q with
  | none => exact s_fmulN hx hy h hd fun r h1 _ => k r h1
  | some r => exact s_fmul hx hy h hd (k r (Flo.mul_lt h))
theorem s_fquoW {t yt : TypeId} {x y : Operand} {p q : Nat} (hx : ev fr x = flt p) (hy : ev fr y = flt q) (hd : Nat.blt d n = true)
    (k : ∀ r, r < 2 ^ 64 → WPL ro P B n ops rest (fr.put d (flt r)) H Q) : WPL ro P B n ops (⟨some d, .binOp .quo t x y yt, ty, pos, after, none⟩ :: rest) fr H Q := by
  cases h : Flo.D.div p q with
  | none => exact s_fquoN hx hy h hd fun r h1 _ => k r h1
  | some r => exact s_fquo hx hy h hd (k r (Flo.div_lt h))
theorem s_fnegW {t : TypeId} {x : Operand} {p : Nat} (hx : ev fr x = flt p) (hp : p < 2 ^ 64) (hd : Nat.blt d n = true)
    (k : ∀ r, r < 2 ^ 64 → WPL ro P B n ops rest (fr.put d (flt r)) H Q) : WPL ro P B n ops (⟨some d, .unOp .neg t x, ty, pos, after, none⟩ :: rest) fr H Q :=
  s_fneg hx hd (k _ (Nat.xor_lt_two_pow hp (by decide)))
theorem s_itofW {src dst : TypeId} {x : Operand} {kd : IntKind} {p : Int} [i : SomeTy P src] [j : FltTy P dst] (hx : ev fr x = .int kd p) (hd : Nat.blt d n = true)
    (k : ∀ r, r < 2 ^ 64 → WPL ro P B n ops rest (fr.put d (flt r)) H Q) : WPL ro P B n ops (⟨some d, .convert src dst x, ty, pos, after, none⟩ :: rest) fr H Q :=
  s_itof hx rfl hd (k _ (Flo.itof_lt p))
theorem s_andNotW {t yt : TypeId} {x y : Operand} {p q : Int} (hx : ev fr x = .int .u64 p) (hy : ev fr y = .int .u64 q)
    (hd : Nat.blt d n = true) (k : ∀ r : Nat, r < 2 ^ 64 → WPL ro P B n ops rest (fr.put d (.int .u64 (r : Int))) H Q) :
    WPL ro P B n ops (⟨some d, .binOp .andNot t x y yt, ty, pos, after, none⟩ :: rest) fr H Q := by
  have h : (BitVec.ofInt IntKind.u64.bits p &&& ~~~BitVec.ofInt IntKind.u64.bits q).toNat < 2 ^ 64 := BitVec.isLt _
  exact s_andNot hx hy rfl (intU64 (by omega)) hd (k _ h)
theorem s_andW {t yt : TypeId} {x y : Operand} {p q : Nat} (hx : ev fr x = .int .u64 (p : Int)) (hy : ev fr y = .int .u64 (q : Int)) (hp : p < 2 ^ 64) (hq : q < 2 ^ 64)
    (hd : Nat.blt d n = true) (k : ∀ r : Nat, r < 2 ^ 64 → WPL ro P B n ops rest (fr.put d (.int .u64 (r : Int))) H Q) :
    WPL ro P B n ops (⟨some d, .binOp .and t x y yt, ty, pos, after, none⟩ :: rest) fr H Q := by
  have h : p &&& q < 2 ^ 64 := Nat.and_lt_two_pow p hq
  exact s_and (r := p &&& q) hx hy ⟨by omega, by simp only [IntKind.bits]; omega⟩ ⟨by omega, by simp only [IntKind.bits]; omega⟩ rfl (intU64 (by omega)) hd (k _ h)
theorem s_orW {t yt : TypeId} {x y : Operand} {p q : Nat} (hx : ev fr x = .int .u64 (p : Int)) (hy : ev fr y = .int .u64 (q : Int)) (hp : p < 2 ^ 64) (hq : q < 2 ^ 64)
    (hd : Nat.blt d n = true) (k : ∀ r : Nat, r < 2 ^ 64 → WPL ro P B n ops rest (fr.put d (.int .u64 (r : Int))) H Q) :
    WPL ro P B n ops (⟨some d, .binOp .or t x y yt, ty, pos, after, none⟩ :: rest) fr H Q := by
  have h : p ||| q < 2 ^ 64 := Nat.or_lt_two_pow hp hq
  exact s_or (r := p ||| q) hx hy ⟨by omega, by simp only [IntKind.bits]; omega⟩ ⟨by omega, by simp only [IntKind.bits]; omega⟩ rfl (intU64 (by omega)) hd (k _ h)
theorem s_shlW {t yt : TypeId} {x y : Operand} {yk : IntKind} {p q : Int} (hx : ev fr x = .int .u64 p) (hy : ev fr y = .int yk q) (hq : 0 ≤ q)
    (hd : Nat.blt d n = true) (k : ∀ r : Nat, r < 2 ^ 64 → WPL ro P B n ops rest (fr.put d (.int .u64 (r : Int))) H Q) :
    WPL ro P B n ops (⟨some d, .binOp .shl t x y yt, ty, pos, after, none⟩ :: rest) fr H Q := by
  have h : IntKind.u64.wrap (p * 2 ^ (min q.toNat IntKind.u64.bits)) = ((((p * 2 ^ (min q.toNat IntKind.u64.bits)) % 18446744073709551616).toNat : Nat) : Int) := by
    rw [wrapU64]
    omega
  exact s_shl hx hy hq h hd (k _ (by omega))
/-- The low five binary digits. -/
theorem s_and31 {t yt : TypeId} {x y : Operand} {p : Int} (hx : ev fr x = .int .i64 p) (hy : ev fr y = .int .i64 31)
    (hd : Nat.blt d n = true) (k : WPL ro P B n ops rest (fr.put d (.int .i64 (p % 32))) H Q) :
    WPL ro P B n ops (⟨some d, .binOp .and t x y yt, ty, pos, after, none⟩ :: rest) fr H Q :=
  s_bin hx hy (fun w => by
    simp only [binOp_and, Op.intBits]
    have h1 : (BitVec.ofInt IntKind.i64.bits p &&& BitVec.ofInt IntKind.i64.bits 31).toNat = (p % 32).toNat := by
      rw [BitVec.toNat_and, BitVec.toNat_ofInt, BitVec.toNat_ofInt]
      have e : ((31 : Int) % ((2 ^ IntKind.i64.bits : Nat) : Int)).toNat = 2 ^ 5 - 1 := by decide
      rw [e, Nat.and_two_pow_sub_one_eq_mod]
      simp only [IntKind.bits]
      omega
    have h2 : (((p % 32).toNat : Nat) : Int) = p % 32 := by omega
    rw [h1, h2]
    simp only [Sem.run_pure, intI64 (show -9223372036854775808 ≤ p % 32 ∧ p % 32 ≤ 9223372036854775807 by omega)]) hd k
end
end Go.SL
namespace Go.SL
open Go Go.RowKit
section
variable {ro : Option Nat} {P : Program} {B : World} {n : Nat} {ops : Array Oper} {rest : List Oper} {fr : Fr} {H F : HProp} {Q : Post}
variable {d : Nat} {ty : TypeId} {pos : String} {after : Array Edge}
theorem s_ineg {t : TypeId} {x : Operand} {kd : IntKind} {p r : Int} (hx : ev fr x = .int kd p) (hr : kd.wrap (0 - p) = r) (hd : Nat.blt d n = true)
    (k : WPL ro P B n ops rest (fr.put d (.int kd r)) H Q) : WPL ro P B n ops (⟨some d, .unOp .neg t x, ty, pos, after, none⟩ :: rest) fr H Q :=
  step_pure hd (fun w => by
    have : execOp (ev fr) ⟨some d, .unOp .neg t x, ty, pos, after, none⟩ = (do Pure.pure (Next.value (← Op.unary .neg (ev fr x)))) := rfl
    rw [this, hx]
    subst hr
    simp [Op.unary, Op.intArith]) k
end
end Go.SL
set_option linter.unusedSimpArgs false
set_option linter.unusedVariables false
namespace Go.SL
open Go Go.RowKit
/-- Strings, as they lie in memory. -/
def ss (l : List (List UInt8)) : List Value := l.map str
theorem ss_length (l : List (List UInt8)) : (ss l).length = l.length := by simp [ss]
theorem ss_get (l : List (List UInt8)) (k : Nat) (h : k < l.length) : (ss l)[k]? = some (str l[k]) := by simp [ss, h]
theorem ss_one (l : List (List UInt8)) : (ss l).all Value.oneCell' = true := by simp [ss, Value.oneCell']
theorem ss_append (l m : List (List UInt8)) : ss (l ++ m) = ss l ++ ss m := by simp [ss]
theorem ss_push (l : List (List UInt8)) (x : List UInt8) : ss (l ++ [x]) = ss l ++ [str x] := by simp [ss]
theorem ss_take (l : List (List UInt8)) (k : Nat) : (ss l).take k = ss (l.take k) := by simp [ss, List.map_take]
theorem ss_drop (l : List (List UInt8)) (k : Nat) : (ss l).drop k = ss (l.drop k) := by simp [ss, List.map_drop]
end Go.SL
set_option linter.unusedSimpArgs false
set_option linter.unusedVariables false
namespace Go.SL
open Go Go.RowKit Go.ChangeShapes Go.WideShapes Go.ChangeAt

/-- The shapes of flat types, and of slices of them. -/
inductive Shape where
  | bool
  | int (k : IntKind)
  | float (k : FloatKind)
  | str
  | unit
  | cat (a : Shape) (n : Nat) (b : Shape)
  | slice (sz : Nat) (e : Shape)
/-- Cells of a shape. -/
def Has (w : World) : Shape → List Value → Prop
  | .bool, cs => ∃ b, cs = [.bool b]
  | .int k, cs => ∃ n, cs = [.int k n] ∧ (Lit.int k n).wf = true
  | .float k, cs => ∃ b, cs = [.float k b] ∧ (Lit.float k b).wf = true
  | .str, cs => ∃ s : ByteArray, cs = [.string s] ∧ s.size ≤ maxLen
  | .unit, cs => cs = []
  | .cat a n b, cs => Has w a (cs.take n) ∧ Has w b (cs.drop n)
  | .slice sz e, cs => ∃ (ao : Option Addr) (len cap : Nat) (rows : List (List Value)), cs = [.slice ao len cap] ∧ len ≤ cap ∧ cap ≤ maxLen ∧ rows.length = len ∧ (∀ r ∈ rows, r.length = sz ∧ Has w e r) ∧
      (len = 0 ∨ sz = 0 ∨ ∃ b o, ao = some ⟨b, o, none⟩ ∧ ∀ (i : Nat) (r : List Value), rows[i]? = some r → ∀ (j : Nat) (v : Value), r[j]? = some v → w.cell? ⟨b, o + i * sz + j, none⟩ = some v)

def shapeFs (P : Program) (g : TypeId → Option Shape) (size : Nat) : List Field → Nat → Option Shape
  | [], off => if off = size then some .unit else none
  | x :: fs, off => if x.offset = off then (g x.type).bind fun a => (shapeFs P g size fs (off + P.cellsOf x.type)).map fun b => .cat a (P.cellsOf x.type) b else none
def shapeOf (P : Program) : Nat → TypeId → Option Shape
  | 0, _ => none
  | f + 1, t => match P.underlying t with
    | some .bool => some .bool
    | some (.int k) => some (.int k)
    | some (.float k) => some (.float k)
    | some .string => some .str
    | some (.slice e) => (shapeOf P f e).map (.slice (P.cellsOf e))
    | some (.struct fs) => shapeFs P (shapeOf P f) (P.cellsOf t) fs.toList 0
    | _ => none

section
variable {H : Type} {enc : TypeId × Value → H} {P : Program} {w : World} {base : Nat} {spare : Nat → Bool} {held : Bool}
theorem trod_float {k : FloatKind} {fuel : Nat} {t : TypeId} {cs : List Value} {x : DataW H × List MemPlace} (ht : P.underlying t = some (.float k)) (h : DataW.trod enc P w base spare held fuel t cs = some x) :
    ∃ n, cs = [.float k n] ∧ (Lit.float k n).wf = true := by
  cases fuel with
  | zero => simp [DataW.trod] at h
  | succ n =>
    unfold DataW.trod at h
    rw [ht] at h
    split at h <;> simp_all
theorem addr_spot {w : World} {a : Addr} {v : Value} (h : w.cell? a = some v) : a = ⟨a.block, a.off, none⟩ := by
  obtain ⟨b, o, s⟩ := a
  cases s with
  | none => rfl
  | some s =>
    unfold World.cell? at h
    split at h
    · simp at h
    · cases h
theorem rows_choose {p : Nat → List Value → Prop} : ∀ (len : Nat), (∀ i, i < len → ∃ r, p i r) → ∃ rows : List (List Value), rows.length = len ∧ ∀ i r, rows[i]? = some r → p i r
  | 0, _ => ⟨[], rfl, by simp⟩
  | len + 1, h => by
    obtain ⟨rows, h1, h2⟩ := rows_choose len fun i hi => h i (by omega)
    obtain ⟨r, hr⟩ := h len (by omega)
    refine ⟨rows ++ [r], by simp [h1], fun i r' hr' => ?_⟩
    rw [List.getElem?_append] at hr'
    split at hr'
    · exact h2 i r' hr'
    · rename_i hge
      have : i = len := by
        have := (List.getElem?_eq_some_iff.1 hr').1
        simp at this; omega
      subst this
      simp [h1] at hr'
      subst hr'
      exact hr
theorem has_of_trod : ∀ (f : Nat) (t : TypeId) (sh : Shape), shapeOf P f t = some sh → ∀ (fuel : Nat) (cs : List Value) (x : DataW H × List MemPlace),
    DataW.trod enc P w base spare held fuel t cs = some x → Has w sh cs := by
  intro f
  induction f with
  | zero => intro t sh h; simp [shapeOf] at h
  | succ f ih =>
    intro t sh hs fuel cs x hx
    unfold shapeOf at hs
    split at hs
    · rename_i ht; cases hs; obtain ⟨b, hb, _⟩ := DataW.trod_bool ht hx; exact ⟨b, hb⟩
    · rename_i k ht; cases hs; obtain ⟨n, hb, _, hw⟩ := DataW.trod_int ht hx; exact ⟨n, hb, hw⟩
    · rename_i k ht; cases hs; obtain ⟨b, hb, hw⟩ := trod_float ht hx; exact ⟨b, hb, hw⟩
    · rename_i ht; cases hs; obtain ⟨s, hb, _, hw⟩ := DataW.trod_string ht hx; exact ⟨s, hb, hw⟩
    · rename_i e ht
      cases he : shapeOf P f e with
      | none => rw [he] at hs; cases hs
      | some se =>
        rw [he] at hs
        cases hs
        rcases DataW.trod_slice ht hx with ⟨rfl, _⟩ | ⟨a, len, cap, elems, rest, n, _, rfl, _, _, hl, hm, hlen, hel, _, _⟩
        · exact ⟨none, 0, 0, [], rfl, Nat.le_refl _, Nat.zero_le _, rfl, by simp, .inl rfl⟩
        · have key : ∀ i, i < len → ∃ r : List Value, w.cells? base (a.add (i * P.cellsOf e)) (P.cellsOf e) = some r ∧ Has w se r := by
            intro i hi
            have h1 := hel i hi
            rw [List.getElem?_eq_getElem (by omega)] at h1
            obtain ⟨r, h2, h3⟩ := Option.bind_eq_some_iff.1 h1
            exact ⟨r, h2, ih e se he n r _ h3⟩
          have hch := rows_choose len key
          obtain ⟨rows, h1, h2⟩ := hch
          refine ⟨some a, len, cap, rows, rfl, hl, hm, h1, fun r hr => ?_, ?_⟩
          · obtain ⟨i, hi, rfl⟩ := List.getElem_of_mem hr
            obtain ⟨h3, h4⟩ := h2 i rows[i] (by simp [hi])
            exact ⟨(World.cells?_some h3).2.1, h4⟩
          · by_cases h0 : len = 0
            · exact .inl h0
            · by_cases hz : P.cellsOf e = 0
              · exact .inr (.inl hz)
              · right; right
                obtain ⟨r0, hr0, _⟩ := key 0 (by omega)
                obtain ⟨_, hl0, hc0⟩ := World.cells?_some hr0
                have h00 := hc0 0 (by omega)
                rw [List.getElem?_eq_getElem (by omega)] at h00
                have ha' : a = ⟨a.block, a.off, none⟩ := addr_spot (v := r0[0]'(by omega)) (by simpa [Addr.add] using h00)
                refine ⟨a.block, a.off, congrArg some ha', fun i r hr j v hv => ?_⟩
                obtain ⟨h3, _⟩ := h2 i r hr
                obtain ⟨_, hl3, hc3⟩ := World.cells?_some h3
                have hj : j < P.cellsOf e := by have := (List.getElem?_eq_some_iff.1 hv).1; omega
                have h4 := hc3 j hj
                rw [hv, ha', Addr.add_lit, Addr.add_lit] at h4
                exact h4
    · rename_i fs ht
      obtain ⟨xs, n, _, _, hcl, hxl, hfs⟩ := DataW.trod_struct ht hx
      have key : ∀ (l : List Field) (k : Nat) (off : Nat) (s : Shape), fs.toList.drop k = l → shapeFs P (shapeOf P f) (P.cellsOf t) l off = some s → Has w s (cs.drop off) := by
        intro l
        induction l with
        | nil =>
          intro k off s _ hs
          unfold shapeFs at hs
          split at hs
          · rename_i h0; cases hs; subst h0; unfold Has; exact List.drop_of_length_le (by omega)
          · cases hs
        | cons x l ihl =>
          intro k off s hd hs
          unfold shapeFs at hs
          split at hs
          · rename_i h0
            subst h0
            obtain ⟨a, ha, hs⟩ := Option.bind_eq_some_iff.1 hs
            obtain ⟨b, hb, rfl⟩ := Option.map_eq_some_iff.1 hs
            have hk : fs[k]? = some x := by
              have : fs.toList[k]? = some x := by
                have := congrArg (fun l : List Field => l[0]?) hd
                simpa using this
              simpa using this
            have h1 := hfs k x hk
            have hkl : k < fs.size := (Array.getElem?_eq_some_iff.1 hk).1
            rw [List.getElem?_eq_getElem (by omega)] at h1
            refine ⟨ih _ _ ha _ _ _ h1, ?_⟩
            rw [List.drop_drop]
            refine ihl (k + 1) _ b ?_ hb
            have := congrArg (List.drop 1) hd
            simpa [List.drop_drop, Nat.add_comm] using this
          · cases hs
      have := key fs.toList 0 0 sh rfl hs
      simpa using this
    · cases hs

/-- An argument of a shape. -/
theorem open_shape (f : Nat) {t : TypeId} {v : Value} {d : DataW H} {ps : List MemPlace} {sh : Shape} (hs : shapeOf P f t = some sh) (h : DataW.Trod enc P w base spare held t v d ps) : Has w sh v.cells.toList :=
  let ⟨_, hf⟩ := h
  has_of_trod f t sh hs _ _ _ hf
theorem cells_slice {r : Reach} {b0 : Nat} {t e : TypeId} {v : Value} (ht : P.underlying t = some (.slice e)) (hval : Value.okWide P w r b0 t v) : v.cells.toList = [v] := by
  obtain ⟨a, len, cap, rfl⟩ := okWide_slice ht hval
  rfl
end

/-- Rows that all come of something come of a list. -/
theorem rows_of {α : Type} (enc : α → List Value) : ∀ (rows : List (List Value)), (∀ r ∈ rows, ∃ a, r = enc a) → ∃ l : List α, rows = l.map enc
  | [], _ => ⟨[], rfl⟩
  | r :: rows, h => by
    obtain ⟨a, ha⟩ := h r (by simp)
    obtain ⟨l, hl⟩ := rows_of enc rows fun r hr => h r (by simp [hr])
    exact ⟨a :: l, by rw [ha, hl]; rfl⟩
theorem flat_get {α : Type} (enc : α → List Value) (sz : Nat) (hsz : ∀ a, (enc a).length = sz) : ∀ (l : List α) (i : Nat) (h : i < l.length) (j : Nat), j < sz → (l.flatMap enc)[i * sz + j]? = (enc l[i])[j]?
  | [], i, h, _, _ => by simp at h
  | a :: l, 0, h, j, hj => by simp [List.getElem?_append_left (show j < (enc a).length by rw [hsz]; exact hj)]
  | a :: l, i + 1, h, j, hj => by
    have e : (i + 1) * sz + j = (enc a).length + (i * sz + j) := by rw [hsz, Nat.add_mul]; omega
    rw [List.flatMap_cons, e, List.getElem?_append_right (by omega), Nat.add_sub_cancel_left]
    simpa using flat_get enc sz hsz l i (by simpa using h) j hj
theorem flat_length {α : Type} (enc : α → List Value) (sz : Nat) (hsz : ∀ a, (enc a).length = sz) (l : List α) : (l.flatMap enc).length = l.length * sz := by
  induction l with
  | nil => simp
  | cons a l ih => simp only [List.flatMap_cons, List.length_append, hsz, ih, List.length_cons, Nat.add_mul]; omega
/-- A slice that came in can be read, at the start and ever after. -/
theorem Has.rd {W : World} {sz : Nat} {e : Shape} {v : Value} {α : Type} (enc : α → List Value) (hsz : ∀ a, (enc a).length = sz) (h0 : 0 < sz) (h : Has W (.slice sz e) [v]) (hr : ∀ r : List Value, r.length = sz → Has W e r → ∃ a, r = enc a) :
    ∃ l : List α, (∀ H : HProp, Rd W H sz v l.length (l.flatMap enc)) ∧ ∃ ao cap, v = .slice ao l.length cap ∧ l.length ≤ cap ∧ cap ≤ maxLen := by
  obtain ⟨ao, len, cap, rows, hv, hl, hm, hlen, hrows, hc⟩ := h
  cases hv
  obtain ⟨l, rfl⟩ := rows_of enc rows fun r hr' => hr r (hrows r hr').1 (hrows r hr').2
  simp only [List.length_map] at hlen
  subst hlen
  refine ⟨l, fun H => ⟨ao, cap, rfl, flat_length enc sz hsz l, by omega, ?_⟩, ao, cap, rfl, hl, hm⟩
  rcases hc with h | h | ⟨b, o, ha, hc⟩
  · left
    have : l = [] := List.eq_nil_of_length_eq_zero h
    subst this; rfl
  · omega
  · right
    refine ⟨b, o, ha, Cells.base fun k u hk => ?_⟩
    have hkl : k < l.length * sz := by have := (List.getElem?_eq_some_iff.1 hk).1; rwa [flat_length enc sz hsz] at this
    have hi : k / sz < l.length := Nat.div_lt_of_lt_mul (by rw [Nat.mul_comm]; exact hkl)
    have hj : k % sz < sz := Nat.mod_lt _ h0
    have hk2 : k / sz * sz + k % sz = k := by rw [Nat.mul_comm]; exact Nat.div_add_mod k sz
    rw [← hk2, flat_get enc sz hsz l _ hi _ hj] at hk
    have := hc (k / sz) (enc l[k / sz]) (by simp [hi]) (k % sz) u hk
    rw [Nat.add_assoc, hk2] at this
    exact this
end Go.SL
namespace Go.SL
open Go
variable {H : Type} {enc : TypeId × Value → H}
theorem handed_shaped {a : Assume} {C : Checked} {os : Os} {f : FuncId} {fn : Func} {s : ChangeSpec} {conds : List PathCond} {apart fresh handsOn again : Bool} {X : World → Array Value → Prop}
    (hX : ∀ (w w' : World) (args : Array Value), w.heap = w'.heap → X w args → X w' args)
    (own : ownKnob C.prog.godebug = none) (started : os.Started) (noInit : C.prog.inits.idxOf? f = none) (hfn : C.prog.funcs[f]? = some fn)
    (wit : ∃ (w : World) (tape : Tape) (i : Input), w.os = os ∧ (w.forCall tape i).Shaped C.prog ∧ i.vars = [] ∧ Input.okWide C.prog (w.forCall tape i) .any w.heap.size f i ∧
      ((s.pre enc C.prog fn conds apart (w.forCall tape i).memory i.args ∧ X (w.forCall tape i).memory i.args) ∧ sizedMet enc C.prog fn (OpenSpec.ofChange s) apart (w.forCall tape i).memory i.args) ∧ a.holds C.prog (lone (Frame.enter C.prog f i.args .normal) [] (w.forCall tape i)))
    (does : ∀ (W : World) (base : Nat) (args : Array Value) (ds gs : List (DataW H)) (before : List MemPlace),
      (∀ (j : Nat) t v, fn.params[j]? = some t → args[j]? = some v → Value.okWide C.prog W .any base t v) →
      DataW.Whole enc C.prog fn.params.toList s.vars apart W args.toList ds gs before → W.ShapedOpen C.prog → X W args →
      Calls C.prog f args W fun e W' => ∃ v, e = .returned v ∧ s.post enc C.prog fn apart fresh handsOn again W args v W') :
    ReturnsInHanded a C os f .any (fun w args => (s.pre enc C.prog fn conds apart w args ∧ X w args) ∧ sizedMet enc C.prog fn (OpenSpec.ofChange s) apart w args) (s.post enc C.prog fn apart fresh handsOn again) :=
  returnsInHanded_of_calls own started noInit wit fun w tape i _ hsh _ hok hpre _ => by
    obtain ⟨_, _, _, g, hg, _, _, _, _, hval⟩ := hok
    cases Option.some.inj (hg.symm.trans hfn)
    obtain ⟨⟨⟨ds, gs, before, hw, _⟩, hx⟩, _⟩ := hpre
    have d := does (w.forCall tape i) w.heap.size i.args ds gs before hval (DataW.Whole.of_heap (w' := w.forCall tape i) (by rfl) hw) hsh (hX _ _ _ (by rfl) hx)
    refine d.mono ?_
    rintro e W' ⟨v, rfl, hp⟩
    exact ChangeSpec.post_blind hp
/-- A listed error's variable holds an interface value. -/
theorem laid_iface {P : Program} {W : World} {n nm : String} {d : DataW Unit} {r : List (String × DataW Unit)} {g : Nat} {ti : TypeId} {ms : Array (String × TypeId)}
    (h : laidMet P ((n, .iface nm d) :: r) W) (hg : P.globalNamed n = some g) (ht : (P.globals[g]?).map (·.type) = some ti) (hi : P.underlying ti = some (.interface ms)) :
    ∃ t a, W.cell? ⟨g, 0, none⟩ = some (.iface t a) := by
  obtain ⟨_, ⟨g', t', cs, fu, _, _, hg', ht', hv, hd, _⟩, _⟩ := h
  cases Option.some.inj (hg.symm.trans hg')
  cases Option.some.inj (ht.symm.trans ht')
  obtain ⟨_, u, v, e, _⟩ := iface_of_trod hi hd
  have hc := World.var?_cell hg hv 0
  refine ⟨u, v, hc.trans ?_⟩
  have e2 := congrArg (·[0]?) e
  simpa using e2
end Go.SL
