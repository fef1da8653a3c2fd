/- Digits, as the document's answer tells them. No condition. -/
import Derived.Test.YtofgpppnknpblaaGreatDoorNzInst
import Derived.Test.YtofgpppnknpblaaGreatDoorSL3
import Derived.Test.YtofgpppnknpblaaGreatDoorSL4
namespace Go.Proofs.YtofgpppnknpblaaGreatDoor
open Go Go.SL
set_option linter.unusedSimpArgs false
set_option linter.unusedVariables false
set_option maxRecDepth 10000
set_option maxHeartbeats 1000000
/-- Digits ahead of what is told. -/
def digGo (n least : Nat) (s : List UInt8) : List UInt8 :=
  if 0 < n ∨ s.length < least then digGo (n / 10) least (UInt8.ofNat (48 + n % 10) :: s) else s
termination_by n + (least - s.length)
decreasing_by simp only [List.length_cons]; omega
theorem digGo_on {n least : Nat} {s : List UInt8} (h : 0 < n ∨ s.length < least) : digGo n least s = digGo (n / 10) least (UInt8.ofNat (48 + n % 10) :: s) := by rw [digGo, if_pos h]
theorem digGo_off {n least : Nat} {s : List UInt8} (h : ¬ (0 < n ∨ s.length < least)) : digGo n least s = s := by rw [digGo, if_neg h]
theorem digGo_dec : ∀ (n : Nat) (s : List UInt8) (h : 0 < n), digGo n 1 s = Lib.decDigits n ++ s := by
  intro n
  induction n using Nat.strongRecOn with
  | _ n ih =>
    intro s h
    rw [digGo_on (.inl h), Lib.decDigits]
    by_cases h10 : n < 10
    · rw [dif_pos h10, digGo_off (by simp; omega), Nat.mod_eq_of_lt h10]; rfl
    · rw [dif_neg h10, ih (n / 10) (by omega) _ (by omega)]; simp
/-- The digits of a number, one at least. -/
theorem digGo_one (n : Nat) : digGo n 1 [] = Lib.decDigits n := by
  by_cases h : 0 < n
  · rw [digGo_dec n [] h, List.append_nil]
  · have : n = 0 := by omega
    subst this
    rw [digGo_on (.inr (by simp)), digGo_off (by simp), Lib.decDigits, dif_pos (by omega)]
abbrev ten : List UInt8 := [48, 49, 50, 51, 52, 53, 54, 55, 56, 57]
theorem ten_at : ∀ a, a < 10 → (ten.take (a + 1)).drop a = [UInt8.ofNat (48 + a)] := by decide
attribute [local irreducible] WP WPL QSeq QBlk QRet Does Cell Cells Rd Mine Ent Aside RV
section
variable {B : World} {H F : HProp}
theorem digits_spec {u least : Nat} (hu : u < 18446744073709551616) (hl : least ≤ 1000) : Does Tryz.prog B 17 [.int .u64 u, .int .i64 least] H fun r H' => H' = H ∧ r = str (digGo u least []) := by
  refine fn_intro 25 Tryz.func17 rfl rfl rfl ?_
  refine walk ?_
  refine wp_loopR (α := Nat × List UInt8) [0, 5, 6, 7, 8, 9, 10, 11, 12, 13, 14, 15, 16, 17, 18, 19, 20, 21, 22, 23] (fun x => [(0, .int .u64 x.1), (5, str x.2)]) (fun x => digGo x.1 least x.2 = digGo u least [] ∧ x.1 < 10 ^ (20 - x.2.length) ∧ x.2.length ≤ 1000 ∧ x.1 ≤ u) (fun x => x.1 + (least - x.2.length)) (u, []) agreed ⟨rfl, by simp; omega, by simp, Nat.le_refl _⟩ ?_
  rintro ⟨n, s⟩ g ⟨h1, h2, h3, h4⟩
  simp only at h1 h2 h3 h4
  simp only [putAll]
  have hm : n % 10 < 10 := Nat.mod_lt _ (by omega)
  have hpow : n / 10 < 10 ^ (20 - (s.length + 1)) := by
    rcases Nat.lt_or_ge s.length 20 with h | h
    · rw [show 20 - s.length = (20 - (s.length + 1)) + 1 by omega, Nat.pow_succ] at h2
      exact Nat.div_lt_of_lt_mul (by rw [Nat.mul_comm]; exact h2)
    · rw [show 20 - s.length = 0 by omega] at h2
      have : n = 0 := by simpa using h2
      subst this
      exact Nat.pow_pos (by omega)
  by_cases hp : 0 < n ∨ s.length < least
  · have hlt : s.length < 1000 := by
      rcases Nat.lt_or_ge s.length 20 with h | h
      · omega
      · rw [show 20 - s.length = 0 by omega] at h2
        have : n = 0 := by simpa using h2
        omega
    by_cases hn0 : 0 < n
    · refine walk ?_
      refine s_sslice (l := ten) (a := n % 10) (b := n % 10 + 1) rfl ⟨.u64, rfl⟩ ⟨.u64, rfl⟩ (by omega) (by simp; omega) (ten_at _ hm) rfl ?_
      refine walk ?_
      refine s_concat rfl rfl (by simp; omega) rfl rfl ?_
      refine walk ?_
      refine s_quo (r := ((n / 10 : Nat) : Int)) rfl rfl (by omega) (by rw [Int.tdiv_eq_ediv_of_nonneg (by omega)]; exact intU64 (by omega)) rfl ?_
      refine walk ?_
      exact ⟨(n / 10, UInt8.ofNat (48 + n % 10) :: s), asided, agreed, Ent.refl _, ⟨by rw [← h1, digGo_on hp], hpow, by simp only [List.length_cons]; omega, by simp only; omega⟩, by simp only [List.length_cons]; omega⟩
    · refine walk ?_
      refine s_slen rfl rfl ?_
      refine walk ?_
      refine s_sslice (l := ten) (a := n % 10) (b := n % 10 + 1) rfl ⟨.u64, rfl⟩ ⟨.u64, rfl⟩ (by omega) (by simp; omega) (ten_at _ hm) rfl ?_
      refine walk ?_
      refine s_concat rfl rfl (by simp; omega) rfl rfl ?_
      refine walk ?_
      refine s_quo (r := ((n / 10 : Nat) : Int)) rfl rfl (by omega) (by rw [Int.tdiv_eq_ediv_of_nonneg (by omega)]; exact intU64 (by omega)) rfl ?_
      refine walk ?_
      exact ⟨(n / 10, UInt8.ofNat (48 + n % 10) :: s), asided, agreed, Ent.refl _, ⟨by rw [← h1, digGo_on hp], hpow, by simp only [List.length_cons]; omega, by simp only; omega⟩, by simp only [List.length_cons]; omega⟩
  · refine walk ?_
    refine s_slen rfl rfl ?_
    refine walk ?_
    (first | refine ret1 (v := .string _) (.inr rfl) rfl rfl ?_ | refine ret1  (.inr rfl) rfl rfl ?_ | refine ret1 (v := .string _) (.inl rfl) rfl rfl ?_ | refine ret1  (.inl rfl) rfl rfl ?_)
    exact ⟨rfl, by rw [← h1, digGo_off hp]⟩
end
end Go.Proofs.YtofgpppnknpblaaGreatDoor
