/- Spans' texts tell their spans: the document's way of reading. No condition. -/
import Derived.Test.YtkgddnelghkdnaaDoorSpSpan4
import Derived.Test.YtkgddnelghkdnaaDoorSL4
namespace Go.Proofs.YtkgddnelghkdnaaDoor
open Go Go.SL Go.SL.Flo
set_option linter.unusedSimpArgs false
set_option linter.unusedVariables false
set_option maxRecDepth 10000
set_option maxHeartbeats 2000000
/-- A sign taken in, as the document does it. -/
def takeU (a : Nat) (c : UInt8) : Nat := if c = 46 then a else (a * 10 + (c - 48).toNat) % 18446744073709551616
def valU (s : List UInt8) : Nat := s.foldl takeU 0
theorem take_dig {a k : Nat} (hk : k < 10) (h : a * 10 + k < 18446744073709551616) : takeU a (UInt8.ofNat (48 + k)) = a * 10 + k := by
  unfold takeU
  have h1 : (UInt8.ofNat (48 + k) : UInt8) ≠ 46 := by
    match k, hk with
    | 0, _ => decide
    | 1, _ => decide
    | 2, _ => decide
    | 3, _ => decide
    | 4, _ => decide
    | 5, _ => decide
    | 6, _ => decide
    | 7, _ => decide
    | 8, _ => decide
    | 9, _ => decide
    | k + 10, h => exact absurd h (by omega)
  have h2 : ((UInt8.ofNat (48 + k) : UInt8) - 48).toNat = k := by
    match k, hk with
    | 0, _ => decide
    | 1, _ => decide
    | 2, _ => decide
    | 3, _ => decide
    | 4, _ => decide
    | 5, _ => decide
    | 6, _ => decide
    | 7, _ => decide
    | 8, _ => decide
    | 9, _ => decide
    | k + 10, h => exact absurd h (by omega)
  rw [if_neg h1, h2, Nat.mod_eq_of_lt h]
theorem take_dec : ∀ (k a : Nat), a * 10 ^ (dg k).length + k < 18446744073709551616 → (dg k).foldl takeU a = a * 10 ^ (dg k).length + k := by
  intro k
  induction k using Nat.strongRecOn with
  | _ k ih =>
    intro a h
    change a * 10 ^ (Lib.decDigits k).length + k < _ at h
    show (Lib.decDigits k).foldl takeU a = a * 10 ^ (Lib.decDigits k).length + k
    by_cases hk : k < 10
    · have e : Lib.decDigits k = [UInt8.ofNat (48 + k)] := by rw [dec_step, if_pos hk]
      rw [e] at h ⊢
      simp only [List.length_cons, List.length_nil, Nat.zero_add, Nat.pow_one] at h ⊢
      exact take_dig hk h
    · have e : Lib.decDigits k = Lib.decDigits (k / 10) ++ [UInt8.ofNat (48 + k % 10)] := by rw [dec_step, if_neg hk]
      rw [e] at h ⊢
      rw [List.length_append, List.length_cons, List.length_nil, Nat.zero_add, Nat.pow_succ] at h ⊢
      have h2 := ih (k / 10) (by omega) a
      change a * 10 ^ (Lib.decDigits (k / 10)).length + k / 10 < _ → (Lib.decDigits (k / 10)).foldl takeU a = a * 10 ^ (Lib.decDigits (k / 10)).length + k / 10 at h2
      generalize 10 ^ (Lib.decDigits (k / 10)).length = P at *
      have ea : a * (P * 10) = a * P * 10 := by rw [Nat.mul_assoc]
      rw [ea] at h ⊢
      have h3 := h2 (by omega)
      rw [List.foldl_append, h3]
      show takeU _ _ = _
      rw [take_dig (by omega) (by omega)]
      omega
theorem take_zeros : ∀ (m a : Nat), a * 10 ^ m < 18446744073709551616 → (List.replicate m (48 : UInt8)).foldl takeU a = a * 10 ^ m
  | 0, a, _ => by simp
  | m + 1, a, h => by
    rw [Nat.pow_succ] at h ⊢
    have ea : a * (10 ^ m * 10) = a * 10 * 10 ^ m := by rw [Nat.mul_comm (10 ^ m), ← Nat.mul_assoc]
    rw [ea] at h ⊢
    have hp : 0 < 10 ^ m := Nat.pow_pos (by omega)
    have hle : a * 10 ≤ a * 10 * 10 ^ m := Nat.le_mul_of_pos_right _ hp
    rw [List.replicate_succ, List.foldl_cons]
    have e1 := take_dig (a := a) (k := 0) (by omega) (by omega)
    have e2 : takeU a 48 = a * 10 := e1
    rw [e2]
    exact take_zeros m (a * 10) h
theorem take_six {a k : Nat} (hk : k < 1000000) (h : a * 1000000 + k < 18446744073709551616) : (pad6 k).foldl takeU a = a * 1000000 + k := by
  have hl := six_len k hk
  have h6 : (10 : Nat) ^ (6 - (dg k).length) * 10 ^ (dg k).length = 1000000 := by
    rw [← Nat.pow_add, show 6 - (dg k).length + (dg k).length = 6 by omega]
  have hp : 0 < (10 : Nat) ^ (dg k).length := Nat.pow_pos (by omega)
  have ea : a * 10 ^ (6 - (dg k).length) * 10 ^ (dg k).length = a * 1000000 := by rw [Nat.mul_assoc, h6]
  have hle : a * 10 ^ (6 - (dg k).length) ≤ a * 10 ^ (6 - (dg k).length) * 10 ^ (dg k).length := Nat.le_mul_of_pos_right _ hp
  unfold pad6
  rw [List.foldl_append, take_zeros _ _ (by omega), take_dec _ _ (by rw [ea]; exact h), ea]
/-- A span's text tells the span. -/
theorem val_text {n : Int} (h : 0 ≤ n ∧ n ≤ 4611686018427387904) : valU (textS n) = n.toNat := by
  unfold valU textS
  rw [if_pos h, List.foldl_append, List.foldl_append, take_dec _ _ (by omega)]
  have e : [46].foldl takeU (0 * 10 ^ (dg (n / 1000000).toNat).length + (n / 1000000).toNat) = (n / 1000000).toNat := by
    simp [takeU]
  rw [e, take_six (by omega) (by omega)]
  omega
theorem text_one {n m : Int} (hn : 0 ≤ n ∧ n ≤ 4611686018427387904) (hm : 0 ≤ m ∧ m ≤ 4611686018427387904) (h : textS n = textS m) : n = m := by
  have h1 := val_text hn
  have h2 := val_text hm
  rw [h, h2] at h1
  omega
theorem text_some {n : Int} (h : textS n ≠ []) : 0 ≤ n ∧ n ≤ 4611686018427387904 := by
  unfold textS at h
  by_cases hn : 0 ≤ n ∧ n ≤ 4611686018427387904
  · exact hn
  · rw [if_neg hn] at h
    exact absurd rfl h
theorem text_ne {n : Int} (h : 0 ≤ n ∧ n ≤ 4611686018427387904) : textS n ≠ [] := by
  unfold textS
  rw [if_pos h]
  simp
theorem text_len {n : Int} : (textS n).length < 30 := by
  unfold textS
  split
  · have h1 := dg_len (show (n / 1000000).toNat < 18446744073709551616 by omega)
    have h2 := six_len (n % 1000000).toNat (by omega)
    unfold pad6
    simp only [List.length_append, List.length_cons, List.length_nil, List.length_replicate]
    omega
  · simp
open Classical in
/-- What reading answers. -/
noncomputable def readS (s : List UInt8) : Value := if s ≠ [] ∧ textS (valU s) = s then .tuple #[.int .i64 (valU s : Nat), .int .i64 0] else .tuple #[.int .i64 0, .int .i64 10]
/-- Whoever finds a span with this text reads it. -/
theorem readS_hit {s : List UInt8} {n : Int} (h0 : s ≠ []) (h : textS n = s) : readS s = .tuple #[.int .i64 n, .int .i64 0] := by
  have hn := text_some (n := n) (by rw [h]; exact h0)
  have hv := val_text hn
  rw [h] at hv
  have e : ((valU s : Nat) : Int) = n := by omega
  unfold readS
  rw [e, if_pos ⟨h0, h⟩]
/-- Where the span that would have it has it not, none has. -/
theorem readS_miss {s : List UInt8} (h : s = [] ∨ ∀ n : Int, 0 ≤ n ∧ n ≤ 4611686018427387904 → textS n ≠ s) : readS s = .tuple #[.int .i64 0, .int .i64 10] := by
  unfold readS
  rw [if_neg]
  rintro ⟨h0, h1⟩
  rcases h with h | h
  · exact h0 h
  · exact h _ (text_some (by rw [h1]; exact h0)) h1
end Go.Proofs.YtkgddnelghkdnaaDoor
