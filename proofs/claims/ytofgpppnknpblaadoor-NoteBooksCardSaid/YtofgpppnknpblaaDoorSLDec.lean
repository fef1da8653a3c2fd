/- Decimal digits, and words parted by a blank: plain facts. No condition. -/
import Derived.Lib.ItoaNum
import Derived.Lib.Join
set_option linter.unusedSimpArgs false
set_option linter.unusedVariables false
namespace Go.SL
open Go
theorem dec_step (u : Nat) : Lib.decDigits u = if u < 10 then [UInt8.ofNat (48 + u)] else Lib.decDigits (u / 10) ++ [UInt8.ofNat (48 + u % 10)] := by
  rw [Lib.decDigits]
  split <;> rfl
theorem ofNat_dig : ∀ a, a < 10 → ∀ b, b < 10 → UInt8.ofNat (48 + a) = UInt8.ofNat (48 + b) → a = b := by decide
theorem dec_ne (u : Nat) : Lib.decDigits u ≠ [] := by
  rw [dec_step]
  split <;> simp
theorem dec_inj : ∀ (u v : Nat), Lib.decDigits u = Lib.decDigits v → u = v := by
  intro u
  induction u using Nat.strongRecOn with
  | _ u ih =>
    intro v h
    rw [dec_step u, dec_step v] at h
    by_cases hu : u < 10
    · rw [if_pos hu] at h
      by_cases hv : v < 10
      · rw [if_pos hv] at h
        exact ofNat_dig u hu v hv (by simpa using h)
      · rw [if_neg hv] at h
        have := congrArg List.length h
        simp only [List.length_cons, List.length_nil, List.length_append] at this
        have h0 : (Lib.decDigits (v / 10)).length ≠ 0 := fun e => dec_ne _ (List.length_eq_zero_iff.1 e)
        omega
    · rw [if_neg hu] at h
      by_cases hv : v < 10
      · rw [if_pos hv] at h
        have := congrArg List.length h
        simp only [List.length_cons, List.length_nil, List.length_append] at this
        have h0 : (Lib.decDigits (u / 10)).length ≠ 0 := fun e => dec_ne _ (List.length_eq_zero_iff.1 e)
        omega
      · rw [if_neg hv] at h
        obtain ⟨h1, h2⟩ := List.append_inj' h rfl
        have e1 := ih (u / 10) (by omega) _ h1
        have e2 := ofNat_dig (u % 10) (by omega) (v % 10) (by omega) (by simpa using h2)
        omega
theorem dig_range : ∀ a, a < 10 → 48 ≤ UInt8.ofNat (48 + a) ∧ UInt8.ofNat (48 + a) ≤ 57 := by decide
theorem dec_range : ∀ (u : Nat) (c : UInt8), c ∈ Lib.decDigits u → 48 ≤ c ∧ c ≤ 57 := by
  intro u
  induction u using Nat.strongRecOn with
  | _ u ih =>
    intro c h
    rw [dec_step] at h
    split at h
    · rename_i hu
      rw [List.mem_singleton] at h
      subst h
      exact dig_range u hu
    · rw [List.mem_append, List.mem_singleton] at h
      rcases h with h | h
      · exact ih (u / 10) (by omega) c h
      · subst h
        exact dig_range (u % 10) (by omega)
theorem dec_no (u : Nat) {c : UInt8} (h : c < 48 ∨ 57 < c) : c ∉ Lib.decDigits u := fun hm => by
  obtain ⟨h1, h2⟩ := dec_range u c hm
  rw [UInt8.le_iff_toNat_le] at h1 h2
  rw [UInt8.lt_iff_toNat_lt, UInt8.lt_iff_toNat_lt] at h
  omega
/-- The first place of a sign parts a row in one way. -/
theorem cut_inj {α : Type} {x : α} : ∀ {a a' b b' : List α}, x ∉ a → x ∉ a' → a ++ x :: b = a' ++ x :: b' → a = a' ∧ b = b'
  | [], [], b, b', _, _, h => ⟨rfl, by simpa using h⟩
  | [], y :: a', b, b', _, h2, h => by
    simp only [List.nil_append, List.cons_append, List.cons.injEq] at h
    exact absurd (by rw [h.1]; simp) h2
  | y :: a, [], b, b', h1, _, h => by
    simp only [List.nil_append, List.cons_append, List.cons.injEq] at h
    exact absurd (by rw [← h.1]; simp) h1
  | y :: a, z :: a', b, b', h1, h2, h => by
    simp only [List.cons_append, List.cons.injEq] at h
    obtain ⟨e1, e2⟩ := cut_inj (fun hm => h1 (List.mem_cons_of_mem _ hm)) (fun hm => h2 (List.mem_cons_of_mem _ hm)) h.2
    exact ⟨by rw [h.1, e1], e2⟩
theorem flatMap_len {α : Type} {f : Nat → List α} {sz : Nat} (hf : ∀ p, (f p).length = sz) (n : Nat) : ((List.range n).flatMap f).length = n * sz := by
  induction n with
  | zero => simp
  | succ n ih => rw [List.range_succ, List.flatMap_append, List.length_append, ih, Nat.add_mul]; simp [hf]
theorem flatMap_get {α : Type} {f : Nat → List α} {sz : Nat} (hf : ∀ p, (f p).length = sz) : ∀ (n k : Nat), k < n * sz → ((List.range n).flatMap f)[k]? = (f (k / sz))[k % sz]?
  | 0, k, h => by simp at h
  | n + 1, k, h => by
    have hl := flatMap_len hf n
    have hs : 0 < sz := by
      rcases Nat.eq_zero_or_pos sz with h0 | h0
      · subst h0; simp at h
      · exact h0
    rw [List.range_succ, List.flatMap_append]
    by_cases hlt : k < n * sz
    · rw [List.getElem?_append_left (by omega), flatMap_get hf n k hlt]
    · rw [List.getElem?_append_right (by omega), hl]
      have hk : k - n * sz < sz := by rw [Nat.add_mul] at h; omega
      have e : k = (k - n * sz) + n * sz := by omega
      have e1 : k / sz = n := by rw [e, Nat.add_mul_div_right _ _ hs, Nat.div_eq_of_lt hk]; omega
      have e2 : k % sz = k - n * sz := by
        conv => lhs; rw [e]
        rw [Nat.add_mul_mod_self_right, Nat.mod_eq_of_lt hk]
      rw [e1, e2]
      simp
theorem join_two (x y sep : List UInt8) : Lib.join [x, y] sep = x ++ sep ++ y := by simp [Lib.join_cons, Lib.joinTail]
theorem join_three (x y z sep : List UInt8) : Lib.join [x, y, z] sep = x ++ sep ++ y ++ sep ++ z := by simp [Lib.join_cons, Lib.joinTail]
end Go.SL
