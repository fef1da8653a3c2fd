/- A ring's head and tail in one word. No condition. -/
import Derived.Test.YtdmfojjpanndoaaDoorWdInst
import Derived.Test.YtdmfojjpanndoaaDoorSLRange
namespace Go.Proofs.YtdmfojjpanndoaaDoor
open Go Go.SL
set_option linter.unusedSimpArgs false
set_option linter.unusedVariables false
set_option maxRecDepth 10000
attribute [local irreducible] WP WPL QSeq QBlk QRet Does Cell Cells Rd Mine Ent Aside RV

/-- A head, or a tail. -/
abbrev U32 (h : Int) : Prop := 0 ≤ h ∧ h < 4294967296
/-- The word of a head and a tail. -/
def wd (h t : Int) : Value := .int .u64 (h * 4294967296 + t)
/-- Rooms. -/
def isRoom (q : Nat) : Bool := decide (2 ≤ q ∧ q ≤ 65536) && decide (q &&& (q - 1) = 0)
theorem room_pow {q : Nat} (h : isRoom q = true) : ∃ k, 1 ≤ k ∧ k ≤ 16 ∧ q = 2 ^ k := by
  simp only [isRoom, Bool.and_eq_true, decide_eq_true_eq] at h
  obtain ⟨⟨h1, h2⟩, h3⟩ := h
  obtain ⟨k, rfl⟩ := (Nat.and_sub_one_eq_zero_iff_isPowerOfTwo (by omega)).1 h3
  refine ⟨k, ?_, ?_, rfl⟩
  · rcases Nat.eq_zero_or_pos k with h | h
    · subst h; simp at h1
    · omega
  · rcases Nat.lt_or_ge 16 k with h | h
    · have := Nat.pow_le_pow_right (show 0 < 2 by omega) (show 17 ≤ k by omega)
      omega
    · omega
theorem isRoom_pow {k : Nat} (h1 : 1 ≤ k) (h2 : k ≤ 16) : isRoom (2 ^ k) = true := by
  have a := Nat.pow_le_pow_right (show 0 < 2 by omega) h1
  have b := Nat.pow_le_pow_right (show 0 < 2 by omega) h2
  have c := (Nat.and_sub_one_eq_zero_iff_isPowerOfTwo (n := 2 ^ k) (by omega)).2 ⟨k, rfl⟩
  simp only [isRoom, Bool.and_eq_true, decide_eq_true_eq]
  exact ⟨⟨by omega, by omega⟩, c⟩
theorem room_bound {q : Nat} (h : isRoom q = true) : 2 ≤ q ∧ q ≤ 65536 := by simp [isRoom] at h; omega
theorem room_even {q : Nat} (h : isRoom q = true) : q = q / 2 + q / 2 := by
  obtain ⟨k, h1, _, rfl⟩ := room_pow h
  obtain ⟨j, rfl⟩ : ∃ j, k = j + 1 := ⟨k - 1, by omega⟩
  rw [Nat.pow_succ]; omega
theorem room_div {q : Nat} (h : isRoom q = true) : (4294967296 : Nat) = (4294967296 / q) * q := by
  obtain ⟨k, h1, h2, rfl⟩ := room_pow h
  have : (4294967296 : Nat) = 2 ^ (32 - k) * 2 ^ k := by rw [← Nat.pow_add, show 32 - k + k = 32 by omega]
  rw [this, Nat.mul_div_cancel _ (Nat.pos_of_ne_zero (by simp))]
theorem mod_room {q : Nat} (h : isRoom q = true) (a : Nat) : a % 4294967296 % q = a % q := by
  have := room_div h
  exact Nat.mod_mod_of_dvd a ⟨4294967296 / q, by rw [Nat.mul_comm]; exact this⟩
theorem and_room {q : Nat} (h : isRoom q = true) (a : Nat) : a &&& (q - 1) = a % q := by
  obtain ⟨k, _, _, rfl⟩ := room_pow h
  exact Nat.and_two_pow_sub_one_eq_mod a k

theorem fdiv_word {h t : Int} (h1 : U32 h) (h2 : U32 t) : (h * 4294967296 + t).fdiv (2 ^ (min (Int.toNat 32) (IntKind.bits .u64))) = h := by
  have e : (2 : Int) ^ (min (Int.toNat 32) (IntKind.bits .u64)) = 4294967296 := by decide
  rw [e, Int.fdiv_eq_ediv_of_nonneg _ (by omega)]
  unfold U32 at *
  omega
theorem or_word {h t : Int} (h1 : U32 h) (h2 : U32 t) : (h * 4294967296).toNat ||| t.toNat = (h * 4294967296 + t).toNat := by
  obtain ⟨a, rfl⟩ := Int.eq_ofNat_of_zero_le h1.1
  obtain ⟨b, rfl⟩ := Int.eq_ofNat_of_zero_le h2.1
  have hb : b < 2 ^ 32 := by have := h2.2; omega
  have e1 : ((a : Int) * 4294967296).toNat = a <<< 32 := by rw [Nat.shiftLeft_eq]; omega
  have e2 : ((a : Int) * 4294967296 + (b : Int)).toNat = a <<< 32 + b := by rw [Nat.shiftLeft_eq]; omega
  rw [e1, e2, Int.toNat_natCast, Nat.shiftLeft_add_eq_or_of_lt hb]

section
variable {B : World} {H : HProp} {h t n p : Int} {q : Nat}
theorem head_spec (h1 : U32 h) (h2 : U32 t) : Does Tryd.prog B 14 [wd h t] H fun r H' => H' = H ∧ r = .int .u32 h := by
  refine fn_intro 6 Tryd.func14 rfl rfl rfl ?_
  refine walk ?_
  refine s_shr rfl rfl (by omega) (fdiv_word h1 h2) rfl ?_
  refine walk ?_
  exact ret1 (v := .int _ _) (.inr rfl) rfl rfl ⟨rfl, rfl⟩
theorem tail_spec (h1 : U32 h) (h2 : U32 t) : Does Tryd.prog B 17 [wd h t] H fun r H' => H' = H ∧ r = .int .u32 t := by
  refine fn_intro 5 Tryd.func17 rfl rfl rfl ?_
  refine walk ?_
  exact ret1 (v := .int _ _) (.inr rfl) rfl rfl ⟨rfl, congrArg (Value.int _) (by omega)⟩
theorem pack_spec (h1 : U32 h) (h2 : U32 t) : Does Tryd.prog B 11 [.int .u32 h, .int .u32 t] H fun r H' => H' = H ∧ r = wd h t := by
  refine fn_intro 11 Tryd.func11 rfl rfl rfl ?_
  refine walk ?_
  refine s_shl (r := h * 4294967296) rfl rfl (by omega) (intU64 (n := h * 4294967296) (by omega)) rfl ?_
  refine walk ?_
  refine s_or rfl rfl (by constructor; omega; exact (by omega : h * 4294967296 < 18446744073709551616)) (by constructor; omega; exact (by omega : t < 18446744073709551616)) (or_word h1 h2) (intU64 (by omega)) rfl ?_
  refine walk ?_
  exact ret1 (v := .int _ _) (.inr rfl) rfl rfl ⟨rfl, congrArg (Value.int _) (by omega)⟩
theorem len_spec (h1 : U32 h) (h2 : U32 t) : Does Tryd.prog B 13 [wd h t] H fun r H' => H' = H ∧ r = .int .u32 ((t - h) % 4294967296) := by
  refine fn_intro 8 Tryd.func13 rfl rfl rfl ?_
  refine walk ?_
  refine s_call rfl (tail_spec h1 h2) rfl ?_
  rintro _ _ ⟨e_, rfl⟩
  obtain rfl := e_.symm
  refine walk ?_
  refine s_call rfl (head_spec h1 h2) rfl ?_
  rintro _ _ ⟨e_, rfl⟩
  obtain rfl := e_.symm
  refine walk ?_
  exact ret1 (v := .int _ _) (.inr rfl) rfl rfl ⟨rfl, rfl⟩
theorem gain_spec (h1 : U32 h) (h2 : U32 t) (h3 : U32 n) : Does Tryd.prog B 26 [wd h t, .int .u32 n] H fun r H' => H' = H ∧ r = wd ((h + n) % 4294967296) t := by
  refine fn_intro 12 Tryd.func26 rfl rfl rfl ?_
  refine walk ?_
  refine s_call rfl (head_spec h1 h2) rfl ?_
  rintro _ _ ⟨e_, rfl⟩
  obtain rfl := e_.symm
  refine walk ?_
  refine s_call rfl (tail_spec h1 h2) rfl ?_
  rintro _ _ ⟨e_, rfl⟩
  obtain rfl := e_.symm
  refine walk ?_
  refine s_call rfl (pack_spec (h := (h + n) % 4294967296) (by unfold U32; omega) h2) rfl ?_
  rintro _ _ ⟨e_, rfl⟩
  obtain rfl := e_.symm
  refine walk ?_
  exact ret1 (v := .int _ _) (.inr rfl) rfl rfl ⟨rfl, rfl⟩
theorem grow_spec (h1 : U32 h) (h2 : U32 t) (h3 : U32 n) : Does Tryd.prog B 27 [wd h t, .int .u32 n] H fun r H' => H' = H ∧ r = wd h ((t + n) % 4294967296) := by
  refine fn_intro 12 Tryd.func27 rfl rfl rfl ?_
  refine walk ?_
  refine s_call rfl (head_spec h1 h2) rfl ?_
  rintro _ _ ⟨e_, rfl⟩
  obtain rfl := e_.symm
  refine walk ?_
  refine s_call rfl (tail_spec h1 h2) rfl ?_
  rintro _ _ ⟨e_, rfl⟩
  obtain rfl := e_.symm
  refine walk ?_
  refine s_call rfl (pack_spec (t := (t + n) % 4294967296) h1 (by unfold U32; omega)) rfl ?_
  rintro _ _ ⟨e_, rfl⟩
  obtain rfl := e_.symm
  refine walk ?_
  exact ret1 (v := .int _ _) (.inr rfl) rfl rfl ⟨rfl, rfl⟩
theorem drop_spec (h1 : U32 h) (h2 : U32 t) (h3 : U32 n) : Does Tryd.prog B 28 [wd h t, .int .u32 n] H fun r H' => H' = H ∧ r = wd h ((t - n) % 4294967296) := by
  refine fn_intro 12 Tryd.func28 rfl rfl rfl ?_
  refine walk ?_
  refine s_call rfl (head_spec h1 h2) rfl ?_
  rintro _ _ ⟨e_, rfl⟩
  obtain rfl := e_.symm
  refine walk ?_
  refine s_call rfl (tail_spec h1 h2) rfl ?_
  rintro _ _ ⟨e_, rfl⟩
  obtain rfl := e_.symm
  refine walk ?_
  refine s_call rfl (pack_spec (t := (t - n) % 4294967296) h1 (by unfold U32; omega)) rfl ?_
  rintro _ _ ⟨e_, rfl⟩
  obtain rfl := e_.symm
  refine walk ?_
  exact ret1 (v := .int _ _) (.inr rfl) rfl rfl ⟨rfl, rfl⟩
theorem older_spec (h1 : U32 n) : Does Tryd.prog B 12 [.int .u32 n] H fun r H' => H' = H ∧ r = .int .u32 (n - n / 2) := by
  refine fn_intro 7 Tryd.func12 rfl rfl rfl ?_
  refine walk ?_
  refine s_quo (r := n / 2) rfl rfl (by omega) (by rw [Int.tdiv_eq_ediv_of_nonneg h1.1]; exact intU32 (by omega)) rfl ?_
  refine walk ?_
  exact ret1 (v := .int _ _) (.inr rfl) rfl rfl ⟨rfl, rfl⟩
theorem roomOf_spec {q : Int} : Does Tryd.prog B 20 [.int .i64 q] H fun r H' => H' = H ∧ r = .bool (decide (0 ≤ q) && isRoom q.toNat) := by
  refine fn_intro 16 Tryd.func20 rfl rfl rfl ?_
  by_cases h1 : 2 ≤ q
  · by_cases h2 : q ≤ 65536
    · refine walk ?_
      refine s_and rfl rfl ⟨by omega, (by omega : q < 18446744073709551616)⟩ ⟨by omega, (by omega : q - 1 < 18446744073709551616)⟩ rfl (intI64 (by have := Nat.and_le_left (n := q.toNat) (m := (q - 1).toNat); omega)) rfl ?_
      have e : (q - 1).toNat = q.toNat - 1 := by omega
      refine walk ?_
      refine s_eql rfl rfl rfl rfl ?_
      refine walk ?_
      refine ret1 (.inr rfl) rfl rfl ⟨rfl, ?_⟩
      show Value.bool _ = _
      congr 1
      rw [e]
      have e0 : decide (0 ≤ q) = true := by simp; omega
      have e1 : decide (2 ≤ q.toNat ∧ q.toNat ≤ 65536) = true := by simp; omega
      unfold isRoom
      rw [e0, e1]
      simp
    · refine walk ?_
      refine ret1 (v := .bool _) (.inr rfl) rfl rfl ⟨rfl, ?_⟩
      have : isRoom q.toNat = false := by simp [isRoom]; omega
      simp [this]
  · refine walk ?_
    refine ret1 (v := .bool _) (.inr rfl) rfl rfl ⟨rfl, ?_⟩
    have : isRoom q.toNat = false := by simp [isRoom]; omega
    simp [this]
theorem slot_spec (hp : U32 p) (hq : isRoom q = true) : Does Tryd.prog B 22 [.int .u32 p, .int .i64 q] H fun r H' => H' = H ∧ r = .int .i64 ((p.toNat % q : Nat)) := by
  have hb := room_bound hq
  refine fn_intro 13 Tryd.func22 rfl rfl rfl ?_
  refine walk ?_
  refine s_call rfl (roomOf_spec) rfl ?_
  rintro _ _ ⟨e_, rfl⟩
  obtain rfl := e_.symm
  refine walk ?_
  have e : (decide (0 ≤ (q : Int)) && isRoom (q : Int).toNat) = true := by simp [hq]
  rw [e]
  refine walk ?_
  refine s_and rfl rfl ⟨by omega, (by omega : p < 18446744073709551616)⟩ ⟨by omega, (by omega : (q : Int) - 1 < 18446744073709551616)⟩ (show p.toNat &&& ((q : Int) - 1).toNat = p.toNat % q by rw [show ((q : Int) - 1).toNat = q - 1 by omega]; exact and_room hq _) (intI64 (by have := Nat.mod_lt p.toNat (show q > 0 by omega); omega)) rfl ?_
  refine walk ?_
  exact ret1 (v := .int _ _) (.inr rfl) rfl rfl ⟨rfl, rfl⟩
end
end Go.Proofs.YtdmfojjpanndoaaDoor
