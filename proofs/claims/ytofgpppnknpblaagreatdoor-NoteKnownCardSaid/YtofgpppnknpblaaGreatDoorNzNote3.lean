/- The document's notes: right, or not; their texts. No condition. -/
import Derived.Test.YtofgpppnknpblaaGreatDoorNzNote2
import Derived.Test.YtofgpppnknpblaaGreatDoorNzTxt
namespace Go.Proofs.YtofgpppnknpblaaGreatDoor
open Go Go.SL
set_option linter.unusedSimpArgs false
set_option linter.unusedVariables false
set_option maxRecDepth 10000
set_option maxHeartbeats 2000000
abbrev isL (c : UInt8) : Prop := c = 103 ∨ c = 112 ∨ c = 109 ∨ c = 120
abbrev tok (n : Nt) (c : UInt8) : List UInt8 := c :: dg (getL n c).toNat
/-- A note's text. -/
def textN (n : Nt) : List UInt8 := if RightN n then Lib.join (wordK n.kind.toNat :: (hasOf n.kind).map (tok n)) [32] else []
theorem word_len : ∀ k, k < 17 → (wordK k).length ≤ 8 := by decide
/-- A word, and letters with their numbers. -/
def outN (n : Nt) (w L : List UInt8) : List UInt8 := w ++ L.flatMap fun c => 32 :: c :: dg (getL n c).toNat
theorem outN_push (n : Nt) (w L : List UInt8) (c : UInt8) : outN n w (L ++ [c]) = outN n w L ++ [32] ++ [c] ++ dg (getL n c).toNat := by
  unfold outN
  simp
theorem outN_nil (n : Nt) (w : List UInt8) : outN n w [] = w := by simp [outN]
theorem outN_join (n : Nt) (w L : List UInt8) : Lib.join (w :: L.map (tok n)) [32] = outN n w L := by
  rw [Lib.join_cons]
  unfold outN Lib.joinTail
  congr 1
  induction L with
  | nil => rfl
  | cons c L ih => simp only [List.map_cons, List.flatten_cons, List.flatMap_cons, ih]; simp
def nsOk (n : Nt) : Prop := ∀ c, getL n c < 9223372036854775808
theorem outN_len {n : Nt} (hn : nsOk n) (w : List UInt8) : ∀ L : List UInt8, (outN n w L).length ≤ w.length + 22 * L.length := by
  intro L
  unfold outN
  rw [List.length_append]
  have : (L.flatMap fun c => 32 :: c :: dg (getL n c).toNat).length ≤ 22 * L.length := by
    induction L with
    | nil => simp
    | cons c L ih =>
      have hd := dg_len (n := (getL n c).toNat) (by have := hn c; omega)
      simp only [List.flatMap_cons, List.length_append, List.length_cons]
      omega
  omega
theorem right_get {n : Nt} (h : RightN n) {c : UInt8} (hc : c ∈ hasOf n.kind) : 0 ≤ getL n c := by
  have hk := hasOf_kind h.1
  obtain ⟨i, hi⟩ := Int.eq_ofNat_of_zero_le (show 0 ≤ n.kind by omega)
  have e : hasOf n.kind = hasK i := by unfold hasOf; rw [if_pos (by omega), hi]; rfl
  rw [e] at hc
  exact ((right_of hi (by omega) (by omega)).1 h).2.1 c hc
attribute [local irreducible] WP WPL QSeq QBlk QRet Does Cell Cells Rd Mine Ent Aside RV Yield IterAt
section
variable {B : World} {F H G : HProp} {n : Nt} {k v : Int} {c : UInt8} {b : Nat}
theorem rHas : Does Tryz.prog B 5 [.int .i64 k] H fun r H' => H' = H ∧ r = str (hasOf k) := by
  by_cases hk : 1 ≤ k ∧ k ≤ 16
  · have hc : k = 1 ∨ k = 2 ∨ k = 3 ∨ k = 4 ∨ k = 5 ∨ k = 6 ∨ k = 7 ∨ k = 8 ∨ k = 9 ∨ k = 10 ∨ k = 11 ∨ k = 12 ∨ k = 13 ∨ k = 14 ∨ k = 15 ∨ k = 16 := by omega
    refine fn_intro 27 Tryz.func5 rfl rfl rfl ?_
    rcases hc with rfl | rfl | rfl | rfl | rfl | rfl | rfl | rfl | rfl | rfl | rfl | rfl | rfl | rfl | rfl | rfl
    · skip
      refine walk ?_
      (first | refine ret1 (v := .string _) (.inr rfl) rfl rfl ?_ | refine ret1  (.inr rfl) rfl rfl ?_ | refine ret1 (v := .string _) (.inl rfl) rfl rfl ?_ | refine ret1  (.inl rfl) rfl rfl ?_)
      exact ⟨rfl, rfl⟩
    · skip
      refine walk ?_
      (first | refine ret1 (v := .string _) (.inr rfl) rfl rfl ?_ | refine ret1  (.inr rfl) rfl rfl ?_ | refine ret1 (v := .string _) (.inl rfl) rfl rfl ?_ | refine ret1  (.inl rfl) rfl rfl ?_)
      exact ⟨rfl, rfl⟩
    · skip
      refine walk ?_
      (first | refine ret1 (v := .string _) (.inr rfl) rfl rfl ?_ | refine ret1  (.inr rfl) rfl rfl ?_ | refine ret1 (v := .string _) (.inl rfl) rfl rfl ?_ | refine ret1  (.inl rfl) rfl rfl ?_)
      exact ⟨rfl, rfl⟩
    · skip
      refine walk ?_
      (first | refine ret1 (v := .string _) (.inr rfl) rfl rfl ?_ | refine ret1  (.inr rfl) rfl rfl ?_ | refine ret1 (v := .string _) (.inl rfl) rfl rfl ?_ | refine ret1  (.inl rfl) rfl rfl ?_)
      exact ⟨rfl, rfl⟩
    · skip
      refine walk ?_
      (first | refine ret1 (v := .string _) (.inr rfl) rfl rfl ?_ | refine ret1  (.inr rfl) rfl rfl ?_ | refine ret1 (v := .string _) (.inl rfl) rfl rfl ?_ | refine ret1  (.inl rfl) rfl rfl ?_)
      exact ⟨rfl, rfl⟩
    · skip
      refine walk ?_
      (first | refine ret1 (v := .string _) (.inr rfl) rfl rfl ?_ | refine ret1  (.inr rfl) rfl rfl ?_ | refine ret1 (v := .string _) (.inl rfl) rfl rfl ?_ | refine ret1  (.inl rfl) rfl rfl ?_)
      exact ⟨rfl, rfl⟩
    · skip
      refine walk ?_
      (first | refine ret1 (v := .string _) (.inr rfl) rfl rfl ?_ | refine ret1  (.inr rfl) rfl rfl ?_ | refine ret1 (v := .string _) (.inl rfl) rfl rfl ?_ | refine ret1  (.inl rfl) rfl rfl ?_)
      exact ⟨rfl, rfl⟩
    · skip
      refine walk ?_
      (first | refine ret1 (v := .string _) (.inr rfl) rfl rfl ?_ | refine ret1  (.inr rfl) rfl rfl ?_ | refine ret1 (v := .string _) (.inl rfl) rfl rfl ?_ | refine ret1  (.inl rfl) rfl rfl ?_)
      exact ⟨rfl, rfl⟩
    · skip
      refine walk ?_
      (first | refine ret1 (v := .string _) (.inr rfl) rfl rfl ?_ | refine ret1  (.inr rfl) rfl rfl ?_ | refine ret1 (v := .string _) (.inl rfl) rfl rfl ?_ | refine ret1  (.inl rfl) rfl rfl ?_)
      exact ⟨rfl, rfl⟩
    · skip
      refine walk ?_
      (first | refine ret1 (v := .string _) (.inr rfl) rfl rfl ?_ | refine ret1  (.inr rfl) rfl rfl ?_ | refine ret1 (v := .string _) (.inl rfl) rfl rfl ?_ | refine ret1  (.inl rfl) rfl rfl ?_)
      exact ⟨rfl, rfl⟩
    · skip
      refine walk ?_
      (first | refine ret1 (v := .string _) (.inr rfl) rfl rfl ?_ | refine ret1  (.inr rfl) rfl rfl ?_ | refine ret1 (v := .string _) (.inl rfl) rfl rfl ?_ | refine ret1  (.inl rfl) rfl rfl ?_)
      exact ⟨rfl, rfl⟩
    · skip
      refine walk ?_
      (first | refine ret1 (v := .string _) (.inr rfl) rfl rfl ?_ | refine ret1  (.inr rfl) rfl rfl ?_ | refine ret1 (v := .string _) (.inl rfl) rfl rfl ?_ | refine ret1  (.inl rfl) rfl rfl ?_)
      exact ⟨rfl, rfl⟩
    · skip
      refine walk ?_
      (first | refine ret1 (v := .string _) (.inr rfl) rfl rfl ?_ | refine ret1  (.inr rfl) rfl rfl ?_ | refine ret1 (v := .string _) (.inl rfl) rfl rfl ?_ | refine ret1  (.inl rfl) rfl rfl ?_)
      exact ⟨rfl, rfl⟩
    · skip
      refine walk ?_
      (first | refine ret1 (v := .string _) (.inr rfl) rfl rfl ?_ | refine ret1  (.inr rfl) rfl rfl ?_ | refine ret1 (v := .string _) (.inl rfl) rfl rfl ?_ | refine ret1  (.inl rfl) rfl rfl ?_)
      exact ⟨rfl, rfl⟩
    · skip
      refine walk ?_
      (first | refine ret1 (v := .string _) (.inr rfl) rfl rfl ?_ | refine ret1  (.inr rfl) rfl rfl ?_ | refine ret1 (v := .string _) (.inl rfl) rfl rfl ?_ | refine ret1  (.inl rfl) rfl rfl ?_)
      exact ⟨rfl, rfl⟩
    · skip
      refine walk ?_
      (first | refine ret1 (v := .string _) (.inr rfl) rfl rfl ?_ | refine ret1  (.inr rfl) rfl rfl ?_ | refine ret1 (v := .string _) (.inl rfl) rfl rfl ?_ | refine ret1  (.inl rfl) rfl rfl ?_)
      exact ⟨rfl, rfl⟩
  · have e : hasOf k = [] := by
      by_cases h : hasOf k = []
      · exact h
      · exact absurd (hasOf_kind h) hk
    rw [e]
    have n1 : k ≠ 1 := by omega
    have n2 : k ≠ 2 := by omega
    have n3 : k ≠ 3 := by omega
    have n4 : k ≠ 4 := by omega
    have n5 : k ≠ 5 := by omega
    have n6 : k ≠ 6 := by omega
    have n7 : k ≠ 7 := by omega
    have n8 : k ≠ 8 := by omega
    have n9 : k ≠ 9 := by omega
    have n10 : k ≠ 10 := by omega
    have n11 : k ≠ 11 := by omega
    have n12 : k ≠ 12 := by omega
    have n13 : k ≠ 13 := by omega
    have n14 : k ≠ 14 := by omega
    have n15 : k ≠ 15 := by omega
    have n16 : k ≠ 16 := by omega
    refine fn_intro 27 Tryz.func5 rfl rfl rfl ?_
    refine walk ?_
    (first | refine ret1 (v := .string _) (.inr rfl) rfl rfl ?_ | refine ret1  (.inr rfl) rfl rfl ?_ | refine ret1 (v := .string _) (.inl rfl) rfl rfl ?_ | refine ret1  (.inl rfl) rfl rfl ?_)
    exact ⟨rfl, rfl⟩
theorem u8_ne {a b : UInt8} (h : a ≠ b) : a.toNat ≠ b.toNat := fun e => h (UInt8.toNat_inj.1 e)
theorem rhas : Does Tryz.prog B 53 [.int .i64 k, .int .u8 (c.toNat : Nat)] H fun r H' => H' = H ∧ r = .bool (decide (c ∈ hasOf k)) := by
  have hlen := hasOf_len k
  refine fn_intro 20 Tryz.func53 rfl rfl rfl ?_
  refine walk ?_
  refine s_call rfl (rHas) rfl ?_
  rintro _ _ ⟨e_, rfl⟩
  obtain rfl := e_.symm
  refine walk ?_
  generalize hasOf k = L at *
  refine wp_loopR (α := Nat) [4, 6, 9, 10, 11, 12, 13, 14, 15, 16, 17, 18, 19] (fun i => [(6, .int .i64 (i : Nat))]) (fun i => i ≤ L.length ∧ c ∉ L.take i) (fun i => L.length - i) 0 agreed ⟨Nat.zero_le _, by simp⟩ ?_
  rintro i f ⟨hi, hn⟩
  simp only [putAll]
  refine walk ?_
  refine s_slen rfl rfl ?_
  by_cases hlt : i < L.length
  · refine walk ?_
    refine s_sindex (j := i) rfl rfl rfl hlt rfl ?_
    by_cases he : L[i] = c
    · rw [he]
      refine walk ?_
      (first | refine ret1 (v := .bool _) (.inr rfl) rfl rfl ?_ | refine ret1  (.inr rfl) rfl rfl ?_ | refine ret1 (v := .bool _) (.inl rfl) rfl rfl ?_ | refine ret1  (.inl rfl) rfl rfl ?_)
      exact ⟨rfl, by rw [decide_eq_true (he ▸ List.getElem_mem hlt)]⟩
    · have hne := u8_ne he
      refine walk ?_
      refine ⟨i + 1, asided, agreed, Ent.refl _, ⟨hlt, ?_⟩, by omega⟩
      rw [take_push hlt, List.mem_append, List.mem_singleton]
      rintro (h | h)
      · exact hn h
      · exact he h.symm
  · have hie : i = L.length := by omega
    subst hie
    rw [List.take_length] at hn
    refine walk ?_
    (first | refine ret1 (v := .bool _) (.inr rfl) rfl rfl ?_ | refine ret1  (.inr rfl) rfl rfl ?_ | refine ret1 (v := .bool _) (.inl rfl) rfl rfl ?_ | refine ret1  (.inl rfl) rfl rfl ?_)
    exact ⟨rfl, by rw [decide_eq_false hn]⟩
theorem flagOf_iff (hk : 1 ≤ k ∧ k ≤ 16) : flagOf k = true ↔ (k = 2 ∨ k = 11 ∨ k = 13) := by
  obtain ⟨i, rfl⟩ := Int.eq_ofNat_of_zero_le (show 0 ≤ k by omega)
  unfold flagOf
  rw [if_pos (by omega), Int.toNat_natCast, flag_kinds i (by omega)]
  omega
theorem fit_key {b : Bool} (hm : c ∈ hasOf k) (hb : b = true ↔ (c = 120 ∧ flagOf k = true)) : decide (FitP k c v) = (decide (0 ≤ v) && (!b || decide (v < 2))) := by
  unfold FitP
  simp only [if_pos hm]
  cases b
  · have hb' : ¬ (c = 120 ∧ flagOf k = true) := fun h => by have := hb.2 h; simp at this
    simp only [Bool.not_false, Bool.true_or, Bool.and_true, decide_eq_decide]
    exact ⟨fun h => h.1, fun h => ⟨h, fun h1 h2 => absurd ⟨h1, h2⟩ hb'⟩⟩
  · have hb' := hb.1 rfl
    simp only [Bool.not_true, Bool.false_or, ← Bool.decide_and, decide_eq_decide]
    exact ⟨fun h => ⟨h.1, h.2 hb'.1 hb'.2⟩, fun h => ⟨h.1, fun _ _ => h.2⟩⟩
theorem rfits (hc : isL c) : Does Tryz.prog B 35 [.int .i64 k, .int .u8 (c.toNat : Nat), .int .i64 v] H fun r H' => H' = H ∧ r = .bool (decide (FitP k c v)) := by
  refine fn_intro 38 Tryz.func35 rfl rfl rfl ?_
  refine walk ?_
  refine s_call rfl (rhas) rfl ?_
  rintro _ _ ⟨e_, rfl⟩
  obtain rfl := e_.symm
  refine walk ?_
  by_cases hm : c ∈ hasOf k
  · have hk := hasOf_kind (List.ne_nil_of_mem hm)
    have hfl := flagOf_iff hk
    rw [decide_eq_true hm]
    refine walk ?_
    by_cases hx : c = 120
    · subst hx
      simp only [show (120 : UInt8).toNat = 120 from rfl]
      by_cases h2 : k = 2
      · have hb : true = true ↔ ((120 : UInt8) = 120 ∧ flagOf k = true) := by rw [hfl]; simp [h2]
        by_cases h0 : 0 ≤ v
        · by_cases h2 : v < 2
          · refine walk ?_
            (first | refine ret1 (v := .bool _) (.inr rfl) rfl rfl ?_ | refine ret1  (.inr rfl) rfl rfl ?_ | refine ret1 (v := .bool _) (.inl rfl) rfl rfl ?_ | refine ret1  (.inl rfl) rfl rfl ?_)
            exact ⟨rfl, by rw [fit_key hm hb]; simp [h0, h2]⟩
          · refine walk ?_
            (first | refine ret1 (v := .bool _) (.inr rfl) rfl rfl ?_ | refine ret1  (.inr rfl) rfl rfl ?_ | refine ret1 (v := .bool _) (.inl rfl) rfl rfl ?_ | refine ret1  (.inl rfl) rfl rfl ?_)
            exact ⟨rfl, by rw [fit_key hm hb]; simp [h0, h2]⟩
        · refine walk ?_
          (first | refine ret1 (v := .bool _) (.inr rfl) rfl rfl ?_ | refine ret1  (.inr rfl) rfl rfl ?_ | refine ret1 (v := .bool _) (.inl rfl) rfl rfl ?_ | refine ret1  (.inl rfl) rfl rfl ?_)
          exact ⟨rfl, by rw [fit_key hm hb]; simp [h0]⟩
      by_cases h11 : k = 11
      · have hb : true = true ↔ ((120 : UInt8) = 120 ∧ flagOf k = true) := by rw [hfl]; simp [h11]
        by_cases h0 : 0 ≤ v
        · by_cases h2 : v < 2
          · refine walk ?_
            (first | refine ret1 (v := .bool _) (.inr rfl) rfl rfl ?_ | refine ret1  (.inr rfl) rfl rfl ?_ | refine ret1 (v := .bool _) (.inl rfl) rfl rfl ?_ | refine ret1  (.inl rfl) rfl rfl ?_)
            exact ⟨rfl, by rw [fit_key hm hb]; simp [h0, h2]⟩
          · refine walk ?_
            (first | refine ret1 (v := .bool _) (.inr rfl) rfl rfl ?_ | refine ret1  (.inr rfl) rfl rfl ?_ | refine ret1 (v := .bool _) (.inl rfl) rfl rfl ?_ | refine ret1  (.inl rfl) rfl rfl ?_)
            exact ⟨rfl, by rw [fit_key hm hb]; simp [h0, h2]⟩
        · refine walk ?_
          (first | refine ret1 (v := .bool _) (.inr rfl) rfl rfl ?_ | refine ret1  (.inr rfl) rfl rfl ?_ | refine ret1 (v := .bool _) (.inl rfl) rfl rfl ?_ | refine ret1  (.inl rfl) rfl rfl ?_)
          exact ⟨rfl, by rw [fit_key hm hb]; simp [h0]⟩
      by_cases h13 : k = 13
      · have hb : true = true ↔ ((120 : UInt8) = 120 ∧ flagOf k = true) := by rw [hfl]; simp [h13]
        by_cases h0 : 0 ≤ v
        · by_cases h2 : v < 2
          · refine walk ?_
            (first | refine ret1 (v := .bool _) (.inr rfl) rfl rfl ?_ | refine ret1  (.inr rfl) rfl rfl ?_ | refine ret1 (v := .bool _) (.inl rfl) rfl rfl ?_ | refine ret1  (.inl rfl) rfl rfl ?_)
            exact ⟨rfl, by rw [fit_key hm hb]; simp [h0, h2]⟩
          · refine walk ?_
            (first | refine ret1 (v := .bool _) (.inr rfl) rfl rfl ?_ | refine ret1  (.inr rfl) rfl rfl ?_ | refine ret1 (v := .bool _) (.inl rfl) rfl rfl ?_ | refine ret1  (.inl rfl) rfl rfl ?_)
            exact ⟨rfl, by rw [fit_key hm hb]; simp [h0, h2]⟩
        · refine walk ?_
          (first | refine ret1 (v := .bool _) (.inr rfl) rfl rfl ?_ | refine ret1  (.inr rfl) rfl rfl ?_ | refine ret1 (v := .bool _) (.inl rfl) rfl rfl ?_ | refine ret1  (.inl rfl) rfl rfl ?_)
          exact ⟨rfl, by rw [fit_key hm hb]; simp [h0]⟩
      · have hb : false = true ↔ ((120 : UInt8) = 120 ∧ flagOf k = true) := by rw [hfl]; simp [h2, h11, h13]
        by_cases h0 : 0 ≤ v
        · by_cases h2 : v < 2
          · refine walk ?_
            (first | refine ret1 (v := .bool _) (.inr rfl) rfl rfl ?_ | refine ret1  (.inr rfl) rfl rfl ?_ | refine ret1 (v := .bool _) (.inl rfl) rfl rfl ?_ | refine ret1  (.inl rfl) rfl rfl ?_)
            exact ⟨rfl, by rw [fit_key hm hb]; simp [h0, h2]⟩
          · refine walk ?_
            (first | refine ret1 (v := .bool _) (.inr rfl) rfl rfl ?_ | refine ret1  (.inr rfl) rfl rfl ?_ | refine ret1 (v := .bool _) (.inl rfl) rfl rfl ?_ | refine ret1  (.inl rfl) rfl rfl ?_)
            exact ⟨rfl, by rw [fit_key hm hb]; simp [h0, h2]⟩
        · refine walk ?_
          (first | refine ret1 (v := .bool _) (.inr rfl) rfl rfl ?_ | refine ret1  (.inr rfl) rfl rfl ?_ | refine ret1 (v := .bool _) (.inl rfl) rfl rfl ?_ | refine ret1  (.inl rfl) rfl rfl ?_)
          exact ⟨rfl, by rw [fit_key hm hb]; simp [h0]⟩
    · have hx' := u8_ne hx
      simp only [show (120 : UInt8).toNat = 120 from rfl] at hx'
      have hb : false = true ↔ (c = 120 ∧ flagOf k = true) := by simp [hx]
      by_cases h0 : 0 ≤ v
      · by_cases h2 : v < 2
        · refine walk ?_
          (first | refine ret1 (v := .bool _) (.inr rfl) rfl rfl ?_ | refine ret1  (.inr rfl) rfl rfl ?_ | refine ret1 (v := .bool _) (.inl rfl) rfl rfl ?_ | refine ret1  (.inl rfl) rfl rfl ?_)
          exact ⟨rfl, by rw [fit_key hm hb]; simp [h0, h2]⟩
        · refine walk ?_
          (first | refine ret1 (v := .bool _) (.inr rfl) rfl rfl ?_ | refine ret1  (.inr rfl) rfl rfl ?_ | refine ret1 (v := .bool _) (.inl rfl) rfl rfl ?_ | refine ret1  (.inl rfl) rfl rfl ?_)
          exact ⟨rfl, by rw [fit_key hm hb]; simp [h0, h2]⟩
      · refine walk ?_
        (first | refine ret1 (v := .bool _) (.inr rfl) rfl rfl ?_ | refine ret1  (.inr rfl) rfl rfl ?_ | refine ret1 (v := .bool _) (.inl rfl) rfl rfl ?_ | refine ret1  (.inl rfl) rfl rfl ?_)
        exact ⟨rfl, by rw [fit_key hm hb]; simp [h0]⟩
  · rw [decide_eq_false hm]
    unfold FitP
    simp only [if_neg hm]
    refine walk ?_
    by_cases hv : v = -1
    · refine walk ?_
      (first | refine ret1 (v := .bool _) (.inr rfl) rfl rfl ?_ | refine ret1  (.inr rfl) rfl rfl ?_ | refine ret1 (v := .bool _) (.inl rfl) rfl rfl ?_ | refine ret1  (.inl rfl) rfl rfl ?_)
      exact ⟨rfl, by rw [decide_eq_true hv]⟩
    · refine walk ?_
      (first | refine ret1 (v := .bool _) (.inr rfl) rfl rfl ?_ | refine ret1  (.inr rfl) rfl rfl ?_ | refine ret1 (v := .bool _) (.inl rfl) rfl rfl ?_ | refine ret1  (.inl rfl) rfl rfl ?_)
      exact ⟨rfl, by rw [decide_eq_false hv]⟩
theorem rRight : Does Tryz.prog B 15 [noteV n] H fun r H' => H' = H ∧ r = .bool (decide (RightN n)) := by
  refine Does.frame0 ?_
  refine fn_intro 35 Tryz.func15 rfl rfl rfl ?_
  refine walk ?_
  refine s_box (cs := nv n) rfl rfl rfl ?_
  intro b
  refine walk ?_
  refine s_call rfl (rHas) rfl ?_
  rintro _ _ ⟨e_, rfl⟩
  obtain rfl := e_.symm
  refine walk ?_
  by_cases h0 : hasOf n.kind = []
  · rw [h0, decide_eq_false (show ¬ RightN n from fun h => h.1 h0)]
    refine s_nestr rfl rfl (b := false) (by simp) rfl ?_
    refine walk ?_
    (first | (apply retRD1 (G := H) (.inr rfl) rfl; (· first | (refine rv_tmp (v := .bool _) rfl) | exact rv_tmp rfl); (· exact Ent.auto)) | (apply retRD1 (G := H) (.inl rfl) rfl; (· first | (refine rv_tmp (v := .bool _) rfl) | exact rv_tmp rfl); (· exact Ent.auto)))
    exact ⟨Ent.refl _, rfl⟩
  · refine s_nestr (p := ⟨(hasOf n.kind).toArray⟩) (q := ⟨([] : List UInt8).toArray⟩) rfl rfl (b := true) (by simp [str_eq, h0]) rfl ?_
    refine walk ?_
    refine s_call rfl (rfits (c := 103) (.inl rfl)) rfl ?_
    rintro _ _ ⟨e_, rfl⟩
    obtain rfl := e_.symm
    by_cases f1 : FitP n.kind 103 n.g
    · rw [decide_eq_true f1]
      refine walk ?_
      refine s_call rfl (rfits (c := 112) (.inr (.inl rfl))) rfl ?_
      rintro _ _ ⟨e_, rfl⟩
      obtain rfl := e_.symm
      by_cases f2 : FitP n.kind 112 n.p
      · rw [decide_eq_true f2]
        refine walk ?_
        refine s_call rfl (rfits (c := 109) (.inr (.inr (.inl rfl)))) rfl ?_
        rintro _ _ ⟨e_, rfl⟩
        obtain rfl := e_.symm
        by_cases f3 : FitP n.kind 109 n.m
        · rw [decide_eq_true f3]
          refine walk ?_
          refine s_call rfl (rfits (c := 120) (.inr (.inr (.inr rfl)))) rfl ?_
          rintro _ _ ⟨e_, rfl⟩
          obtain rfl := e_.symm
          by_cases f4 : FitP n.kind 120 n.x
          · rw [decide_eq_true f4]
            refine walk ?_
            (first | (apply retRD1 (G := H) (.inr rfl) rfl; (· first | (refine rv_tmp (v := .bool _) rfl) | exact rv_tmp rfl); (· exact Ent.auto)) | (apply retRD1 (G := H) (.inl rfl) rfl; (· first | (refine rv_tmp (v := .bool _) rfl) | exact rv_tmp rfl); (· exact Ent.auto)))
            exact ⟨Ent.refl _, by rw [decide_eq_true (show RightN n from ⟨h0, f1, f2, f3, f4⟩)]⟩
          · rw [decide_eq_false f4]
            refine walk ?_
            (first | (apply retRD1 (G := H) (.inr rfl) rfl; (· first | (refine rv_tmp (v := .bool _) rfl) | exact rv_tmp rfl); (· exact Ent.auto)) | (apply retRD1 (G := H) (.inl rfl) rfl; (· first | (refine rv_tmp (v := .bool _) rfl) | exact rv_tmp rfl); (· exact Ent.auto)))
            exact ⟨Ent.refl _, by rw [decide_eq_false (show ¬ RightN n from fun h => f4 h.2.2.2.2)]⟩
        · rw [decide_eq_false f3]
          refine walk ?_
          (first | (apply retRD1 (G := H) (.inr rfl) rfl; (· first | (refine rv_tmp (v := .bool _) rfl) | exact rv_tmp rfl); (· exact Ent.auto)) | (apply retRD1 (G := H) (.inl rfl) rfl; (· first | (refine rv_tmp (v := .bool _) rfl) | exact rv_tmp rfl); (· exact Ent.auto)))
          exact ⟨Ent.refl _, by rw [decide_eq_false (show ¬ RightN n from fun h => f3 h.2.2.2.1)]⟩
      · rw [decide_eq_false f2]
        refine walk ?_
        (first | (apply retRD1 (G := H) (.inr rfl) rfl; (· first | (refine rv_tmp (v := .bool _) rfl) | exact rv_tmp rfl); (· exact Ent.auto)) | (apply retRD1 (G := H) (.inl rfl) rfl; (· first | (refine rv_tmp (v := .bool _) rfl) | exact rv_tmp rfl); (· exact Ent.auto)))
        exact ⟨Ent.refl _, by rw [decide_eq_false (show ¬ RightN n from fun h => f2 h.2.2.1)]⟩
    · rw [decide_eq_false f1]
      refine walk ?_
      (first | (apply retRD1 (G := H) (.inr rfl) rfl; (· first | (refine rv_tmp (v := .bool _) rfl) | exact rv_tmp rfl); (· exact Ent.auto)) | (apply retRD1 (G := H) (.inl rfl) rfl; (· first | (refine rv_tmp (v := .bool _) rfl) | exact rv_tmp rfl); (· exact Ent.auto)))
      exact ⟨Ent.refl _, by rw [decide_eq_false (show ¬ RightN n from fun h => f1 h.2.1)]⟩
theorem rnumber (hc : isL c) : Does Tryz.prog B 18 [noteV n, .int .u8 (c.toNat : Nat)] H fun r H' => H' = H ∧ r = .int .i64 (getL n c) := by
  refine Does.frame0 ?_
  refine fn_intro 20 Tryz.func18 rfl rfl rfl ?_
  rcases hc with rfl | rfl | rfl | rfl
  · simp only [show (103 : UInt8).toNat = 103 from rfl]
    refine walk ?_
    refine s_box (cs := nv n) rfl rfl rfl ?_
    intro b
    refine walk ?_
    (first | (apply retRD1 (G := H) (.inr rfl) rfl; (· first | (refine rv_tmp (v := .int _ _) rfl) | exact rv_tmp rfl); (· exact Ent.auto)) | (apply retRD1 (G := H) (.inl rfl) rfl; (· first | (refine rv_tmp (v := .int _ _) rfl) | exact rv_tmp rfl); (· exact Ent.auto)))
    exact ⟨Ent.refl _, rfl⟩
  · simp only [show (112 : UInt8).toNat = 112 from rfl]
    refine walk ?_
    refine s_box (cs := nv n) rfl rfl rfl ?_
    intro b
    refine walk ?_
    (first | (apply retRD1 (G := H) (.inr rfl) rfl; (· first | (refine rv_tmp (v := .int _ _) rfl) | exact rv_tmp rfl); (· exact Ent.auto)) | (apply retRD1 (G := H) (.inl rfl) rfl; (· first | (refine rv_tmp (v := .int _ _) rfl) | exact rv_tmp rfl); (· exact Ent.auto)))
    exact ⟨Ent.refl _, rfl⟩
  · simp only [show (109 : UInt8).toNat = 109 from rfl]
    refine walk ?_
    refine s_box (cs := nv n) rfl rfl rfl ?_
    intro b
    refine walk ?_
    (first | (apply retRD1 (G := H) (.inr rfl) rfl; (· first | (refine rv_tmp (v := .int _ _) rfl) | exact rv_tmp rfl); (· exact Ent.auto)) | (apply retRD1 (G := H) (.inl rfl) rfl; (· first | (refine rv_tmp (v := .int _ _) rfl) | exact rv_tmp rfl); (· exact Ent.auto)))
    exact ⟨Ent.refl _, rfl⟩
  · simp only [show (120 : UInt8).toNat = 120 from rfl]
    refine walk ?_
    refine s_box (cs := nv n) rfl rfl rfl ?_
    intro b
    refine walk ?_
    (first | (apply retRD1 (G := H) (.inr rfl) rfl; (· first | (refine rv_tmp (v := .int _ _) rfl) | exact rv_tmp rfl); (· exact Ent.auto)) | (apply retRD1 (G := H) (.inl rfl) rfl; (· first | (refine rv_tmp (v := .int _ _) rfl) | exact rv_tmp rfl); (· exact Ent.auto)))
    exact ⟨Ent.refl _, rfl⟩
theorem rwith (hc : isL c) : Does Tryz.prog B 14 [noteV n, .int .u8 (c.toNat : Nat), .int .i64 v] H fun r H' => H' = H ∧ r = noteV (setL n c v) := by
  refine Does.frame0 ?_
  refine fn_intro 23 Tryz.func14 rfl rfl rfl ?_
  rcases hc with rfl | rfl | rfl | rfl
  · simp only [show (103 : UInt8).toNat = 103 from rfl]
    refine walk ?_
    refine s_box (cs := nv n) rfl rfl rfl ?_
    intro b
    refine s_alloc rfl ?_
    intro b6
    refine walk ?_
    refine s_store (v := .int .i64 v) (cs' := nv (setL n 103 v)) rfl rfl rfl (by simp) rfl ?_
    refine walk ?_
    refine s_storeV (vs := nv (setL n 103 v)) rfl rfl rfl rfl rfl ?_
    refine walk ?_
    (first | (apply retRD1 (G := H) (.inr rfl) rfl; (· first | (refine rv_cell (v := .agg _) rfl (Cell.blk rfl)) | exact rv_cellA rfl Cells.blk0 rfl | (apply rv_cell; (· exact rfl); (· assumption)) | (apply rv_cellA; (· exact rfl); (· assumption); (· exact rfl))); (· exact Ent.auto)) | (apply retRD1 (G := H) (.inl rfl) rfl; (· first | (refine rv_cell (v := .agg _) rfl (Cell.blk rfl)) | exact rv_cellA rfl Cells.blk0 rfl | (apply rv_cell; (· exact rfl); (· assumption)) | (apply rv_cellA; (· exact rfl); (· assumption); (· exact rfl))); (· exact Ent.auto)))
    exact ⟨Ent.refl _, rfl⟩
  · simp only [show (112 : UInt8).toNat = 112 from rfl]
    refine walk ?_
    refine s_box (cs := nv n) rfl rfl rfl ?_
    intro b
    refine s_alloc rfl ?_
    intro b6
    refine walk ?_
    refine s_store (v := .int .i64 v) (cs' := nv (setL n 112 v)) rfl rfl rfl (by simp) rfl ?_
    refine walk ?_
    refine s_storeV (vs := nv (setL n 112 v)) rfl rfl rfl rfl rfl ?_
    refine walk ?_
    (first | (apply retRD1 (G := H) (.inr rfl) rfl; (· first | (refine rv_cell (v := .agg _) rfl (Cell.blk rfl)) | exact rv_cellA rfl Cells.blk0 rfl | (apply rv_cell; (· exact rfl); (· assumption)) | (apply rv_cellA; (· exact rfl); (· assumption); (· exact rfl))); (· exact Ent.auto)) | (apply retRD1 (G := H) (.inl rfl) rfl; (· first | (refine rv_cell (v := .agg _) rfl (Cell.blk rfl)) | exact rv_cellA rfl Cells.blk0 rfl | (apply rv_cell; (· exact rfl); (· assumption)) | (apply rv_cellA; (· exact rfl); (· assumption); (· exact rfl))); (· exact Ent.auto)))
    exact ⟨Ent.refl _, rfl⟩
  · simp only [show (109 : UInt8).toNat = 109 from rfl]
    refine walk ?_
    refine s_box (cs := nv n) rfl rfl rfl ?_
    intro b
    refine s_alloc rfl ?_
    intro b6
    refine walk ?_
    refine s_store (v := .int .i64 v) (cs' := nv (setL n 109 v)) rfl rfl rfl (by simp) rfl ?_
    refine walk ?_
    refine s_storeV (vs := nv (setL n 109 v)) rfl rfl rfl rfl rfl ?_
    refine walk ?_
    (first | (apply retRD1 (G := H) (.inr rfl) rfl; (· first | (refine rv_cell (v := .agg _) rfl (Cell.blk rfl)) | exact rv_cellA rfl Cells.blk0 rfl | (apply rv_cell; (· exact rfl); (· assumption)) | (apply rv_cellA; (· exact rfl); (· assumption); (· exact rfl))); (· exact Ent.auto)) | (apply retRD1 (G := H) (.inl rfl) rfl; (· first | (refine rv_cell (v := .agg _) rfl (Cell.blk rfl)) | exact rv_cellA rfl Cells.blk0 rfl | (apply rv_cell; (· exact rfl); (· assumption)) | (apply rv_cellA; (· exact rfl); (· assumption); (· exact rfl))); (· exact Ent.auto)))
    exact ⟨Ent.refl _, rfl⟩
  · simp only [show (120 : UInt8).toNat = 120 from rfl]
    refine walk ?_
    refine s_box (cs := nv n) rfl rfl rfl ?_
    intro b
    refine s_alloc rfl ?_
    intro b6
    refine walk ?_
    refine s_store (v := .int .i64 v) (cs' := nv (setL n 120 v)) rfl rfl rfl (by simp) rfl ?_
    refine walk ?_
    refine s_storeV (vs := nv (setL n 120 v)) rfl rfl rfl rfl rfl ?_
    refine walk ?_
    (first | (apply retRD1 (G := H) (.inr rfl) rfl; (· first | (refine rv_cell (v := .agg _) rfl (Cell.blk rfl)) | exact rv_cellA rfl Cells.blk0 rfl | (apply rv_cell; (· exact rfl); (· assumption)) | (apply rv_cellA; (· exact rfl); (· assumption); (· exact rfl))); (· exact Ent.auto)) | (apply retRD1 (G := H) (.inl rfl) rfl; (· first | (refine rv_cell (v := .agg _) rfl (Cell.blk rfl)) | exact rv_cellA rfl Cells.blk0 rfl | (apply rv_cell; (· exact rfl); (· assumption)) | (apply rv_cellA; (· exact rfl); (· assumption); (· exact rfl))); (· exact Ent.auto)))
    exact ⟨Ent.refl _, rfl⟩
end
end Go.Proofs.YtofgpppnknpblaaGreatDoor
