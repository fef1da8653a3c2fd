/- Spans' texts, and sums. No condition. -/
import Derived.Test.YtkgddnelghkdnaaDoorSpSpan2
import Derived.Test.YtkgddnelghkdnaaDoorSpDigR
import Derived.Test.YtkgddnelghkdnaaDoorSpShelf
import Derived.Test.YtkgddnelghkdnaaDoorSL4
import Derived.Test.YtkgddnelghkdnaaDoorSL3
import Derived.Lib.ItoaLen
namespace Go.Proofs.YtkgddnelghkdnaaDoor
open Go Go.SL Go.SL.Flo
set_option linter.unusedSimpArgs false
set_option linter.unusedVariables false
set_option maxRecDepth 10000
set_option maxHeartbeats 2000000
abbrev Tab (B : World) : Prop := Lib.TabBelow Tryd.prog B.heap.size B Tryd.powName .u64 Lib.pow10Tab
abbrev dg (n : Nat) : List UInt8 := Lib.decDigits n
/-- A number's digits, six at least. -/
def pad6 (k : Nat) : List UInt8 := List.replicate (6 - (dg k).length) 48 ++ dg k
/-- A span's text. -/
def textS (n : Int) : List UInt8 := if 0 ≤ n ∧ n ≤ 4611686018427387904 then dg (n / 1000000).toNat ++ [46] ++ pad6 (n % 1000000).toNat else []
theorem dg_len {n : Nat} (h : n < 18446744073709551616) : (dg n).length ≤ 20 := by
  show (Lib.decDigits n).length ≤ 20
  rw [Lib.decDigits_length]; exact Lib.nDigits_le20 n (by omega)
theorem digGo_zeros (least : Nat) : ∀ (m : Nat) (s : List UInt8), least - s.length = m → digGo 0 least s = List.replicate m 48 ++ s
  | 0, s, h => by rw [digGo_off (by omega)]; rfl
  | m + 1, s, h => by
    rw [digGo_on (.inr (by omega)), Nat.zero_div, digGo_zeros least m _ (by simp only [List.length_cons]; omega)]
    show List.replicate m 48 ++ ([48] ++ s) = List.replicate (m + 1) 48 ++ s
    rw [← List.append_assoc, List.replicate_succ']
theorem digGo_full (least : Nat) : ∀ (n : Nat) (s : List UInt8), 0 < n → digGo n least s = digGo 0 least (Lib.decDigits n ++ s) := by
  intro n
  induction n using Nat.strongRecOn with
  | _ n ih =>
    intro s h
    rw [digGo_on (.inl h), dec_step]
    by_cases h10 : n < 10
    · rw [if_pos h10, Nat.div_eq_of_lt h10, Nat.mod_eq_of_lt h10]; rfl
    · rw [if_neg h10, ih (n / 10) (by omega) _ (by omega), List.append_assoc]; rfl
theorem digGo_six (k : Nat) : digGo k 6 [] = pad6 k := by
  rcases Nat.eq_zero_or_pos k with rfl | h
  · rw [digGo_zeros 6 6 [] rfl]
    unfold pad6
    simp [Lib.decDigits]
  · rw [digGo_full 6 k [] h, List.append_nil, digGo_zeros 6 _ _ rfl]; rfl
theorem dec_len : ∀ (d k : Nat), 0 < d → k < 10 ^ d → (Lib.decDigits k).length ≤ d
  | 0, k, h, _ => absurd h (by omega)
  | d + 1, k, _, hk => by
    rw [dec_step]
    by_cases h : k < 10
    · rw [if_pos h]; simp
    · rw [if_neg h, List.length_append]
      rw [Nat.pow_succ] at hk
      have h0 : 0 < d := by
        rcases Nat.eq_zero_or_pos d with rfl | h0
        · rw [Nat.pow_zero] at hk; omega
        · exact h0
      have := dec_len d (k / 10) h0 (by omega)
      simp only [List.length_cons, List.length_nil]
      omega
theorem six_len (k : Nat) (h : k < 1000000) : (dg k).length ≤ 6 := dec_len 6 k (by omega) h
theorem rep_zeros : ∀ c, Lib.repeatL [48] c = List.replicate c 48
  | 0 => rfl
  | c + 1 => by
    show [48] ++ Lib.repeatL [48] c = _
    rw [rep_zeros c]; rfl
def sumI (l : List Int) : Int := l.foldl (fun s n => s + min (clampI n) (4611686018427387904 - s)) 0
theorem clampI_range (n : Int) : 0 ≤ clampI n ∧ clampI n ≤ 4611686018427387904 := by unfold clampI; omega
theorem sum_push (l : List Int) (n : Int) : sumI (l ++ [n]) = sumI l + min (clampI n) (4611686018427387904 - sumI l) := by
  unfold sumI
  rw [List.foldl_append]; rfl
theorem sum_range : ∀ (l : List Int), 0 ≤ sumI l ∧ sumI l ≤ 4611686018427387904 := by
  have key : ∀ (l : List Int) (s : Int), 0 ≤ s ∧ s ≤ 4611686018427387904 → 0 ≤ l.foldl (fun s n => s + min (clampI n) (4611686018427387904 - s)) s ∧ l.foldl (fun s n => s + min (clampI n) (4611686018427387904 - s)) s ≤ 4611686018427387904 := by
    intro l
    induction l with
    | nil => exact fun s h => h
    | cons a l ih =>
      intro s h
      refine ih _ ?_
      show 0 ≤ s + min (clampI a) (4611686018427387904 - s) ∧ s + min (clampI a) (4611686018427387904 - s) ≤ 4611686018427387904
      have := clampI_range a
      omega
  exact fun l => key l 0 (by omega)
/-- All that is added, up to the greatest span. -/
theorem sum_all : ∀ (l : List Int), sumI l = min ((l.map clampI).foldl (· + ·) 0) 4611686018427387904 := by
  have key : ∀ (l : List Int) (s t : Int), 0 ≤ t → s = min t 4611686018427387904 → l.foldl (fun s n => s + min (clampI n) (4611686018427387904 - s)) s = min ((l.map clampI).foldl (· + ·) t) 4611686018427387904 := by
    intro l
    induction l with
    | nil => exact fun s t _ h => h
    | cons a l ih =>
      intro s t ht h
      have := clampI_range a
      refine ih _ _ ?_ ?_
      · show 0 ≤ t + clampI a
        omega
      · show s + min (clampI a) (4611686018427387904 - s) = min (t + clampI a) 4611686018427387904
        omega
  exact fun l => key l 0 0 (by omega) (by omega)
theorem take_push {α : Type} {L : List α} {j : Nat} (h : j < L.length) : L.take (j + 1) = L.take j ++ [L[j]] := List.take_succ_eq_append_getElem h
attribute [local irreducible] WP WPL QSeq QBlk QRet Does Cell Cells Rd Mine Ent Aside RV e0
section
variable {B : World} {F H : HProp} {b p : Nat} {n : Int}
theorem formatT (T : Tab B) {n : Nat} (h : n < 9223372036854775808) : Does Tryd.prog B 30 [.int .i64 n, .int .i64 10] H fun r H' => H' = H ∧ r = str (dg n) :=
  Does.ofGrown fun w hw => by
    have := Tryd.strconv_FormatInt_10 (n : Int) (by omega) (by omega) w (T w hw.below)
    rw [Lib.itoa_nonneg] at this
    exact this
theorem repeatZ {c : Nat} (h : c ≤ 1000) : Does Tryd.prog B 31 [str [48], .int .i64 c] H fun r H' => H' = H ∧ r = str (List.replicate c 48) :=
  Does.ofBelow fun w hw => by
    have := Tryd.strings_Repeat ⟨#[48]⟩ c w (by omega) (by show 1 * c ≤ _; omega)
    have e : Lib.repeatL (⟨#[48]⟩ : ByteArray).data.toList c = List.replicate c 48 := rep_zeros c
    rw [e] at this
    exact this
theorem textP (T : Tab B) : Does Tryd.prog B 13 [.int .i64 n] H fun r H' => H' = H ∧ r = str (textS n) := by
  by_cases hn : 0 ≤ n ∧ n ≤ 4611686018427387904
  · obtain ⟨m, rfl⟩ := Int.eq_ofNat_of_zero_le hn.1
    have hc : clampI (m : Int) = m := by unfold clampI; omega
    have hl := six_len (m % 1000000) (by omega)
    have hq : m / 1000000 < 9223372036854775808 := by omega
    have hql := dg_len (show m / 1000000 < 18446744073709551616 by omega)
    have e : textS (m : Int) = dg (m / 1000000) ++ [46] ++ List.replicate (6 - (dg (m % 1000000)).length) 48 ++ dg (m % 1000000) := by
      unfold textS pad6
      rw [if_pos hn]
      have e1 : ((m : Int) / 1000000).toNat = m / 1000000 := by omega
      have e2 : ((m : Int) % 1000000).toNat = m % 1000000 := by omega
      rw [e1, e2]
      simp only [List.append_assoc]
    have hsub : (6 : Int) - ((dg (m % 1000000)).length : Int) = ((6 - (dg (m % 1000000)).length : Nat) : Int) := by omega
    rw [e]
    refine fn_intro 22 Tryd.func13 rfl rfl rfl ?_
    refine walk ?_
    refine s_call rfl (clamp_spec (n := (m : Int))) rfl ?_
    rintro _ _ ⟨e_, rfl⟩
    obtain rfl := e_.symm
    refine walk ?_
    rw [hc]
    refine walk ?_
    refine s_call rfl (formatT T (n := m % 1000000) (by omega)) rfl ?_
    rintro _ _ ⟨e_, rfl⟩
    obtain rfl := e_.symm
    refine walk ?_
    refine s_call rfl (formatT T (n := m / 1000000) hq) rfl ?_
    rintro _ _ ⟨e_, rfl⟩
    obtain rfl := e_.symm
    refine s_concat (m := [46]) rfl rfl (by simp only [List.length_cons, List.length_nil]; omega) rfl rfl ?_
    refine walk ?_
    refine s_slen rfl rfl ?_
    refine s_sub rfl rfl hsub (by omega) rfl ?_
    refine s_call rfl (repeatZ (c := 6 - (dg (m % 1000000)).length) (by omega)) rfl ?_
    rintro _ _ ⟨e_, rfl⟩
    obtain rfl := e_.symm
    refine s_concat rfl rfl (by simp only [List.length_append, List.length_cons, List.length_nil, List.length_replicate]; omega) rfl rfl ?_
    refine walk ?_
    refine s_concat rfl rfl (by simp only [List.length_append, List.length_cons, List.length_nil, List.length_replicate]; omega) rfl rfl ?_
    refine walk ?_
    (first | refine ret1 (v := .string _) (.inr rfl) rfl rfl ?_ | refine ret1  (.inr rfl) rfl rfl ?_ | refine ret1 (v := .string _) (.inl rfl) rfl rfl ?_ | refine ret1  (.inl rfl) rfl rfl ?_)
    exact ⟨rfl, rfl⟩
  · have hc : clampI n ≠ n := by unfold clampI; omega
    have e : textS n = [] := by unfold textS; rw [if_neg hn]
    rw [e]
    refine fn_intro 22 Tryd.func13 rfl rfl rfl ?_
    refine walk ?_
    refine s_call rfl (clamp_spec (n := n)) rfl ?_
    rintro _ _ ⟨e_, rfl⟩
    obtain rfl := e_.symm
    refine walk ?_
    generalize clampI n = c at *
    refine walk ?_
    (first | refine ret1 (v := .string _) (.inr rfl) rfl rfl ?_ | refine ret1  (.inr rfl) rfl rfl ?_ | refine ret1 (v := .string _) (.inl rfl) rfl rfl ?_ | refine ret1  (.inl rfl) rfl rfl ?_)
    exact ⟨rfl, rfl⟩
theorem rTextP : Does Tryd.prog B 16 [.int .i64 n] H fun r H' => H' = H ∧ r = str (textS n) := by
  by_cases h0 : 0 ≤ n
  · by_cases h1 : n ≤ 4611686018427387904
    · obtain ⟨m, rfl⟩ := Int.eq_ofNat_of_zero_le h0
      have hq : m / 1000000 < 9223372036854775808 := by omega
      have hql := dg_len (show m / 1000000 < 18446744073709551616 by omega)
      have hl := six_len (m % 1000000) (by omega)
      have e : textS (m : Int) = dg (m / 1000000) ++ [46] ++ pad6 (m % 1000000) := by
        unfold textS
        rw [if_pos ⟨h0, h1⟩]
        have e1 : ((m : Int) / 1000000).toNat = m / 1000000 := by omega
        have e2 : ((m : Int) % 1000000).toNat = m % 1000000 := by omega
        rw [e1, e2]
      have hpl : (pad6 (m % 1000000)).length ≤ 12 := by unfold pad6; rw [List.length_append, List.length_replicate]; omega
      have d1 := digits_spec (B := B) (H := H) (u := m / 1000000) (least := 1) (by omega) (by omega)
      rw [digGo_one, show Lib.decDigits (m / 1000000) = dg (m / 1000000) from rfl] at d1
      have d2 := digits_spec (B := B) (H := H) (u := m % 1000000) (least := 6) (by omega) (by omega)
      rw [digGo_six] at d2
      rw [e]
      refine fn_intro 19 Tryd.func16 rfl rfl rfl ?_
      refine walkG ?_
      refine s_call rfl d1 rfl ?_
      rintro _ _ ⟨e_, rfl⟩
      obtain rfl := e_.symm
      refine s_concat (m := [46]) rfl rfl (by simp only [List.length_cons, List.length_nil]; omega) rfl rfl ?_
      refine walkG ?_
      refine s_call rfl d2 rfl ?_
      rintro _ _ ⟨e_, rfl⟩
      obtain rfl := e_.symm
      refine s_concat rfl rfl (by simp only [List.length_append, List.length_cons, List.length_nil]; omega) rfl rfl ?_
      refine walk ?_
      (first | refine ret1 (v := .string _) (.inr rfl) rfl rfl ?_ | refine ret1  (.inr rfl) rfl rfl ?_ | refine ret1 (v := .string _) (.inl rfl) rfl rfl ?_ | refine ret1  (.inl rfl) rfl rfl ?_)
      exact ⟨rfl, rfl⟩
    · have e : textS n = [] := by unfold textS; rw [if_neg fun h => h1 h.2]
      rw [e]
      refine fn_intro 19 Tryd.func16 rfl rfl rfl ?_
      refine walk ?_
      (first | refine ret1 (v := .string _) (.inr rfl) rfl rfl ?_ | refine ret1  (.inr rfl) rfl rfl ?_ | refine ret1 (v := .string _) (.inl rfl) rfl rfl ?_ | refine ret1  (.inl rfl) rfl rfl ?_)
      exact ⟨rfl, rfl⟩
  · have e : textS n = [] := by unfold textS; rw [if_neg fun h => h0 h.1]
    rw [e]
    refine fn_intro 19 Tryd.func16 rfl rfl rfl ?_
    refine walk ?_
    (first | refine ret1 (v := .string _) (.inr rfl) rfl rfl ?_ | refine ret1  (.inr rfl) rfl rfl ?_ | refine ret1 (v := .string _) (.inl rfl) rfl rfl ?_ | refine ret1  (.inl rfl) rfl rfl ?_)
    exact ⟨rfl, rfl⟩
theorem sumP {s : Value} {l : List Int} (hs : Rd B H 1 s l.length (zs l)) : Does Tryd.prog B 18 [s] H fun r H' => H' = H ∧ r = .int .i64 (sumI l) := by
  unfold Rd at hs
  obtain ⟨ao, cap, rfl, hl, hm, hc⟩ := hs
  unfold maxLen at hm
  refine fn_intro 20 Tryd.func18 rfl rfl rfl ?_
  refine walk ?_
  refine wp_loopR (α := Nat) [2, 4, 7, 8, 9, 10, 11, 12, 13, 14, 15, 16, 17, 18] (fun k => [(7, .int .i64 k), (2, .int .i64 (sumI (l.take k)))]) (fun k => k ≤ l.length) (fun k => l.length - k) 0 agreed (Nat.zero_le _) ?_
  rintro k g hk
  simp only [putAll]
  have hr := sum_range (l.take k)
  by_cases hlt : k < l.length
  · obtain ⟨bl, o, rfl, hcs⟩ := Rd.addr hl hc hlt
    have hcell := hcs.cell (zs_get l k hlt)
    have hcr := clampI_range l[k]
    have hp : sumI (l.take (k + 1)) = sumI (l.take k) + min (clampI l[k]) (4611686018427387904 - sumI (l.take k)) := by rw [take_push hlt, sum_push]
    generalize sumI (l.take k) = S at *
    refine walk ?_
    refine s_call rfl (clamp_spec (n := l[k])) rfl ?_
    rintro _ _ ⟨e_, rfl⟩
    obtain rfl := e_.symm
    refine walk ?_
    generalize clampI l[k] = c at *
    refine walk ?_
    refine s_min2 rfl rfl rfl rfl ?_
    refine walk ?_
    refine ⟨k + 1, asided, ?_, Ent.refl _, hlt, by omega⟩
    rw [hp]
    exact agreed
  · obtain rfl : k = l.length := by omega
    rw [List.take_length] at *
    refine walk ?_
    (first | refine ret1 (v := .int _ _) (.inr rfl) rfl rfl ?_ | refine ret1  (.inr rfl) rfl rfl ?_ | refine ret1 (v := .int _ _) (.inl rfl) rfl rfl ?_ | refine ret1  (.inl rfl) rfl rfl ?_)
    exact ⟨rfl, rfl⟩
theorem rSumP {s : Value} {l : List Int} (hs : Rd B H 1 s l.length (zs l)) : Does Tryd.prog B 17 [s] H fun r H' => H' = H ∧ r = .int .i64 (sumI l) := by
  unfold Rd at hs
  obtain ⟨ao, cap, rfl, hl, hm, hc⟩ := hs
  unfold maxLen at hm
  refine fn_intro 23 Tryd.func17 rfl rfl rfl ?_
  refine walk ?_
  refine wp_loopR (α := Nat) [3, 4, 5, 6, 7, 8, 9, 10, 11, 12, 13, 14, 15, 16, 17, 18, 19, 20] (fun k => [(4, .int .i64 k), (3, .int .u64 (sumI (l.take k)))]) (fun k => k ≤ l.length) (fun k => l.length - k) 0 agreed (Nat.zero_le _) ?_
  rintro k g hk
  simp only [putAll]
  have hr := sum_range (l.take k)
  by_cases hlt : k < l.length
  · obtain ⟨bl, o, rfl, hcs⟩ := Rd.addr hl hc hlt
    have hcell := hcs.cell (zs_get l k hlt)
    have hcr := clampI_range l[k]
    have hp : sumI (l.take (k + 1)) = sumI (l.take k) + min (clampI l[k]) (4611686018427387904 - sumI (l.take k)) := by rw [take_push hlt, sum_push]
    generalize sumI (l.take k) = S at *
    refine walk ?_
    refine s_call rfl (rclamp_spec (n := l[k])) rfl ?_
    rintro _ _ ⟨e_, rfl⟩
    obtain rfl := e_.symm
    refine walk ?_
    generalize clampI l[k] = c at *
    by_cases ht : S + c > 4611686018427387904
    · have hp2 : sumI (l.take (k + 1)) = 4611686018427387904 := by omega
      refine walk ?_
      refine ⟨k + 1, asided, ?_, Ent.refl _, hlt, by omega⟩
      rw [hp2]
      exact agreed
    · have hp2 : sumI (l.take (k + 1)) = S + c := by omega
      refine walk ?_
      refine ⟨k + 1, asided, ?_, Ent.refl _, hlt, by omega⟩
      rw [hp2]
      exact agreed
  · obtain rfl : k = l.length := by omega
    rw [List.take_length] at *
    refine walk ?_
    (first | refine ret1 (v := .int _ _) (.inr rfl) rfl rfl ?_ | refine ret1  (.inr rfl) rfl rfl ?_ | refine ret1 (v := .int _ _) (.inl rfl) rfl rfl ?_ | refine ret1  (.inl rfl) rfl rfl ?_)
    exact ⟨rfl, rfl⟩
end
end Go.Proofs.YtkgddnelghkdnaaDoor
