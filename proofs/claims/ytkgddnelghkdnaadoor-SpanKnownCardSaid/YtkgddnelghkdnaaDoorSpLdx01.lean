/- Functions on doubles of the standard library: what comes back is a double. No condition. -/
import Derived.Test.YtkgddnelghkdnaaDoorSpLaw01d
import Derived.Test.YtkgddnelghkdnaaDoorSL4
namespace Go.Proofs.YtkgddnelghkdnaaDoor
open Go Go.SL Go.SL.Flo
set_option linter.unusedSimpArgs false
set_option linter.unusedVariables false
set_option maxRecDepth 10000
set_option maxHeartbeats 4000000
abbrev one64 : Nat := 4607182418800017408
attribute [local irreducible] WP WPL QSeq QBlk QRet Does Cell Cells Rd Mine Ent Aside RV e0 QScp valU textS sumI clsV milQ fl
section
variable {B : World} {F H : HProp} {x y : Nat} {i : Int}
theorem infN_spec : Does Tryd.prog B 25 [.int .i64 (-1)] H fun r H' => H' = H ∧ r = flt 18442240474082181120 := by
  refine fn_intro 8 Tryd.func25 rfl rfl rfl ?_
  refine walk ?_
  refine s_ext (v := flt 18442240474082181120) rfl rfl rfl ?_
  refine walk ?_
  (first | refine ret1 (v := .float _ _) (.inr rfl) rfl rfl ?_ | refine ret1  (.inr rfl) rfl rfl ?_ | refine ret1 (v := .float _ _) (.inl rfl) rfl rfl ?_ | refine ret1  (.inl rfl) rfl rfl ?_)
  exact ⟨rfl, rfl⟩
theorem copyW (hx : x < 2 ^ 64) (hy : y < 2 ^ 64) : Does Tryd.prog B 26 [flt x, flt y] H fun r H' => H' = H ∧ ∃ w, w < 2 ^ 64 ∧ r = flt w := by
  refine fn_intro 13 Tryd.func26 rfl rfl rfl ?_
  refine walk ?_
  refine s_ext (v := .int .u64 (x : Int)) rfl rfl rfl ?_
  refine walk ?_
  refine s_andNotW rfl rfl rfl ?_
  intro a ha
  refine walk ?_
  refine s_ext (v := .int .u64 (y : Int)) rfl rfl rfl ?_
  refine walk ?_
  refine s_andW (q := 9223372036854775808) rfl rfl hy (by decide) rfl ?_
  intro b hb
  refine walk ?_
  refine s_orW rfl rfl ha hb rfl ?_
  intro c hc
  refine walk ?_
  refine s_ext (v := flt c) rfl rfl rfl ?_
  refine walk ?_
  (first | refine ret1 (v := .float _ _) (.inr rfl) rfl rfl ?_ | refine ret1  (.inr rfl) rfl rfl ?_ | refine ret1 (v := .float _ _) (.inl rfl) rfl rfl ?_ | refine ret1  (.inl rfl) rfl rfl ?_)
  exact ⟨rfl, c, hc, rfl⟩
theorem absOne : Does Tryd.prog B 67 [flt one64] H fun r H' => H' = H ∧ r = flt one64 := by
  refine fn_intro 7 Tryd.func67 rfl rfl rfl ?_
  refine walk ?_
  refine s_ext (v := .int .u64 one64) rfl rfl rfl ?_
  refine walk ?_
  refine s_andNot (r := one64) rfl rfl (by decide) (by decide) rfl ?_
  refine walk ?_
  refine s_ext (v := flt one64) rfl rfl rfl ?_
  refine walk ?_
  (first | refine ret1 (v := .float _ _) (.inr rfl) rfl rfl ?_ | refine ret1  (.inr rfl) rfl rfl ?_ | refine ret1 (v := .float _ _) (.inl rfl) rfl rfl ?_ | refine ret1  (.inl rfl) rfl rfl ?_)
  exact ⟨rfl, rfl⟩
theorem infOne : Does Tryd.prog B 50 [flt one64, .int .i64 0] H fun r H' => H' = H ∧ r = .bool false := by
  refine fn_intro 15 Tryd.func50 rfl rfl rfl ?_
  refine walk ?_
  refine s_call rfl (absOne) rfl ?_
  rintro _ _ ⟨e_, rfl⟩
  obtain rfl := e_.symm
  refine walk ?_
  refine s_fcmp (op := .gtr) (b := false) rfl rfl rfl (by kernel_rfl) rfl ?_
  refine walk ?_
  (first | refine ret1 (v := .bool _) (.inr rfl) rfl rfl ?_ | refine ret1  (.inr rfl) rfl rfl ?_ | refine ret1 (v := .bool _) (.inl rfl) rfl rfl ?_ | refine ret1  (.inl rfl) rfl rfl ?_)
  exact ⟨rfl, rfl⟩
theorem normOne : Does Tryd.prog B 51 [flt one64] H fun r H' => H' = H ∧ r = .tuple #[flt one64, .int .i64 0] := by
  refine fn_intro 10 Tryd.func51 rfl rfl rfl ?_
  refine walk ?_
  refine s_call rfl (absOne) rfl ?_
  rintro _ _ ⟨e_, rfl⟩
  obtain rfl := e_.symm
  refine walk ?_
  refine s_fcmp (op := .lss) (b := false) rfl rfl rfl (by kernel_rfl) rfl ?_
  refine walk ?_
  (first | refine ret2 (v := .float _ _) (x := .int _ _) (.inr rfl) rfl rfl rfl ?_ | refine ret2  (.inr rfl) rfl rfl rfl ?_ | refine ret2 (v := .float _ _) (x := .int _ _) (.inl rfl) rfl rfl rfl ?_ | refine ret2  (.inl rfl) rfl rfl rfl ?_)
  exact ⟨rfl, rfl⟩
theorem ldexpW (h : -1074 ≤ i ∧ i < 1024) : Does Tryd.prog B 37 [flt one64, .int .i64 i] H fun r H' => H' = H ∧ ∃ w, w < 2 ^ 64 ∧ r = flt w := by
  have hn : cmpOf .neq (D.order one64 one64) = false := by kernel_rfl
  refine fn_intro 63 Tryd.func37 rfl rfl rfl ?_
  refine walk ?_
  refine s_fcmp (op := .eql) (b := false) rfl rfl rfl (by kernel_rfl) rfl ?_
  refine walk ?_
  refine s_call rfl (infOne) rfl ?_
  rintro _ _ ⟨e_, rfl⟩
  obtain rfl := e_.symm
  refine walk ?_
  refine s_call rfl (isNaN_spec hn) rfl ?_
  rintro _ _ ⟨e_, rfl⟩
  obtain rfl := e_.symm
  refine walk ?_
  refine s_call rfl (normOne) rfl ?_
  rintro _ _ ⟨e_, rfl⟩
  obtain rfl := e_.symm
  refine walk ?_
  refine s_ext (v := .int .u64 one64) rfl rfl rfl ?_
  refine walk ?_
  refine s_shr (kd := .u64) (p := 4607182418800017408) (q := 52) (r := 1023) rfl rfl (by decide) (by decide) rfl ?_
  refine walk ?_
  refine s_and (kd := .i64) (p := 1023) (q := 2047) (r := 1023) rfl rfl (by decide) (by decide) (by decide) (by decide) rfl ?_
  refine walk ?_
  by_cases hs : i < -1022
  · refine walk ?_
    refine s_andNotW rfl rfl rfl ?_
    intro a ha
    refine walk ?_
    refine s_shlW rfl rfl (by decide) rfl ?_
    intro b hb
    refine walk ?_
    refine s_orW rfl rfl ha hb rfl ?_
    intro c hc
    refine walk ?_
    refine s_ext (v := flt c) rfl rfl rfl ?_
    refine walk ?_
    refine s_fmulW rfl rfl rfl ?_
    intro w hw
    refine walk ?_
    (first | refine ret1 (v := .float _ _) (.inr rfl) rfl rfl ?_ | refine ret1  (.inr rfl) rfl rfl ?_ | refine ret1 (v := .float _ _) (.inl rfl) rfl rfl ?_ | refine ret1  (.inl rfl) rfl rfl ?_)
    exact ⟨rfl, w, hw, rfl⟩
  · refine walk ?_
    refine s_andNotW rfl rfl rfl ?_
    intro a ha
    refine walk ?_
    refine s_shlW rfl rfl (by decide) rfl ?_
    intro b hb
    refine walk ?_
    refine s_orW rfl rfl ha hb rfl ?_
    intro c hc
    refine walk ?_
    refine s_ext (v := flt c) rfl rfl rfl ?_
    refine walk ?_
    refine s_fmulW rfl rfl rfl ?_
    intro w hw
    refine walk ?_
    (first | refine ret1 (v := .float _ _) (.inr rfl) rfl rfl ?_ | refine ret1  (.inr rfl) rfl rfl ?_ | refine ret1 (v := .float _ _) (.inl rfl) rfl rfl ?_ | refine ret1  (.inl rfl) rfl rfl ?_)
    exact ⟨rfl, w, hw, rfl⟩
theorem LdexpW (h : -1074 ≤ i ∧ i < 1024) : Does Tryd.prog B 22 [flt one64, .int .i64 i] H fun r H' => H' = H ∧ ∃ w, w < 2 ^ 64 ∧ r = flt w := by
  refine fn_intro 11 Tryd.func22 rfl rfl rfl ?_
  refine walk ?_
  refine s_call rfl (ldexpW h) rfl ?_
  rintro _ _ ⟨e_, w, hw, rfl⟩
  obtain rfl := e_.symm
  refine walk ?_
  (first | refine ret1 (v := .float _ _) (.inr rfl) rfl rfl ?_ | refine ret1  (.inr rfl) rfl rfl ?_ | refine ret1 (v := .float _ _) (.inl rfl) rfl rfl ?_ | refine ret1  (.inl rfl) rfl rfl ?_)
  exact ⟨rfl, w, hw, rfl⟩
theorem nextW (hx : x < 2 ^ 64) (hy : y < 2 ^ 64) : Does Tryd.prog B 23 [flt x, flt y] H fun r H' => H' = H ∧ ∃ w, w < 2 ^ 64 ∧ r = flt w := by
  obtain ⟨b1, h1⟩ : ∃ b, cmpOf .neq (D.order x x) = b := ⟨_, rfl⟩
  obtain ⟨b2, h2⟩ : ∃ b, cmpOf .neq (D.order y y) = b := ⟨_, rfl⟩
  obtain ⟨b3, h3⟩ : ∃ b, cmpOf .eql (D.order x y) = b := ⟨_, rfl⟩
  obtain ⟨b4, h4⟩ : ∃ b, cmpOf .eql (D.order x 0) = b := ⟨_, rfl⟩
  obtain ⟨b5, h5⟩ : ∃ b, cmpOf .gtr (D.order y x) = b := ⟨_, rfl⟩
  obtain ⟨b6, h6⟩ : ∃ b, cmpOf .gtr (D.order x 0) = b := ⟨_, rfl⟩
  cases b1 with
  | true =>
    refine fn_intro 39 Tryd.func23 rfl rfl rfl ?_
    refine walk ?_
    refine s_call rfl (isNaN_spec h1) rfl ?_
    rintro _ _ ⟨e_, rfl⟩
    obtain rfl := e_.symm
    refine walk ?_
    refine s_call rfl (nan_spec) rfl ?_
    rintro _ _ ⟨e_, rfl⟩
    obtain rfl := e_.symm
    refine walk ?_
    (first | refine ret1 (v := .float _ _) (.inr rfl) rfl rfl ?_ | refine ret1  (.inr rfl) rfl rfl ?_ | refine ret1 (v := .float _ _) (.inl rfl) rfl rfl ?_ | refine ret1  (.inl rfl) rfl rfl ?_)
    exact ⟨rfl, _, by decide, rfl⟩
  | false =>
    cases b2 with
    | true =>
      refine fn_intro 39 Tryd.func23 rfl rfl rfl ?_
      refine walk ?_
      refine s_call rfl (isNaN_spec h1) rfl ?_
      rintro _ _ ⟨e_, rfl⟩
      obtain rfl := e_.symm
      refine walk ?_
      refine s_call rfl (isNaN_spec h2) rfl ?_
      rintro _ _ ⟨e_, rfl⟩
      obtain rfl := e_.symm
      refine walk ?_
      refine s_call rfl (nan_spec) rfl ?_
      rintro _ _ ⟨e_, rfl⟩
      obtain rfl := e_.symm
      refine walk ?_
      (first | refine ret1 (v := .float _ _) (.inr rfl) rfl rfl ?_ | refine ret1  (.inr rfl) rfl rfl ?_ | refine ret1 (v := .float _ _) (.inl rfl) rfl rfl ?_ | refine ret1  (.inl rfl) rfl rfl ?_)
      exact ⟨rfl, _, by decide, rfl⟩
    | false =>
      cases b3 with
      | true =>
        refine fn_intro 39 Tryd.func23 rfl rfl rfl ?_
        refine walk ?_
        refine s_call rfl (isNaN_spec h1) rfl ?_
        rintro _ _ ⟨e_, rfl⟩
        obtain rfl := e_.symm
        refine walk ?_
        refine s_call rfl (isNaN_spec h2) rfl ?_
        rintro _ _ ⟨e_, rfl⟩
        obtain rfl := e_.symm
        refine walk ?_
        refine s_fcmp (op := .eql) rfl rfl rfl h3 rfl ?_
        refine walk ?_
        (first | refine ret1 (v := .float _ _) (.inr rfl) rfl rfl ?_ | refine ret1  (.inr rfl) rfl rfl ?_ | refine ret1 (v := .float _ _) (.inl rfl) rfl rfl ?_ | refine ret1  (.inl rfl) rfl rfl ?_)
        exact ⟨rfl, _, hx, rfl⟩
      | false =>
        cases b4 with
        | true =>
          refine fn_intro 39 Tryd.func23 rfl rfl rfl ?_
          refine walk ?_
          refine s_call rfl (isNaN_spec h1) rfl ?_
          rintro _ _ ⟨e_, rfl⟩
          obtain rfl := e_.symm
          refine walk ?_
          refine s_call rfl (isNaN_spec h2) rfl ?_
          rintro _ _ ⟨e_, rfl⟩
          obtain rfl := e_.symm
          refine walk ?_
          refine s_fcmp (op := .eql) rfl rfl rfl h3 rfl ?_
          refine walk ?_
          refine s_fcmp (op := .eql) rfl rfl rfl h4 rfl ?_
          refine walk ?_
          refine s_ext (v := flt 1) rfl rfl rfl ?_
          refine walk ?_
          refine s_call rfl (copyW (x := 1) (by decide) hy) rfl ?_
          rintro _ _ ⟨e_, w, hw, rfl⟩
          obtain rfl := e_.symm
          refine walk ?_
          (first | refine ret1 (v := .float _ _) (.inr rfl) rfl rfl ?_ | refine ret1  (.inr rfl) rfl rfl ?_ | refine ret1 (v := .float _ _) (.inl rfl) rfl rfl ?_ | refine ret1  (.inl rfl) rfl rfl ?_)
          exact ⟨rfl, w, hw, rfl⟩
        | false =>
          have hu : (((x : Int) + 1) % 18446744073709551616).toNat < 2 ^ 64 := by omega
          have hd : (((x : Int) - 1) % 18446744073709551616).toNat < 2 ^ 64 := by omega
          cases b5 <;> cases b6
          · skip
            refine fn_intro 39 Tryd.func23 rfl rfl rfl ?_
            refine walk ?_
            refine s_call rfl (isNaN_spec h1) rfl ?_
            rintro _ _ ⟨e_, rfl⟩
            obtain rfl := e_.symm
            refine walk ?_
            refine s_call rfl (isNaN_spec h2) rfl ?_
            rintro _ _ ⟨e_, rfl⟩
            obtain rfl := e_.symm
            refine walk ?_
            refine s_fcmp (op := .eql) rfl rfl rfl h3 rfl ?_
            refine walk ?_
            refine s_fcmp (op := .eql) rfl rfl rfl h4 rfl ?_
            refine walk ?_
            refine s_fcmp (op := .gtr) rfl rfl rfl h5 rfl ?_
            refine walk ?_
            refine s_fcmp (op := .gtr) rfl rfl rfl h6 rfl ?_
            refine walk ?_
            refine s_ext (v := .int .u64 (x : Int)) rfl rfl rfl ?_
            refine walk ?_
            refine s_ext (v := flt (((x : Int) + 1) % 18446744073709551616).toNat) rfl rfl rfl ?_
            refine walk ?_
            (first | refine ret1 (v := .float _ _) (.inr rfl) rfl rfl ?_ | refine ret1  (.inr rfl) rfl rfl ?_ | refine ret1 (v := .float _ _) (.inl rfl) rfl rfl ?_ | refine ret1  (.inl rfl) rfl rfl ?_)
            exact ⟨rfl, _, hu, rfl⟩
          · skip
            refine fn_intro 39 Tryd.func23 rfl rfl rfl ?_
            refine walk ?_
            refine s_call rfl (isNaN_spec h1) rfl ?_
            rintro _ _ ⟨e_, rfl⟩
            obtain rfl := e_.symm
            refine walk ?_
            refine s_call rfl (isNaN_spec h2) rfl ?_
            rintro _ _ ⟨e_, rfl⟩
            obtain rfl := e_.symm
            refine walk ?_
            refine s_fcmp (op := .eql) rfl rfl rfl h3 rfl ?_
            refine walk ?_
            refine s_fcmp (op := .eql) rfl rfl rfl h4 rfl ?_
            refine walk ?_
            refine s_fcmp (op := .gtr) rfl rfl rfl h5 rfl ?_
            refine walk ?_
            refine s_fcmp (op := .gtr) rfl rfl rfl h6 rfl ?_
            refine walk ?_
            refine s_ext (v := .int .u64 (x : Int)) rfl rfl rfl ?_
            refine walk ?_
            refine s_ext (v := flt (((x : Int) - 1) % 18446744073709551616).toNat) rfl rfl rfl ?_
            refine walk ?_
            (first | refine ret1 (v := .float _ _) (.inr rfl) rfl rfl ?_ | refine ret1  (.inr rfl) rfl rfl ?_ | refine ret1 (v := .float _ _) (.inl rfl) rfl rfl ?_ | refine ret1  (.inl rfl) rfl rfl ?_)
            exact ⟨rfl, _, hd, rfl⟩
          · skip
            refine fn_intro 39 Tryd.func23 rfl rfl rfl ?_
            refine walk ?_
            refine s_call rfl (isNaN_spec h1) rfl ?_
            rintro _ _ ⟨e_, rfl⟩
            obtain rfl := e_.symm
            refine walk ?_
            refine s_call rfl (isNaN_spec h2) rfl ?_
            rintro _ _ ⟨e_, rfl⟩
            obtain rfl := e_.symm
            refine walk ?_
            refine s_fcmp (op := .eql) rfl rfl rfl h3 rfl ?_
            refine walk ?_
            refine s_fcmp (op := .eql) rfl rfl rfl h4 rfl ?_
            refine walk ?_
            refine s_fcmp (op := .gtr) rfl rfl rfl h5 rfl ?_
            refine walk ?_
            refine s_fcmp (op := .gtr) rfl rfl rfl h6 rfl ?_
            refine walk ?_
            refine s_ext (v := .int .u64 (x : Int)) rfl rfl rfl ?_
            refine walk ?_
            refine s_ext (v := flt (((x : Int) - 1) % 18446744073709551616).toNat) rfl rfl rfl ?_
            refine walk ?_
            (first | refine ret1 (v := .float _ _) (.inr rfl) rfl rfl ?_ | refine ret1  (.inr rfl) rfl rfl ?_ | refine ret1 (v := .float _ _) (.inl rfl) rfl rfl ?_ | refine ret1  (.inl rfl) rfl rfl ?_)
            exact ⟨rfl, _, hd, rfl⟩
          · skip
            refine fn_intro 39 Tryd.func23 rfl rfl rfl ?_
            refine walk ?_
            refine s_call rfl (isNaN_spec h1) rfl ?_
            rintro _ _ ⟨e_, rfl⟩
            obtain rfl := e_.symm
            refine walk ?_
            refine s_call rfl (isNaN_spec h2) rfl ?_
            rintro _ _ ⟨e_, rfl⟩
            obtain rfl := e_.symm
            refine walk ?_
            refine s_fcmp (op := .eql) rfl rfl rfl h3 rfl ?_
            refine walk ?_
            refine s_fcmp (op := .eql) rfl rfl rfl h4 rfl ?_
            refine walk ?_
            refine s_fcmp (op := .gtr) rfl rfl rfl h5 rfl ?_
            refine walk ?_
            refine s_fcmp (op := .gtr) rfl rfl rfl h6 rfl ?_
            refine walk ?_
            refine s_ext (v := .int .u64 (x : Int)) rfl rfl rfl ?_
            refine walk ?_
            refine s_ext (v := flt (((x : Int) + 1) % 18446744073709551616).toNat) rfl rfl rfl ?_
            refine walk ?_
            (first | refine ret1 (v := .float _ _) (.inr rfl) rfl rfl ?_ | refine ret1  (.inr rfl) rfl rfl ?_ | refine ret1 (v := .float _ _) (.inl rfl) rfl rfl ?_ | refine ret1  (.inl rfl) rfl rfl ?_)
            exact ⟨rfl, _, hu, rfl⟩
end
end Go.Proofs.YtkgddnelghkdnaaDoor
