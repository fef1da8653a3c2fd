/- Semaphores that are not there; the closed statement. No condition. -/
import Derived.Test.YtgdeemneijpeeaaSmLaw16c
namespace Go.Proofs.Ytgdeemneijpeeaa
open Go Go.SL
set_option linter.unusedSimpArgs false
set_option linter.unusedVariables false
set_option maxRecDepth 10000
set_option maxHeartbeats 4000000
attribute [local irreducible] WP WPL QSeq QBlk QRet Does Cell Cells Rd Mine Ent Aside RV Yield SemAt
section
variable {B : World} {F H G : HProp} {n c g k : Int} {s : Value} {acts : List ActT}
theorem sAcquire_nil : Does Try.prog B 11 [.pointer none, .int .i64 k, .int .i64 g] H fun r H' => H' = H ∧ r = .tuple #[.bool false, .int .i64 1] := by
  refine fn_intro 56 Try.func11 rfl rfl rfl ?_
  refine walk ?_
  (first | refine ret2 (v := .bool _) (x := .int _ _) (.inr rfl) rfl rfl rfl ?_ | refine ret2  (.inr rfl) rfl rfl rfl ?_ | refine ret2 (v := .bool _) (x := .int _ _) (.inl rfl) rfl rfl rfl ?_ | refine ret2  (.inl rfl) rfl rfl rfl ?_)
  exact ⟨rfl, rfl⟩
theorem sRelease_nil : Does Try.prog B 13 [.pointer none, .int .i64 k] H fun r H' => H' = H ∧ r = .tuple #[.int .i64 0, .bool false, .int .i64 1] := by
  refine fn_intro 47 Try.func13 rfl rfl rfl ?_
  refine walk ?_
  (first | refine ret3 (v := .int _ _) (x := .bool _) (y := .int _ _) (.inr rfl) rfl rfl rfl rfl ?_ | refine ret3  (.inr rfl) rfl rfl rfl rfl ?_ | refine ret3 (v := .int _ _) (x := .bool _) (y := .int _ _) (.inl rfl) rfl rfl rfl rfl ?_ | refine ret3  (.inl rfl) rfl rfl rfl rfl ?_)
  exact ⟨rfl, rfl⟩
theorem sWhere_nil : Does Try.prog B 23 [.pointer none, .int .i64 g] H fun r H' => H' = H ∧ r = .tuple #[.int .i64 0, .bool false] := by
  refine fn_intro 21 Try.func23 rfl rfl rfl ?_
  refine walk ?_
  (first | refine ret2 (v := .int _ _) (x := .bool _) (.inr rfl) rfl rfl rfl ?_ | refine ret2  (.inr rfl) rfl rfl rfl ?_ | refine ret2 (v := .int _ _) (x := .bool _) (.inl rfl) rfl rfl rfl ?_ | refine ret2  (.inl rfl) rfl rfl rfl ?_)
  exact ⟨rfl, rfl⟩
theorem sLeave_nil : Does Try.prog B 14 [.pointer none, .int .i64 g] H fun r H' => H' = H ∧ r = .bool false := by
  refine fn_intro 28 Try.func14 rfl rfl rfl ?_
  refine walk ?_
  refine s_call rfl (sWhere_nil) rfl ?_
  rintro _ _ ⟨e_, rfl⟩
  obtain rfl := e_.symm
  refine walk ?_
  (first | refine ret1 (v := .bool _) (.inr rfl) rfl rfl ?_ | refine ret1  (.inr rfl) rfl rfl ?_ | refine ret1 (v := .bool _) (.inl rfl) rfl rfl ?_ | refine ret1  (.inl rfl) rfl rfl ?_)
  exact ⟨rfl, rfl⟩
theorem sCount_nil : Does Try.prog B 15 [.pointer none, .int .i64 k] H fun r H' => H' = H ∧ r = .int .i64 0 := by
  refine fn_intro 20 Try.func15 rfl rfl rfl ?_
  refine walk ?_
  (first | refine ret1 (v := .int _ _) (.inr rfl) rfl rfl ?_ | refine ret1  (.inr rfl) rfl rfl ?_ | refine ret1 (v := .int _ _) (.inl rfl) rfl rfl ?_ | refine ret1  (.inl rfl) rfl rfl ?_)
  exact ⟨rfl, rfl⟩
theorem sWaiting_nil : Does Try.prog B 10 [.pointer none, .int .i64 k] H fun r H' => H' = H ∧ r = .slice none 0 0 := by
  refine fn_intro 20 Try.func10 rfl rfl rfl ?_
  refine walk ?_
  (first | refine ret1 (v := .slice _ _ _) (.inr rfl) rfl rfl ?_ | refine ret1  (.inr rfl) rfl rfl ?_ | refine ret1 (v := .slice _ _ _) (.inl rfl) rfl rfl ?_ | refine ret1  (.inl rfl) rfl rfl ?_)
  exact ⟨rfl, rfl⟩
theorem sLen_nil : Does Try.prog B 24 [.pointer none] H fun r H' => H' = H ∧ r = .int .i64 0 := by
  refine fn_intro 9 Try.func24 rfl rfl rfl ?_
  refine walk ?_
  (first | refine ret1 (v := .int _ _) (.inr rfl) rfl rfl ?_ | refine ret1  (.inr rfl) rfl rfl ?_ | refine ret1 (v := .int _ _) (.inl rfl) rfl rfl ?_ | refine ret1  (.inl rfl) rfl rfl ?_)
  exact ⟨rfl, rfl⟩
theorem none_spec : Does Try.prog B 5 [.int .i64 k, .int .i64 g] H fun r H' => H' = H ∧ r = .bool true := by
  have e1 : relS [([], 1073741824)] 0 = ([([], 1073741824)], 0, false, 3) := by decide
  refine fn_intro 119 Try.func5 rfl rfl rfl ?_
  refine walk ?_
  refine s_call rfl (sAcquire_nil) rfl ?_
  rintro _ _ ⟨e_, rfl⟩
  obtain rfl := e_.symm
  refine walk ?_
  refine s_call rfl (sRelease_nil) rfl ?_
  rintro _ _ ⟨e_, rfl⟩
  obtain rfl := e_.symm
  refine walk ?_
  refine s_call rfl (sWhere_nil) rfl ?_
  rintro _ _ ⟨e_, rfl⟩
  obtain rfl := e_.symm
  refine walk ?_
  refine s_call rfl (sLeave_nil) rfl ?_
  rintro _ _ ⟨e_, rfl⟩
  obtain rfl := e_.symm
  refine walk ?_
  refine s_call rfl (sCount_nil) rfl ?_
  rintro _ _ ⟨e_, rfl⟩
  obtain rfl := e_.symm
  refine walk ?_
  refine s_call rfl (sWaiting_nil) rfl ?_
  rintro _ _ ⟨e_, rfl⟩
  obtain rfl := e_.symm
  refine walk ?_
  refine s_call rfl (sLen_nil) rfl ?_
  rintro _ _ ⟨e_, rfl⟩
  obtain rfl := e_.symm
  refine walk ?_
  refine s_call rfl (sCopy_nil) rfl ?_
  rintro _ _ ⟨e_, rfl⟩
  obtain rfl := e_.symm
  refine walk ?_
  refine s_call rfl (sSame_none) rfl ?_
  rintro _ _ ⟨e_, rfl⟩
  obtain rfl := e_.symm
  refine walk ?_
  refine s_call rfl (sNew (n := 1) (c := 1073741824) (by omega) (by omega) (by omega)) rfl ?_
  rintro _ _ ⟨p, rfl, rfl⟩
  rw [show newS (1 : Int).toNat 1073741824 = [([], 1073741824)] from rfl]
  refine walk ?_
  refine s_call rfl (sReleaseE (p := p) e1) rfl ?_
  rintro _ _ ⟨rfl, rfl⟩
  refine walk ?_
  refine s_call rfl (sCountI (p := p) (S := [([], 1073741824)]) (i := 0) (l := []) (c := 1073741824) rfl) rfl ?_
  rintro _ _ ⟨rfl, rfl⟩
  refine walk ?_
  refine s_call rfl (sSame_nil) rfl ?_
  rintro _ _ ⟨e_, rfl⟩
  obtain rfl := e_.symm
  refine walk ?_
  refine walk ?_
  refine s_call rfl (works_spec) rfl ?_
  rintro _ _ ⟨e_, rfl⟩
  obtain rfl := e_.symm
  refine walk ?_
  (first | (apply retRD1 (G := H) (.inr rfl) rfl; (· first | (refine rv_tmp (v := .bool _) rfl) | exact rv_tmp rfl); (· exact Ent.auto)) | (apply retRD1 (G := H) (.inl rfl) rfl; (· first | (refine rv_tmp (v := .bool _) rfl) | exact rv_tmp rfl); (· exact Ent.auto)))
  exact ⟨rfl, rfl⟩
theorem known_spec : Does Try.prog B 6 [] H fun r H' => H' = H ∧ r = .bool true := by
  refine fn_intro 77 Try.func6 rfl rfl rfl ?_
  refine walk ?_
  refine wp_loopR (α := Nat × Int) [0, 1, 2, 3, 4, 5, 6, 7, 8, 9, 10, 11, 12, 13, 14, 15, 16, 17, 18, 19, 20, 21, 22, 23, 24, 25, 26, 27, 28, 29, 30, 31, 32, 33, 34, 35, 36, 37, 38, 39, 40, 41, 42, 43, 44, 45, 46, 47, 48, 49, 50, 51, 52, 53, 54, 55, 56, 57, 58, 59, 60, 61, 62, 63, 64, 65, 66, 67, 68, 69] (fun x => [(1, .int .i64 x.2), (2, .int .i64 x.1)]) (fun x => x.1 ≤ 60 ∧ 0 ≤ x.2 ∧ x.2 < 100003) (fun x => 60 - x.1) (0, 1) agreed ⟨by omega, by omega, by omega⟩ ?_
  rintro ⟨n, k⟩ g0 ⟨hn, hk0, hk1⟩
  simp only at hn hk0 hk1
  simp only [putAll]
  by_cases hlt : n < 60
  · refine walk ?_
    refine wp_loopF (α := Nat × Int × Value × List ActT) [1, 3, 4, 9, 10, 11, 12, 13, 14, 15, 16, 17, 18, 19, 20, 21, 22, 23, 24, 25, 26, 27, 28, 29, 30, 31, 32] (fun x => [(1, .int .i64 x.2.1), (3, x.2.2.1), (4, .int .i64 x.1)]) (fun x => Mine 31 3 x.2.2.1 x.2.2.2.length (actsC x.2.2.2) + H) (fun x => x.1 ≤ 100 ∧ 0 ≤ x.2.1 ∧ x.2.1 < 100003 ∧ x.2.2.2.length = x.1) (fun x => 100 - x.1) (0, k, .slice none 0 0, []) agreed ?_ ⟨by simp only; omega, hk0, hk1, rfl⟩ ?_
    · show Ent _ (Mine 31 3 (.slice none 0 0) 0 [] + H)
      rw [Mine.nil, HProp.emp_add]
      exact Ent.refl _
    rintro ⟨i, k, v, L⟩ g1 ⟨hi, hk0, hk1, hL⟩
    simp only at hi hk0 hk1 hL
    simp only [putAll]
    by_cases hil : i < 100
    · refine walk ?_
      (refine s_build (cs := [.int .i64 (k % 5), .int .i64 (k / 5 % 7 - 1), .int .i64 (k / 11 % 8)]) ?_ rfl ?_; (· kernel_rfl))
      refine s_buildRows [[.int .i64 (k % 5), .int .i64 (k / 5 % 7 - 1), .int .i64 (k / 11 % 8)]] rfl rfl rfl rfl rfl rfl ?_
      intro ba
      refine s_append (v := v) rfl rfl (Rd.blk0 (m := 1) (sz := 3) (e := 31) rfl (by simp [maxLen])) rfl rfl ?_ rfl ?_
      · simp only [maxLen]; omega
      intro v'
      refine walk ?_
      refine ⟨(i + 1, (k * 31 + 7 * i + 11) % 100003, v', L ++ [(k % 5, k / 5 % 7 - 1, k / 11 % 8)]), asided, agreed, ?_, ⟨hil, by simp only; omega, by simp only; omega, by simp [hL]⟩, by simp only; omega⟩
      simp only [len_push, actsC_app, actsC, actC, List.flatten_cons, List.flatten_nil, List.append_nil]
      exact Ent.auto
    · refine WP.rd fun rd => ?_
      refine walk ?_
      refine s_call rfl (plays_spec (acts := L) (rd.ent InH.ent)) rfl ?_
      rintro _ _ ⟨e_, rfl⟩
      obtain rfl := e_.symm
      refine walk ?_
      refine walk ?_
      refine s_call rfl (plays_spec (acts := L) (rd.ent InH.ent)) rfl ?_
      rintro _ _ ⟨e_, rfl⟩
      obtain rfl := e_.symm
      refine walk ?_
      refine walk ?_
      refine s_call rfl (gains_spec (acts := L) (by omega) (by omega) (rd.ent InH.ent)) rfl ?_
      rintro _ _ ⟨e_, rfl⟩
      obtain rfl := e_.symm
      refine walk ?_
      refine walk ?_
      refine s_call rfl (none_spec) rfl ?_
      rintro _ _ ⟨e_, rfl⟩
      obtain rfl := e_.symm
      refine walk ?_
      refine walk ?_
      exact ⟨(n + 1, k), asided, agreed, Ent.auto, ⟨hlt, hk0, hk1⟩, by simp only; omega⟩
  · refine walk ?_
    refine s_call rfl (plays_spec (acts := []) Rd.nil) rfl ?_
    rintro _ _ ⟨e_, rfl⟩
    obtain rfl := e_.symm
    refine walk ?_
    refine walk ?_
    refine s_call rfl (plays_spec (acts := []) Rd.nil) rfl ?_
    rintro _ _ ⟨e_, rfl⟩
    obtain rfl := e_.symm
    refine walk ?_
    refine walk ?_
    refine s_call rfl (works_spec) rfl ?_
    rintro _ _ ⟨e_, rfl⟩
    obtain rfl := e_.symm
    refine walk ?_
    (first | refine ret1 (v := .bool _) (.inr rfl) rfl rfl ?_ | refine ret1  (.inr rfl) rfl rfl ?_ | refine ret1 (v := .bool _) (.inl rfl) rfl rfl ?_ | refine ret1  (.inl rfl) rfl rfl ?_)
    exact ⟨rfl, rfl⟩
end
end Go.Proofs.Ytgdeemneijpeeaa
