/- Spans: the chapter's example; the span of a double; sums. No condition. -/
import Derived.Test.YtkgddnelghkdnaaDoorSpRead01c
namespace Go.Proofs.YtkgddnelghkdnaaDoor
open Go Go.SL Go.SL.Flo
set_option linter.unusedSimpArgs false
set_option linter.unusedVariables false
set_option maxRecDepth 10000
set_option maxHeartbeats 4000000
theorem n15 : nanosR (4609434218613702656 % 2 ^ 63) = 1500000 := by kernel_rfl
theorem nm0 : nanosR (9223372036854775808 % 2 ^ 63) = 0 := by kernel_rfl
theorem ninf : nanosR (9218868437227405312 % 2 ^ 63) = 4611686018427387904 := by kernel_rfl
instance (w : Nat) : Decidable (FGood w) := inferInstanceAs (Decidable (_ ∨ _))
theorem texA : textS 1500000 = [49, 46, 53, 48, 48, 48, 48, 48] := by
  unfold textS
  rw [if_pos (by omega), show ((1500000 : Int) / 1000000).toNat = 1 by decide, show ((1500000 : Int) % 1000000).toNat = 500000 by decide]
  simp [pad6, dg, Lib.decDigits]
theorem readA : readS [49, 46, 53, 48, 48, 48, 48, 48] = .tuple #[.int .i64 1500000, .int .i64 0] := readS_hit (by simp) texA
theorem readB : readS [49, 46, 53] = .tuple #[.int .i64 0, .int .i64 10] := readS_miss (.inr fun n hn e => by
  have := val_text hn
  rw [e, show valU [49, 46, 53] = 15 by decide] at this
  have hn2 : n = 15 := by omega
  subst hn2
  have h2 : textS 15 = [48, 46, 48, 48, 48, 48, 49, 53] := by
    unfold textS
    rw [if_pos (by omega), show ((15 : Int) / 1000000).toNat = 0 by decide, show ((15 : Int) % 1000000).toNat = 15 by decide]
    simp [pad6, dg, Lib.decDigits]
  rw [h2] at e
  cases e)
attribute [local irreducible] WP WPL QSeq QBlk QRet Does Cell Cells Rd Mine Ent Aside RV e0 QScp valU textS sumI clsV milQ
section
variable {B : World} {F H : HProp} {w : Nat} {n : Int} {s : List UInt8}
theorem nan_spec : Does Tryd.prog B 24 [] H fun r H' => H' = H ∧ r = flt 9221120237041090561 := by
  refine fn_intro 2 Tryd.func24 rfl rfl rfl ?_
  refine walk ?_
  refine s_ext (v := flt 9221120237041090561) rfl rfl rfl ?_
  refine walk ?_
  (first | refine ret1 (v := .float _ _) (.inr rfl) rfl rfl ?_ | refine ret1  (.inr rfl) rfl rfl ?_ | refine ret1 (v := .float _ _) (.inl rfl) rfl rfl ?_ | refine ret1  (.inl rfl) rfl rfl ?_)
  exact ⟨rfl, rfl⟩
theorem inf_spec : Does Tryd.prog B 25 [.int .i64 1] H fun r H' => H' = H ∧ r = flt 9218868437227405312 := by
  refine fn_intro 8 Tryd.func25 rfl rfl rfl ?_
  refine walk ?_
  refine s_ext (v := flt 9218868437227405312) rfl rfl rfl ?_
  refine walk ?_
  (first | refine ret1 (v := .float _ _) (.inr rfl) rfl rfl ?_ | refine ret1  (.inr rfl) rfl rfl ?_ | refine ret1 (v := .float _ _) (.inl rfl) rfl rfl ?_ | refine ret1  (.inl rfl) rfl rfl ?_)
  exact ⟨rfl, rfl⟩
theorem copysign_spec : Does Tryd.prog B 26 [flt 0, flt 13830554455654793216] H fun r H' => H' = H ∧ r = flt 9223372036854775808 := by
  refine fn_intro 13 Tryd.func26 rfl rfl rfl ?_
  refine walk ?_
  refine s_ext (v := .int .u64 0) rfl rfl rfl ?_
  refine walk ?_
  refine s_andNot (r := 0) rfl rfl (by decide) (by decide) rfl ?_
  refine walk ?_
  refine s_ext (v := .int .u64 13830554455654793216) rfl rfl rfl ?_
  refine walk ?_
  refine s_and (r := 9223372036854775808) rfl rfl (by decide) (by decide) (by decide) (by decide) rfl ?_
  refine walk ?_
  refine s_or (r := 9223372036854775808) rfl rfl (by decide) (by decide) (by decide) (by decide) rfl ?_
  refine walk ?_
  refine s_ext (v := flt 9223372036854775808) rfl rfl rfl ?_
  refine walk ?_
  (first | refine ret1 (v := .float _ _) (.inr rfl) rfl rfl ?_ | refine ret1  (.inr rfl) rfl rfl ?_ | refine ret1 (v := .float _ _) (.inl rfl) rfl rfl ?_ | refine ret1  (.inl rfl) rfl rfl ?_)
  exact ⟨rfl, rfl⟩
theorem clsA : clsV 4502148214488346440 = 2 := by
  unfold clsV
  have hg : FGood 4502148214488346440 := by decide
  have h0 : nanosR (4502148214488346440 % 2 ^ 63) = 0 := by kernel_rfl
  rw [if_neg (by simp [hg]), if_neg (by decide), if_pos h0]
theorem works_spec (T : Tab B) (L : LibOk B) : Does Tryd.prog B 12 [] H fun r H' => H' = H ∧ r = .bool true := by
  refine Does.frame0 ?_
  have v1 := nanV_good (b := 4609434218613702656) (by decide)
  have v2 := nanV_good (b := 9223372036854775808) (by decide)
  have v3 := nanV_bad (b := 9221120237041090561) (by decide)
  have v4 := nanV_bad (b := 13785626545772145148) (by decide)
  have v5 := nanV_good (b := 9218868437227405312) (by decide)
  rw [n15] at v1
  rw [nm0] at v2
  rw [ninf] at v5
  refine fn_intro 101 Tryd.func12 rfl rfl rfl ?_
  refine walk ?_
  refine s_call rfl (nanos_spec (b := 4609434218613702656) (by decide)) rfl ?_
  rintro _ _ ⟨e_, rfl⟩
  obtain rfl := e_.symm
  rw [v1]
  refine walk ?_
  refine s_call rfl (copysign_spec) rfl ?_
  rintro _ _ ⟨e_, rfl⟩
  obtain rfl := e_.symm
  refine walk ?_
  refine s_call rfl (nanos_spec (b := 9223372036854775808) (by decide)) rfl ?_
  rintro _ _ ⟨e_, rfl⟩
  obtain rfl := e_.symm
  rw [v2]
  refine walk ?_
  refine s_call rfl (nan_spec) rfl ?_
  rintro _ _ ⟨e_, rfl⟩
  obtain rfl := e_.symm
  refine walk ?_
  refine s_call rfl (nanos_spec (b := 9221120237041090561) (by decide)) rfl ?_
  rintro _ _ ⟨e_, rfl⟩
  obtain rfl := e_.symm
  rw [v3]
  refine walk ?_
  refine s_call rfl (nanos_spec (b := 13785626545772145148) (by decide)) rfl ?_
  rintro _ _ ⟨e_, rfl⟩
  obtain rfl := e_.symm
  rw [v4]
  refine walk ?_
  refine s_call rfl (inf_spec) rfl ?_
  rintro _ _ ⟨e_, rfl⟩
  obtain rfl := e_.symm
  refine walk ?_
  refine s_call rfl (nanos_spec (b := 9218868437227405312) (by decide)) rfl ?_
  rintro _ _ ⟨e_, rfl⟩
  obtain rfl := e_.symm
  rw [v5]
  refine walk ?_
  refine s_call rfl (readP T L (s := [49, 46, 53, 48, 48, 48, 48, 48]) (by decide)) rfl ?_
  rintro _ _ ⟨e_, rfl⟩
  obtain rfl := e_.symm
  rw [readA]
  refine walk ?_
  refine s_call rfl (readP T L (s := [49, 46, 53]) (by decide)) rfl ?_
  rintro _ _ ⟨e_, rfl⟩
  obtain rfl := e_.symm
  rw [readB]
  refine walk ?_
  refine s_call rfl (classP (b := 4502148214488346440) (by decide)) rfl ?_
  rintro _ _ ⟨e_, rfl⟩
  obtain rfl := e_.symm
  rw [clsA]
  refine walk ?_
  refine s_buildInts (cs := zs [5, -7, 4611686018427387904]) rfl rfl rfl rfl rfl ?_
  intro b3
  refine walk ?_
  refine s_call rfl (sumP (l := [5, -7, 4611686018427387904]) (Rd.blk0 (e := 2) rfl (by simp [maxLen]))) rfl ?_
  rintro _ _ ⟨e_, rfl⟩
  obtain rfl := e_.symm
  rw [show sumI [5, -7, 4611686018427387904] = 4611686018427387904 by unfold sumI; rfl]
  refine walk ?_
  refine s_call rfl (textP T (n := 1500000)) rfl ?_
  rintro _ _ ⟨e_, rfl⟩
  obtain rfl := e_.symm
  refine walk ?_
  rw [texA]
  refine s_eqstr rfl rfl (b := true) (decide_eq_true rfl) rfl ?_
  refine walk ?_
  (first | (apply retRD1 (G := H) (.inr rfl) rfl; (· first | (refine rv_tmp (v := .bool _) rfl) | exact rv_tmp rfl); (· exact Ent.auto)) | (apply retRD1 (G := H) (.inl rfl) rfl; (· first | (refine rv_tmp (v := .bool _) rfl) | exact rv_tmp rfl); (· exact Ent.auto)))
  exact ⟨Ent.refl _, rfl⟩
theorem nanos_law (T : Tab B) (L : LibOk B) (hw : w < 2 ^ 64) : Does Tryd.prog B 3 [flt w] H fun r H' => H' = H ∧ r = .bool true := by
  refine Does.frame0 ?_
  by_cases hg : FGood w
  · have hv := nanV_good hg
    refine fn_intro 35 Tryd.func3 rfl rfl rfl ?_
    refine walk ?_
    refine s_call rfl (nanos_spec hw) rfl ?_
    rintro _ _ ⟨e_, rfl⟩
    obtain rfl := e_.symm
    refine walk ?_
    rw [hv]
    refine walk ?_
    refine s_call rfl (rnanos_spec hw) rfl ?_
    rintro _ _ ⟨e_, rfl⟩
    obtain rfl := e_.symm
    refine walk ?_
    rw [hv]
    refine walk ?_
    refine s_call rfl (classP hw) rfl ?_
    rintro _ _ ⟨e_, rfl⟩
    obtain rfl := e_.symm
    refine walk ?_
    refine s_call rfl (rClassP hw) rfl ?_
    rintro _ _ ⟨e_, rfl⟩
    obtain rfl := e_.symm
    refine walk ?_
    refine s_call rfl (works_spec T L) rfl ?_
    rintro _ _ ⟨e_, rfl⟩
    obtain rfl := e_.symm
    refine walk ?_
    (first | (apply retRD1 (G := H) (.inr rfl) rfl; (· first | (refine rv_tmp (v := .bool _) rfl) | exact rv_tmp rfl); (· exact Ent.auto)) | (apply retRD1 (G := H) (.inl rfl) rfl; (· first | (refine rv_tmp (v := .bool _) rfl) | exact rv_tmp rfl); (· exact Ent.auto)))
    exact ⟨Ent.refl _, rfl⟩
  · have hv := nanV_bad hg
    refine fn_intro 35 Tryd.func3 rfl rfl rfl ?_
    refine walk ?_
    refine s_call rfl (nanos_spec hw) rfl ?_
    rintro _ _ ⟨e_, rfl⟩
    obtain rfl := e_.symm
    refine walk ?_
    rw [hv]
    refine walk ?_
    refine s_call rfl (rnanos_spec hw) rfl ?_
    rintro _ _ ⟨e_, rfl⟩
    obtain rfl := e_.symm
    refine walk ?_
    rw [hv]
    refine walk ?_
    refine s_call rfl (classP hw) rfl ?_
    rintro _ _ ⟨e_, rfl⟩
    obtain rfl := e_.symm
    refine walk ?_
    refine s_call rfl (rClassP hw) rfl ?_
    rintro _ _ ⟨e_, rfl⟩
    obtain rfl := e_.symm
    refine walk ?_
    refine s_call rfl (works_spec T L) rfl ?_
    rintro _ _ ⟨e_, rfl⟩
    obtain rfl := e_.symm
    refine walk ?_
    (first | (apply retRD1 (G := H) (.inr rfl) rfl; (· first | (refine rv_tmp (v := .bool _) rfl) | exact rv_tmp rfl); (· exact Ent.auto)) | (apply retRD1 (G := H) (.inl rfl) rfl; (· first | (refine rv_tmp (v := .bool _) rfl) | exact rv_tmp rfl); (· exact Ent.auto)))
    exact ⟨Ent.refl _, rfl⟩
end
end Go.Proofs.YtkgddnelghkdnaaDoor
