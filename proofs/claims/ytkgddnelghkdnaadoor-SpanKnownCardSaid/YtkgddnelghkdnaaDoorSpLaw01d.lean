/- Spans rise with their doubles; whole milliseconds; there and back. No condition. -/
import Derived.Test.YtkgddnelghkdnaaDoorSpLaw01a
namespace Go.Proofs.YtkgddnelghkdnaaDoor
open Go Go.SL Go.SL.Flo
set_option linter.unusedSimpArgs false
set_option linter.unusedVariables false
set_option maxRecDepth 10000
set_option maxHeartbeats 4000000
/-- Spans rise with their doubles. -/
theorem rise {f g : Nat} (hf : FGood f) (hg : FGood g) (h : cmpOf .leq (D.order f g) = true) : nanosR (f % 2 ^ 63) ≤ nanosR (g % 2 ^ 63) := by
  rw [cmp_leq hf hg] at h
  exact nanosR_mono (of_decide_eq_true h)
theorem fl_mod {m : Nat} (h : m ≤ 2 ^ 62) : fl m % 2 ^ 63 = fl m := by
  have h1 := fl_top h
  have h2 : c62 < 2 ^ 63 := by decide
  exact Nat.mod_eq_of_lt (Nat.lt_of_le_of_lt h1 h2)
theorem milQ_whole {k : Nat} (h : k ≤ 8589934592) : milQ ((k * 1000000 : Nat) : Int) = fl k := by
  have e : (clampI ((k * 1000000 : Nat) : Int)).toNat = k * 1000000 := by unfold clampI; omega
  have h1 := milQ_eq ((k * 1000000 : Nat) : Int)
  rw [e, millis_whole h] at h1
  exact (Option.some.inj h1).symm
theorem milQ_near {m : Nat} (h : m < 4503599627370496) : FGood (milQ (m : Nat)) ∧ m ≤ nanosR (milQ (m : Nat) % 2 ^ 63) + 1 ∧ nanosR (milQ (m : Nat) % 2 ^ 63) ≤ m + 1 := by
  have e : (clampI (m : Nat)).toNat = m := by unfold clampI; omega
  have h1 := milQ_eq (m : Nat)
  obtain ⟨q, hq, h2, h3, h4⟩ := back_near h
  rw [e, hq] at h1
  rw [← Option.some.inj h1]
  exact ⟨h2, h3, h4⟩
instance : SomeTy Tryd.prog 35 := ⟨by kernel_rfl⟩
attribute [local irreducible] WP WPL QSeq QBlk QRet Does Cell Cells Rd Mine Ent Aside RV e0 QScp valU textS sumI clsV milQ fl
section
variable {B : World} {F H : HProp} {f g w : Nat} {n : Int}
theorem fl_b {k : Nat} (h : k ≤ 2 ^ 62) : fl k < 2 ^ 64 := by
  have h1 := fl_top h
  have h2 : c62 < 2 ^ 64 := by decide
  omega
theorem rises_law (T : Tab B) (L : LibOk B) (hf : f < 2 ^ 64) (hg : g < 2 ^ 64) (hw : w < 2 ^ 64) : Does Tryd.prog B 6 [flt f, flt g, .int .u64 (w : Nat), .int .i64 n] H fun r H' => H' = H ∧ r = .bool true := by
  refine Does.frame0 ?_
  obtain ⟨k, hk⟩ : ∃ k, w % 8589934593 = k := ⟨_, rfl⟩
  have hkl : k ≤ 8589934592 := by omega
  have hki : ((w : Nat) : Int) % 8589934593 = ((k : Nat) : Int) := by omega
  have hkn : FloatKind.f64.nearest ((k : Nat) : Int) = fl k := nearest_nat (by omega)
  have hkn2 : FloatKind.f64.nearest (((w : Nat) : Int) % 8589934593) = fl k := by rw [hki]; exact hkn
  have vk := nanV_good (fl_good (n := k) (by omega))
  rw [fl_mod (by omega), nanos_whole (by omega)] at vk
  have qk := milQ_whole hkl
  have cne : cmpOf .neq (D.order (fl k) (fl k)) = false := by rw [cmp_neq (fl_good (by omega)) (fl_good (by omega))]; simp
  obtain ⟨m, hm⟩ : ∃ m : Nat, (n % 18446744073709551616 % 4503599627370496) = (m : Nat) := ⟨(n % 18446744073709551616 % 4503599627370496).toNat, by omega⟩
  have hml : m < 4503599627370496 := by omega
  obtain ⟨gm, h1, h2⟩ := milQ_near hml
  have vm := nanV_good gm
  have hmb : milQ (m : Nat) < 2 ^ 64 := by
    have hi : infR < 2 ^ 63 := by decide
    rcases gm with h | h <;> omega
  by_cases gf : FGood f
  · have vf := nanV_good gf
    by_cases gg : FGood g
    · have vg := nanV_good gg
      cases hle : cmpOf .leq (D.order f g) with
      | true =>
        have hr := rise gf gg hle
        refine fn_intro 96 Tryd.func6 rfl rfl rfl ?_
        refine walk ?_
        refine s_call rfl (nanos_spec hf) rfl ?_
        rintro _ _ ⟨e_, rfl⟩
        obtain rfl := e_.symm
        refine walk ?_
        rw [vf]
        refine walk ?_
        refine s_call rfl (nanos_spec hg) rfl ?_
        rintro _ _ ⟨e_, rfl⟩
        obtain rfl := e_.symm
        refine walk ?_
        rw [vg]
        refine walk ?_
        refine s_fcmp (op := .leq) rfl rfl rfl hle rfl ?_
        refine walk ?_
        refine s_itof rfl hkn2 rfl ?_
        refine walk ?_
        refine s_call rfl (nanos_spec (b := fl k) (fl_b (by omega))) rfl ?_
        rintro _ _ ⟨e_, rfl⟩
        obtain rfl := e_.symm
        rw [vk]
        refine walk ?_
        refine s_call rfl (milP (n := ((k * 1000000 : Nat) : Int))) rfl ?_
        rintro _ _ ⟨e_, rfl⟩
        obtain rfl := e_.symm
        refine walk ?_
        rw [qk]
        refine s_itof rfl hkn2 rfl ?_
        refine walk ?_
        refine s_fcmp (op := .neq) rfl rfl rfl cne rfl ?_
        refine walk ?_
        rw [hm]
        refine walk ?_
        refine s_call rfl (milP (n := ((m : Nat) : Int))) rfl ?_
        rintro _ _ ⟨e_, rfl⟩
        obtain rfl := e_.symm
        refine walk ?_
        refine s_call rfl (nanos_spec (b := milQ (m : Nat)) hmb) rfl ?_
        rintro _ _ ⟨e_, rfl⟩
        obtain rfl := e_.symm
        rw [vm]
        refine walk ?_
        refine s_call rfl (works_spec T L) rfl ?_
        rintro _ _ ⟨e_, rfl⟩
        obtain rfl := e_.symm
        refine walk ?_
        (first | (apply retRD1 (G := H) (.inr rfl) rfl; (· first | (refine rv_tmp (v := .bool _) rfl) | exact rv_tmp rfl); (· exact Ent.auto)) | (apply retRD1 (G := H) (.inl rfl) rfl; (· first | (refine rv_tmp (v := .bool _) rfl) | exact rv_tmp rfl); (· exact Ent.auto)))
        exact ⟨Ent.refl _, rfl⟩
      | false =>
        refine fn_intro 96 Tryd.func6 rfl rfl rfl ?_
        refine walk ?_
        refine s_call rfl (nanos_spec hf) rfl ?_
        rintro _ _ ⟨e_, rfl⟩
        obtain rfl := e_.symm
        refine walk ?_
        rw [vf]
        refine walk ?_
        refine s_call rfl (nanos_spec hg) rfl ?_
        rintro _ _ ⟨e_, rfl⟩
        obtain rfl := e_.symm
        refine walk ?_
        rw [vg]
        refine walk ?_
        refine s_fcmp (op := .leq) rfl rfl rfl hle rfl ?_
        refine walk ?_
        refine s_itof rfl hkn2 rfl ?_
        refine walk ?_
        refine s_call rfl (nanos_spec (b := fl k) (fl_b (by omega))) rfl ?_
        rintro _ _ ⟨e_, rfl⟩
        obtain rfl := e_.symm
        rw [vk]
        refine walk ?_
        refine s_call rfl (milP (n := ((k * 1000000 : Nat) : Int))) rfl ?_
        rintro _ _ ⟨e_, rfl⟩
        obtain rfl := e_.symm
        refine walk ?_
        rw [qk]
        refine s_itof rfl hkn2 rfl ?_
        refine walk ?_
        refine s_fcmp (op := .neq) rfl rfl rfl cne rfl ?_
        refine walk ?_
        rw [hm]
        refine walk ?_
        refine s_call rfl (milP (n := ((m : Nat) : Int))) rfl ?_
        rintro _ _ ⟨e_, rfl⟩
        obtain rfl := e_.symm
        refine walk ?_
        refine s_call rfl (nanos_spec (b := milQ (m : Nat)) hmb) rfl ?_
        rintro _ _ ⟨e_, rfl⟩
        obtain rfl := e_.symm
        rw [vm]
        refine walk ?_
        refine s_call rfl (works_spec T L) rfl ?_
        rintro _ _ ⟨e_, rfl⟩
        obtain rfl := e_.symm
        refine walk ?_
        (first | (apply retRD1 (G := H) (.inr rfl) rfl; (· first | (refine rv_tmp (v := .bool _) rfl) | exact rv_tmp rfl); (· exact Ent.auto)) | (apply retRD1 (G := H) (.inl rfl) rfl; (· first | (refine rv_tmp (v := .bool _) rfl) | exact rv_tmp rfl); (· exact Ent.auto)))
        exact ⟨Ent.refl _, rfl⟩
    · have vg := nanV_bad gg
      refine fn_intro 96 Tryd.func6 rfl rfl rfl ?_
      refine walk ?_
      refine s_call rfl (nanos_spec hf) rfl ?_
      rintro _ _ ⟨e_, rfl⟩
      obtain rfl := e_.symm
      refine walk ?_
      rw [vf]
      refine walk ?_
      refine s_call rfl (nanos_spec hg) rfl ?_
      rintro _ _ ⟨e_, rfl⟩
      obtain rfl := e_.symm
      refine walk ?_
      rw [vg]
      refine walk ?_
      refine s_itof rfl hkn2 rfl ?_
      refine walk ?_
      refine s_call rfl (nanos_spec (b := fl k) (fl_b (by omega))) rfl ?_
      rintro _ _ ⟨e_, rfl⟩
      obtain rfl := e_.symm
      rw [vk]
      refine walk ?_
      refine s_call rfl (milP (n := ((k * 1000000 : Nat) : Int))) rfl ?_
      rintro _ _ ⟨e_, rfl⟩
      obtain rfl := e_.symm
      refine walk ?_
      rw [qk]
      refine s_itof rfl hkn2 rfl ?_
      refine walk ?_
      refine s_fcmp (op := .neq) rfl rfl rfl cne rfl ?_
      refine walk ?_
      rw [hm]
      refine walk ?_
      refine s_call rfl (milP (n := ((m : Nat) : Int))) rfl ?_
      rintro _ _ ⟨e_, rfl⟩
      obtain rfl := e_.symm
      refine walk ?_
      refine s_call rfl (nanos_spec (b := milQ (m : Nat)) hmb) rfl ?_
      rintro _ _ ⟨e_, rfl⟩
      obtain rfl := e_.symm
      rw [vm]
      refine walk ?_
      refine s_call rfl (works_spec T L) rfl ?_
      rintro _ _ ⟨e_, rfl⟩
      obtain rfl := e_.symm
      refine walk ?_
      (first | (apply retRD1 (G := H) (.inr rfl) rfl; (· first | (refine rv_tmp (v := .bool _) rfl) | exact rv_tmp rfl); (· exact Ent.auto)) | (apply retRD1 (G := H) (.inl rfl) rfl; (· first | (refine rv_tmp (v := .bool _) rfl) | exact rv_tmp rfl); (· exact Ent.auto)))
      exact ⟨Ent.refl _, rfl⟩
  · have vf := nanV_bad gf
    by_cases gg : FGood g
    · have vg := nanV_good gg
      refine fn_intro 96 Tryd.func6 rfl rfl rfl ?_
      refine walk ?_
      refine s_call rfl (nanos_spec hf) rfl ?_
      rintro _ _ ⟨e_, rfl⟩
      obtain rfl := e_.symm
      refine walk ?_
      rw [vf]
      refine walk ?_
      refine s_call rfl (nanos_spec hg) rfl ?_
      rintro _ _ ⟨e_, rfl⟩
      obtain rfl := e_.symm
      refine walk ?_
      rw [vg]
      refine walk ?_
      refine s_itof rfl hkn2 rfl ?_
      refine walk ?_
      refine s_call rfl (nanos_spec (b := fl k) (fl_b (by omega))) rfl ?_
      rintro _ _ ⟨e_, rfl⟩
      obtain rfl := e_.symm
      rw [vk]
      refine walk ?_
      refine s_call rfl (milP (n := ((k * 1000000 : Nat) : Int))) rfl ?_
      rintro _ _ ⟨e_, rfl⟩
      obtain rfl := e_.symm
      refine walk ?_
      rw [qk]
      refine s_itof rfl hkn2 rfl ?_
      refine walk ?_
      refine s_fcmp (op := .neq) rfl rfl rfl cne rfl ?_
      refine walk ?_
      rw [hm]
      refine walk ?_
      refine s_call rfl (milP (n := ((m : Nat) : Int))) rfl ?_
      rintro _ _ ⟨e_, rfl⟩
      obtain rfl := e_.symm
      refine walk ?_
      refine s_call rfl (nanos_spec (b := milQ (m : Nat)) hmb) rfl ?_
      rintro _ _ ⟨e_, rfl⟩
      obtain rfl := e_.symm
      rw [vm]
      refine walk ?_
      refine s_call rfl (works_spec T L) rfl ?_
      rintro _ _ ⟨e_, rfl⟩
      obtain rfl := e_.symm
      refine walk ?_
      (first | (apply retRD1 (G := H) (.inr rfl) rfl; (· first | (refine rv_tmp (v := .bool _) rfl) | exact rv_tmp rfl); (· exact Ent.auto)) | (apply retRD1 (G := H) (.inl rfl) rfl; (· first | (refine rv_tmp (v := .bool _) rfl) | exact rv_tmp rfl); (· exact Ent.auto)))
      exact ⟨Ent.refl _, rfl⟩
    · have vg := nanV_bad gg
      refine fn_intro 96 Tryd.func6 rfl rfl rfl ?_
      refine walk ?_
      refine s_call rfl (nanos_spec hf) rfl ?_
      rintro _ _ ⟨e_, rfl⟩
      obtain rfl := e_.symm
      refine walk ?_
      rw [vf]
      refine walk ?_
      refine s_call rfl (nanos_spec hg) rfl ?_
      rintro _ _ ⟨e_, rfl⟩
      obtain rfl := e_.symm
      refine walk ?_
      rw [vg]
      refine walk ?_
      refine s_itof rfl hkn2 rfl ?_
      refine walk ?_
      refine s_call rfl (nanos_spec (b := fl k) (fl_b (by omega))) rfl ?_
      rintro _ _ ⟨e_, rfl⟩
      obtain rfl := e_.symm
      rw [vk]
      refine walk ?_
      refine s_call rfl (milP (n := ((k * 1000000 : Nat) : Int))) rfl ?_
      rintro _ _ ⟨e_, rfl⟩
      obtain rfl := e_.symm
      refine walk ?_
      rw [qk]
      refine s_itof rfl hkn2 rfl ?_
      refine walk ?_
      refine s_fcmp (op := .neq) rfl rfl rfl cne rfl ?_
      refine walk ?_
      rw [hm]
      refine walk ?_
      refine s_call rfl (milP (n := ((m : Nat) : Int))) rfl ?_
      rintro _ _ ⟨e_, rfl⟩
      obtain rfl := e_.symm
      refine walk ?_
      refine s_call rfl (nanos_spec (b := milQ (m : Nat)) hmb) rfl ?_
      rintro _ _ ⟨e_, rfl⟩
      obtain rfl := e_.symm
      rw [vm]
      refine walk ?_
      refine s_call rfl (works_spec T L) rfl ?_
      rintro _ _ ⟨e_, rfl⟩
      obtain rfl := e_.symm
      refine walk ?_
      (first | (apply retRD1 (G := H) (.inr rfl) rfl; (· first | (refine rv_tmp (v := .bool _) rfl) | exact rv_tmp rfl); (· exact Ent.auto)) | (apply retRD1 (G := H) (.inl rfl) rfl; (· first | (refine rv_tmp (v := .bool _) rfl) | exact rv_tmp rfl); (· exact Ent.auto)))
      exact ⟨Ent.refl _, rfl⟩
end
end Go.Proofs.YtkgddnelghkdnaaDoor
