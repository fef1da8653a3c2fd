/- Spans are told, and texts are read. No condition. -/
import Derived.Test.YtkgddnelghkdnaaDoorSpLaw01a
namespace Go.Proofs.YtkgddnelghkdnaaDoor
open Go Go.SL Go.SL.Flo
set_option linter.unusedSimpArgs false
set_option linter.unusedVariables false
set_option maxRecDepth 10000
set_option maxHeartbeats 4000000
attribute [local irreducible] WP WPL QSeq QBlk QRet Does Cell Cells Rd Mine Ent Aside RV e0 QScp valU textS readS
section
variable {B : World} {F H : HProp} {n : Int} {s : List UInt8}
theorem texts_law (T : Tab B) (L : LibOk B) : Does Tryd.prog B 4 [.int .i64 n, str s] H fun r H' => H' = H ∧ r = .bool true := by
  refine Does.frame0 ?_
  by_cases hbig : s.length > 60
  · refine fn_intro 76 Tryd.func4 rfl rfl rfl ?_
    refine walk ?_
    refine s_slen rfl rfl ?_
    refine walk ?_
    refine s_call rfl (works_spec T L) rfl ?_
    rintro _ _ ⟨e_, rfl⟩
    obtain rfl := e_.symm
    refine walk ?_
    (first | (apply retRD1 (G := H) (.inr rfl) rfl; (· first | (refine rv_tmp (v := .bool _) rfl) | exact rv_tmp rfl); (· exact Ent.auto)) | (apply retRD1 (G := H) (.inl rfl) rfl; (· first | (refine rv_tmp (v := .bool _) rfl) | exact rv_tmp rfl); (· exact Ent.auto)))
    exact ⟨Ent.refl _, rfl⟩
  · have htl := text_len (n := n)
    have hR : (∃ m : Int, textS m = s ∧ readS s = .tuple #[.int .i64 m, .int .i64 0]) ∨ readS s = .tuple #[.int .i64 0, .int .i64 10] := by
      by_cases h : s ≠ [] ∧ ∃ m : Int, textS m = s
      · obtain ⟨h0, m, hm⟩ := h
        exact .inl ⟨m, hm, readS_hit h0 hm⟩
      · refine .inr (readS_miss ?_)
        by_cases h0 : s = []
        · exact .inl h0
        · exact .inr fun m _ e => h ⟨h0, m, e⟩
    have hT : (textS n ≠ [] ∧ readS (textS n) = .tuple #[.int .i64 n, .int .i64 0]) ∨ (textS n = [] ∧ readS (textS n) = .tuple #[.int .i64 0, .int .i64 10]) := by
      by_cases h0 : textS n = []
      · exact .inr ⟨h0, readS_miss (.inl h0)⟩
      · exact .inl ⟨h0, readS_hit h0 rfl⟩
    generalize ht : textS n = t at *
    rcases hR with ⟨m, hm, hRe⟩ | hRe
    · rcases hT with ⟨h0, hTe⟩ | ⟨h0, hTe⟩
      · have hne : (⟨t.toArray⟩ : ByteArray) ≠ ⟨#[]⟩ := fun e => h0 (by simpa using e)
        refine fn_intro 76 Tryd.func4 rfl rfl rfl ?_
        refine walk ?_
        refine s_slen rfl rfl ?_
        refine walk ?_
        refine s_call rfl (textP T (n := n)) rfl ?_
        rintro _ _ ⟨e_, rfl⟩
        obtain rfl := e_.symm
        refine walk ?_
        rw [ht]
        refine walk ?_
        refine s_call rfl (readP T L (s := s) (by omega)) rfl ?_
        rintro _ _ ⟨e_, rfl⟩
        obtain rfl := e_.symm
        rw [hRe]
        refine walk ?_
        refine s_call rfl (rReadP (s := s) (by omega)) rfl ?_
        rintro _ _ ⟨e_, rfl⟩
        obtain rfl := e_.symm
        rw [hRe]
        refine walk ?_
        refine s_call rfl (readP T L (s := t) (by omega)) rfl ?_
        rintro _ _ ⟨e_, rfl⟩
        obtain rfl := e_.symm
        rw [hTe]
        refine walk ?_
        refine s_call rfl (rTextP (n := n)) rfl ?_
        rintro _ _ ⟨e_, rfl⟩
        obtain rfl := e_.symm
        rw [ht]
        refine walk ?_
        refine s_eqstr rfl rfl (b := true) (decide_eq_true rfl) rfl ?_
        refine walk ?_
        refine s_call rfl (textP T (n := m)) rfl ?_
        rintro _ _ ⟨e_, rfl⟩
        obtain rfl := e_.symm
        rw [hm]
        refine walk ?_
        refine s_eqstr rfl rfl (b := true) (decide_eq_true rfl) rfl ?_
        refine walk ?_
        refine s_nestr rfl rfl (b := true) (by simp [h0]) rfl ?_
        refine walk ?_
        refine s_call rfl (works_spec T L) rfl ?_
        rintro _ _ ⟨e_, rfl⟩
        obtain rfl := e_.symm
        refine walk ?_
        (first | (apply retRD1 (G := H) (.inr rfl) rfl; (· first | (refine rv_tmp (v := .bool _) rfl) | exact rv_tmp rfl); (· exact Ent.auto)) | (apply retRD1 (G := H) (.inl rfl) rfl; (· first | (refine rv_tmp (v := .bool _) rfl) | exact rv_tmp rfl); (· exact Ent.auto)))
        exact ⟨Ent.refl _, rfl⟩
      · skip
        refine fn_intro 76 Tryd.func4 rfl rfl rfl ?_
        refine walk ?_
        refine s_slen rfl rfl ?_
        refine walk ?_
        refine s_call rfl (textP T (n := n)) rfl ?_
        rintro _ _ ⟨e_, rfl⟩
        obtain rfl := e_.symm
        refine walk ?_
        rw [ht]
        refine walk ?_
        refine s_call rfl (readP T L (s := s) (by omega)) rfl ?_
        rintro _ _ ⟨e_, rfl⟩
        obtain rfl := e_.symm
        rw [hRe]
        refine walk ?_
        refine s_call rfl (rReadP (s := s) (by omega)) rfl ?_
        rintro _ _ ⟨e_, rfl⟩
        obtain rfl := e_.symm
        rw [hRe]
        refine walk ?_
        refine s_call rfl (readP T L (s := t) (by omega)) rfl ?_
        rintro _ _ ⟨e_, rfl⟩
        obtain rfl := e_.symm
        rw [hTe]
        refine walk ?_
        refine s_call rfl (rTextP (n := n)) rfl ?_
        rintro _ _ ⟨e_, rfl⟩
        obtain rfl := e_.symm
        rw [ht]
        refine walk ?_
        refine s_eqstr rfl rfl (b := true) (decide_eq_true rfl) rfl ?_
        refine walk ?_
        refine s_call rfl (textP T (n := m)) rfl ?_
        rintro _ _ ⟨e_, rfl⟩
        obtain rfl := e_.symm
        rw [hm]
        refine walk ?_
        refine s_eqstr rfl rfl (b := true) (decide_eq_true rfl) rfl ?_
        refine walk ?_
        refine s_nestr rfl rfl (b := false) (by simp [h0]) rfl ?_
        refine walk ?_
        refine s_call rfl (works_spec T L) rfl ?_
        rintro _ _ ⟨e_, rfl⟩
        obtain rfl := e_.symm
        refine walk ?_
        (first | (apply retRD1 (G := H) (.inr rfl) rfl; (· first | (refine rv_tmp (v := .bool _) rfl) | exact rv_tmp rfl); (· exact Ent.auto)) | (apply retRD1 (G := H) (.inl rfl) rfl; (· first | (refine rv_tmp (v := .bool _) rfl) | exact rv_tmp rfl); (· exact Ent.auto)))
        exact ⟨Ent.refl _, rfl⟩
    · rcases hT with ⟨h0, hTe⟩ | ⟨h0, hTe⟩
      · have hne : (⟨t.toArray⟩ : ByteArray) ≠ ⟨#[]⟩ := fun e => h0 (by simpa using e)
        refine fn_intro 76 Tryd.func4 rfl rfl rfl ?_
        refine walk ?_
        refine s_slen rfl rfl ?_
        refine walk ?_
        refine s_call rfl (textP T (n := n)) rfl ?_
        rintro _ _ ⟨e_, rfl⟩
        obtain rfl := e_.symm
        refine walk ?_
        rw [ht]
        refine walk ?_
        refine s_call rfl (readP T L (s := s) (by omega)) rfl ?_
        rintro _ _ ⟨e_, rfl⟩
        obtain rfl := e_.symm
        rw [hRe]
        refine walk ?_
        refine s_call rfl (rReadP (s := s) (by omega)) rfl ?_
        rintro _ _ ⟨e_, rfl⟩
        obtain rfl := e_.symm
        rw [hRe]
        refine walk ?_
        refine s_call rfl (readP T L (s := t) (by omega)) rfl ?_
        rintro _ _ ⟨e_, rfl⟩
        obtain rfl := e_.symm
        rw [hTe]
        refine walk ?_
        refine s_call rfl (rTextP (n := n)) rfl ?_
        rintro _ _ ⟨e_, rfl⟩
        obtain rfl := e_.symm
        rw [ht]
        refine walk ?_
        refine s_eqstr rfl rfl (b := true) (decide_eq_true rfl) rfl ?_
        refine walk ?_
        refine s_nestr rfl rfl (b := true) (by simp [h0]) rfl ?_
        refine walk ?_
        refine s_call rfl (works_spec T L) rfl ?_
        rintro _ _ ⟨e_, rfl⟩
        obtain rfl := e_.symm
        refine walk ?_
        (first | (apply retRD1 (G := H) (.inr rfl) rfl; (· first | (refine rv_tmp (v := .bool _) rfl) | exact rv_tmp rfl); (· exact Ent.auto)) | (apply retRD1 (G := H) (.inl rfl) rfl; (· first | (refine rv_tmp (v := .bool _) rfl) | exact rv_tmp rfl); (· exact Ent.auto)))
        exact ⟨Ent.refl _, rfl⟩
      · skip
        refine fn_intro 76 Tryd.func4 rfl rfl rfl ?_
        refine walk ?_
        refine s_slen rfl rfl ?_
        refine walk ?_
        refine s_call rfl (textP T (n := n)) rfl ?_
        rintro _ _ ⟨e_, rfl⟩
        obtain rfl := e_.symm
        refine walk ?_
        rw [ht]
        refine walk ?_
        refine s_call rfl (readP T L (s := s) (by omega)) rfl ?_
        rintro _ _ ⟨e_, rfl⟩
        obtain rfl := e_.symm
        rw [hRe]
        refine walk ?_
        refine s_call rfl (rReadP (s := s) (by omega)) rfl ?_
        rintro _ _ ⟨e_, rfl⟩
        obtain rfl := e_.symm
        rw [hRe]
        refine walk ?_
        refine s_call rfl (readP T L (s := t) (by omega)) rfl ?_
        rintro _ _ ⟨e_, rfl⟩
        obtain rfl := e_.symm
        rw [hTe]
        refine walk ?_
        refine s_call rfl (rTextP (n := n)) rfl ?_
        rintro _ _ ⟨e_, rfl⟩
        obtain rfl := e_.symm
        rw [ht]
        refine walk ?_
        refine s_eqstr rfl rfl (b := true) (decide_eq_true rfl) rfl ?_
        refine walk ?_
        refine s_nestr rfl rfl (b := false) (by simp [h0]) rfl ?_
        refine walk ?_
        refine s_call rfl (works_spec T L) rfl ?_
        rintro _ _ ⟨e_, rfl⟩
        obtain rfl := e_.symm
        refine walk ?_
        (first | (apply retRD1 (G := H) (.inr rfl) rfl; (· first | (refine rv_tmp (v := .bool _) rfl) | exact rv_tmp rfl); (· exact Ent.auto)) | (apply retRD1 (G := H) (.inl rfl) rfl; (· first | (refine rv_tmp (v := .bool _) rfl) | exact rv_tmp rfl); (· exact Ent.auto)))
        exact ⟨Ent.refl _, rfl⟩
end
end Go.Proofs.YtkgddnelghkdnaaDoor
