/- The law on a config's texts. No condition. -/
import Derived.Test.YtoheplamhocloaaDoorCfLaw05a
import Derived.Test.YtoheplamhocloaaDoorCfRead05c
namespace Go.Proofs.YtoheplamhocloaaDoor
open Go Go.SL
set_option linter.unusedSimpArgs false
set_option linter.unusedVariables false
set_option maxRecDepth 10000
set_option maxHeartbeats 4000000
abbrev cvS (c : Cfg) : List Sc := [.int .i64 c.n, .int .i64 c.q, .int .i64 c.g, .int .i64 c.m, .int .i64 c.t, .int .i64 c.s]
attribute [local irreducible] WP WPL QSeq QBlk QRet Does Cell Cells Rd Mine Ent Aside RV Yield
section
variable {B : World} {F H G : HProp} {c : Cfg} {s : List UInt8}
theorem texts_law (T : Tab B) (L : LibOk B) : Does Tryd.prog B 6 [cfgV c, str s] H fun r H' => H' = H ∧ r = .bool true := by
  refine Does.frame0 ?_
  refine fn_intro 76 Tryd.func6 rfl rfl rfl ?_
  refine walk ?_
  refine s_box (cs := cv c) rfl rfl rfl ?_
  intro b
  refine walk ?_
  refine s_slen rfl rfl ?_
  by_cases hs : s.length ≤ 90
  · refine walk ?_
    refine s_call rfl (cText T (c := c)) rfl ?_
    rintro _ _ ⟨e_, rfl⟩
    obtain rfl := e_.symm
    refine walk ?_
    refine s_call rfl (cRead T L (s := s) (by omega)) rfl ?_
    rintro _ _ ⟨e_, rfl⟩
    obtain rfl := e_.symm
    refine walk ?_
    rcases hx : readC s with _ | x
    · unfold readV
      refine walk ?_
      refine s_alloc rfl ?_
      intro b6
      refine walk ?_
      refine s_storeV (vs := cv ⟨0, 0, 0, 0, 0, 0⟩) rfl rfl rfl rfl rfl ?_
      refine walk ?_
      refine s_call rfl (rRead (s := s) (by omega)) rfl ?_
      rintro _ _ ⟨e_, rfl⟩
      obtain rfl := e_.symm
      refine walk ?_
      rw [hx]
      simp only [readV]
      refine walk ?_
      refine s_alloc rfl ?_
      intro b8
      refine walk ?_
      refine s_storeV (vs := cv ⟨0, 0, 0, 0, 0, 0⟩) rfl rfl rfl rfl rfl ?_
      refine walk ?_
      (refine wp_draw [2, 3, 7, 21] (.look 0 (.look 1 (.act 2 (.act 3 (.look 4 (.look 5 (.look 6 (.look 8 (.act 7 (.look 9 (.look 10 (.look 11 (.look 12 (.look 13 (.look 14 (.look 15 (.look 16 (.look 17 (.look 18 (.look 19 (.look 20 (.look 22 (.act 21 (.look 23 (.look 24 (.look 25 .nil))) .stop)))))))))))))) .stop))))) .stop) .stop))) (by kernel_rfl) ?_; (apply dw_pure; (· exact rfl); (· exact rfl); (· (intro G; exact looked))); (apply dw_look; (· exact rfl); (· exact rfl); (· (exact looked))); skip)
      refine dw_do rfl rfl ?_ dw_stop
      refine s_call rfl (dConfig (c := c)) rfl ?_
      rintro _ _ ⟨e_, rfl⟩
      obtain rfl := e_.symm
      refine wpl_nil (qone ⟨(by refine st_past (by kernel_rfl) ?_; exact st_nil), ?_⟩)
      (skip)
      refine dw_do rfl rfl ?_ dw_stop
      refine s_call rfl (rText (c := c)) rfl ?_
      rintro _ _ ⟨e_, rfl⟩
      obtain rfl := e_.symm
      refine wpl_nil (qone ⟨(by refine st_past (by kernel_rfl) ?_; exact st_nil), ?_⟩)
      ((apply dw_pure; (· exact rfl); (· exact rfl); (· (intro G; refine s_nestr rfl rfl (b := false) (by simp) rfl ?_; exact looked))); (apply dw_pure; (· exact rfl); (· exact rfl); (· (intro G; exact looked))); (apply dw_look; (· exact rfl); (· exact rfl); (· (exact looked))); (apply dw_look; (· exact rfl); (· exact rfl); (· (exact looked))); skip)
      refine dw_do rfl rfl ?_ dw_stop
      refine step_wanted rfl rfl ?_
      refine s_call rfl (dConfig (c := ⟨0, 0, 0, 0, 0, 0⟩)) rfl ?_
      rintro _ _ ⟨e_, rfl⟩
      obtain rfl := e_.symm
      refine wpl_nil (qone ⟨(by (refine st_again ?_ ?_; (· exact looked)); refine st_past (by kernel_rfl) ?_; refine st_past (by kernel_rfl) ?_; exact st_nil), ?_⟩)
      ((apply dw_pure; (· exact rfl); (· exact rfl); (· (intro G; refine step_wanted rfl rfl ?_; (first | refine s_neqF (cvS ⟨0, 0, 0, 0, 0, 0⟩) (cvS ⟨0, 0, 0, 0, 0, 0⟩) (b := false) rfl rfl rfl rfl (by simp) rfl ?_ | refine s_neqF (cvS x) (cvS x) (b := false) rfl rfl rfl rfl (by simp) rfl ?_); exact looked))); (apply dw_pure; (· exact rfl); (· exact rfl); (· (intro G; exact looked))); (apply dw_pure; (· exact rfl); (· exact rfl); (· (intro G; exact looked))); (apply dw_pure; (· exact rfl); (· exact rfl); (· (intro G; exact looked))); (apply dw_pure; (· exact rfl); (· exact rfl); (· (intro G; exact looked))); (apply dw_pure; (· exact rfl); (· exact rfl); (· (intro G; exact looked))); (apply dw_pure; (· exact rfl); (· exact rfl); (· (intro G; exact looked))); (apply dw_pure; (· exact rfl); (· exact rfl); (· (intro G; exact looked))); (apply dw_pure; (· exact rfl); (· exact rfl); (· (intro G; exact looked))); (apply dw_pure; (· exact rfl); (· exact rfl); (· (intro G; exact looked))); (apply dw_pure; (· exact rfl); (· exact rfl); (· (intro G; exact looked))); (apply dw_look; (· exact rfl); (· exact rfl); (· (exact looked))); (apply dw_pure; (· exact rfl); (· exact rfl); (· (intro G; exact looked))); skip)
      refine dw_do rfl rfl ?_ dw_stop
      (first | refine step_unwanted rfl rfl rfl rfl ?_ | refine step_unwantedU rfl rfl rfl ?_ | refine step_unwanted0 rfl rfl rfl ?_ | refine step_unwantedU0 rfl rfl ?_)
      refine wpl_nil (qone ⟨(by refine st_past (by kernel_rfl) ?_; refine st_past (by kernel_rfl) ?_; refine st_past (by kernel_rfl) ?_; refine st_past (by kernel_rfl) ?_; exact st_nil), ?_⟩)
      ((apply dw_pure; (· exact rfl); (· exact rfl); (· (intro G; (first | (refine step_wanted rfl rfl ?_; refine s_nestr rfl rfl (b := false) (by rw [(readC_told hx).2]; simp) rfl ?_) | skip); exact looked))); (apply dw_pure; (· exact rfl); (· exact rfl); (· (intro G; exact looked))); (apply dw_pure; (· exact rfl); (· exact rfl); (· (intro G; exact looked))); refine dw_nil ?_; skip)
      refine walk ?_
      refine walk ?_
      refine s_call rfl (cRead T L (s := textC c) (by have := textC_len c; omega)) rfl ?_
      rintro _ _ ⟨e_, rfl⟩
      obtain rfl := e_.symm
      refine walk ?_
      by_cases hR : RightP c
      · rw [readC_some (s := textC c) (c := c) ⟨hR, rfl⟩]
        simp only [readV]
        refine walk ?_
        refine s_alloc rfl ?_
        intro b10
        refine walk ?_
        refine s_storeV (vs := cv c) rfl rfl rfl rfl rfl ?_
        refine walk ?_
        refine s_call rfl (cRight (c := c)) rfl ?_
        rintro _ _ ⟨e_, rfl⟩
        obtain rfl := e_.symm
        refine walk ?_
        rw [decide_eq_true hR]
        refine walk ?_
        refine s_eqlF (cvS c) (cvS c) (b := true) rfl rfl rfl rfl (decide_eq_true rfl) rfl ?_
        refine walk ?_
        refine s_call rfl (works_spec T) rfl ?_
        rintro _ _ ⟨e_, rfl⟩
        obtain rfl := e_.symm
        refine walk ?_
        (first | (apply retRD1 (G := H) (.inr rfl) rfl; (· first | (refine rv_tmp (v := .bool _) rfl) | exact rv_tmp rfl); (· exact Ent.auto)) | (apply retRD1 (G := H) (.inl rfl) rfl; (· first | (refine rv_tmp (v := .bool _) rfl) | exact rv_tmp rfl); (· exact Ent.auto)))
        exact ⟨Ent.refl _, rfl⟩
      · rw [text_wrong hR, readC_none (s := []) (fun h => by obtain ⟨d, hd⟩ := h; exact told_ne hd rfl)]
        simp only [readV]
        refine walk ?_
        refine s_alloc rfl ?_
        intro b10
        refine walk ?_
        refine s_storeV (vs := cv ⟨0, 0, 0, 0, 0, 0⟩) rfl rfl rfl rfl rfl ?_
        refine walk ?_
        refine s_call rfl (cRight (c := c)) rfl ?_
        rintro _ _ ⟨e_, rfl⟩
        obtain rfl := e_.symm
        refine walk ?_
        rw [decide_eq_false hR]
        refine walk ?_
        refine s_call rfl (works_spec T) rfl ?_
        rintro _ _ ⟨e_, rfl⟩
        obtain rfl := e_.symm
        refine walk ?_
        (first | (apply retRD1 (G := H) (.inr rfl) rfl; (· first | (refine rv_tmp (v := .bool _) rfl) | exact rv_tmp rfl); (· exact Ent.auto)) | (apply retRD1 (G := H) (.inl rfl) rfl; (· first | (refine rv_tmp (v := .bool _) rfl) | exact rv_tmp rfl); (· exact Ent.auto)))
        exact ⟨Ent.refl _, rfl⟩
    · have htd := readC_told hx
      simp only [readV]
      refine walk ?_
      refine s_alloc rfl ?_
      intro b6
      refine walk ?_
      refine s_storeV (vs := cv x) rfl rfl rfl rfl rfl ?_
      refine walk ?_
      refine s_call rfl (rRead (s := s) (by omega)) rfl ?_
      rintro _ _ ⟨e_, rfl⟩
      obtain rfl := e_.symm
      refine walk ?_
      rw [hx]
      simp only [readV]
      refine walk ?_
      refine s_alloc rfl ?_
      intro b8
      refine walk ?_
      refine s_storeV (vs := cv x) rfl rfl rfl rfl rfl ?_
      refine walk ?_
      (refine wp_draw [2, 3, 7, 21] (.look 0 (.look 1 (.act 2 (.act 3 (.look 4 (.look 5 (.look 6 (.look 8 (.act 7 (.look 9 (.look 10 (.look 11 (.look 12 (.look 13 (.look 14 (.look 15 (.look 16 (.look 17 (.look 18 (.look 19 (.look 20 (.look 22 (.act 21 (.look 23 (.look 24 (.look 25 .nil))) .stop)))))))))))))) .stop))))) .stop) .stop))) (by kernel_rfl) ?_; (apply dw_pure; (· exact rfl); (· exact rfl); (· (intro G; exact looked))); (apply dw_look; (· exact rfl); (· exact rfl); (· (exact looked))); skip)
      refine dw_do rfl rfl ?_ dw_stop
      refine s_call rfl (dConfig (c := c)) rfl ?_
      rintro _ _ ⟨e_, rfl⟩
      obtain rfl := e_.symm
      refine wpl_nil (qone ⟨(by refine st_past (by kernel_rfl) ?_; exact st_nil), ?_⟩)
      (skip)
      refine dw_do rfl rfl ?_ dw_stop
      refine s_call rfl (rText (c := c)) rfl ?_
      rintro _ _ ⟨e_, rfl⟩
      obtain rfl := e_.symm
      refine wpl_nil (qone ⟨(by refine st_past (by kernel_rfl) ?_; exact st_nil), ?_⟩)
      ((apply dw_pure; (· exact rfl); (· exact rfl); (· (intro G; refine s_nestr rfl rfl (b := false) (by simp) rfl ?_; exact looked))); (apply dw_pure; (· exact rfl); (· exact rfl); (· (intro G; exact looked))); (apply dw_look; (· exact rfl); (· exact rfl); (· (exact looked))); (apply dw_look; (· exact rfl); (· exact rfl); (· (exact looked))); skip)
      refine dw_do rfl rfl ?_ dw_stop
      refine step_wanted rfl rfl ?_
      refine s_call rfl (dConfig (c := x)) rfl ?_
      rintro _ _ ⟨e_, rfl⟩
      obtain rfl := e_.symm
      refine wpl_nil (qone ⟨(by (refine st_again ?_ ?_; (· exact looked)); refine st_past (by kernel_rfl) ?_; refine st_past (by kernel_rfl) ?_; exact st_nil), ?_⟩)
      ((apply dw_pure; (· exact rfl); (· exact rfl); (· (intro G; refine step_wanted rfl rfl ?_; (first | refine s_neqF (cvS ⟨0, 0, 0, 0, 0, 0⟩) (cvS ⟨0, 0, 0, 0, 0, 0⟩) (b := false) rfl rfl rfl rfl (by simp) rfl ?_ | refine s_neqF (cvS x) (cvS x) (b := false) rfl rfl rfl rfl (by simp) rfl ?_); exact looked))); (apply dw_pure; (· exact rfl); (· exact rfl); (· (intro G; exact looked))); (apply dw_pure; (· exact rfl); (· exact rfl); (· (intro G; exact looked))); (apply dw_pure; (· exact rfl); (· exact rfl); (· (intro G; exact looked))); (apply dw_pure; (· exact rfl); (· exact rfl); (· (intro G; exact looked))); (apply dw_pure; (· exact rfl); (· exact rfl); (· (intro G; exact looked))); (apply dw_pure; (· exact rfl); (· exact rfl); (· (intro G; exact looked))); (apply dw_pure; (· exact rfl); (· exact rfl); (· (intro G; exact looked))); (apply dw_pure; (· exact rfl); (· exact rfl); (· (intro G; exact looked))); (apply dw_pure; (· exact rfl); (· exact rfl); (· (intro G; exact looked))); (apply dw_pure; (· exact rfl); (· exact rfl); (· (intro G; exact looked))); (apply dw_look; (· exact rfl); (· exact rfl); (· (exact looked))); (apply dw_pure; (· exact rfl); (· exact rfl); (· (intro G; exact looked))); skip)
      refine dw_do rfl rfl ?_ dw_stop
      refine step_wanted rfl rfl ?_
      refine s_call rfl (cText T (c := x)) rfl ?_
      rintro _ _ ⟨e_, rfl⟩
      obtain rfl := e_.symm
      refine wpl_nil (qone ⟨(by refine st_past (by kernel_rfl) ?_; refine st_past (by kernel_rfl) ?_; refine st_past (by kernel_rfl) ?_; refine st_past (by kernel_rfl) ?_; exact st_nil), ?_⟩)
      ((apply dw_pure; (· exact rfl); (· exact rfl); (· (intro G; (first | (refine step_wanted rfl rfl ?_; refine s_nestr rfl rfl (b := false) (by rw [(readC_told hx).2]; simp) rfl ?_) | skip); exact looked))); (apply dw_pure; (· exact rfl); (· exact rfl); (· (intro G; exact looked))); (apply dw_pure; (· exact rfl); (· exact rfl); (· (intro G; exact looked))); refine dw_nil ?_; skip)
      refine walk ?_
      refine walk ?_
      refine s_call rfl (cRead T L (s := textC c) (by have := textC_len c; omega)) rfl ?_
      rintro _ _ ⟨e_, rfl⟩
      obtain rfl := e_.symm
      refine walk ?_
      by_cases hR : RightP c
      · rw [readC_some (s := textC c) (c := c) ⟨hR, rfl⟩]
        simp only [readV]
        refine walk ?_
        refine s_alloc rfl ?_
        intro b10
        refine walk ?_
        refine s_storeV (vs := cv c) rfl rfl rfl rfl rfl ?_
        refine walk ?_
        refine s_call rfl (cRight (c := c)) rfl ?_
        rintro _ _ ⟨e_, rfl⟩
        obtain rfl := e_.symm
        refine walk ?_
        rw [decide_eq_true hR]
        refine walk ?_
        refine s_eqlF (cvS c) (cvS c) (b := true) rfl rfl rfl rfl (decide_eq_true rfl) rfl ?_
        refine walk ?_
        refine s_call rfl (works_spec T) rfl ?_
        rintro _ _ ⟨e_, rfl⟩
        obtain rfl := e_.symm
        refine walk ?_
        (first | (apply retRD1 (G := H) (.inr rfl) rfl; (· first | (refine rv_tmp (v := .bool _) rfl) | exact rv_tmp rfl); (· exact Ent.auto)) | (apply retRD1 (G := H) (.inl rfl) rfl; (· first | (refine rv_tmp (v := .bool _) rfl) | exact rv_tmp rfl); (· exact Ent.auto)))
        exact ⟨Ent.refl _, rfl⟩
      · rw [text_wrong hR, readC_none (s := []) (fun h => by obtain ⟨d, hd⟩ := h; exact told_ne hd rfl)]
        simp only [readV]
        refine walk ?_
        refine s_alloc rfl ?_
        intro b10
        refine walk ?_
        refine s_storeV (vs := cv ⟨0, 0, 0, 0, 0, 0⟩) rfl rfl rfl rfl rfl ?_
        refine walk ?_
        refine s_call rfl (cRight (c := c)) rfl ?_
        rintro _ _ ⟨e_, rfl⟩
        obtain rfl := e_.symm
        refine walk ?_
        rw [decide_eq_false hR]
        refine walk ?_
        refine s_call rfl (works_spec T) rfl ?_
        rintro _ _ ⟨e_, rfl⟩
        obtain rfl := e_.symm
        refine walk ?_
        (first | (apply retRD1 (G := H) (.inr rfl) rfl; (· first | (refine rv_tmp (v := .bool _) rfl) | exact rv_tmp rfl); (· exact Ent.auto)) | (apply retRD1 (G := H) (.inl rfl) rfl; (· first | (refine rv_tmp (v := .bool _) rfl) | exact rv_tmp rfl); (· exact Ent.auto)))
        exact ⟨Ent.refl _, rfl⟩
  · refine walk ?_
    refine s_call rfl (works_spec T) rfl ?_
    rintro _ _ ⟨e_, rfl⟩
    obtain rfl := e_.symm
    refine walk ?_
    (first | (apply retRD1 (G := H) (.inr rfl) rfl; (· first | (refine rv_tmp (v := .bool _) rfl) | exact rv_tmp rfl); (· exact Ent.auto)) | (apply retRD1 (G := H) (.inl rfl) rfl; (· first | (refine rv_tmp (v := .bool _) rfl) | exact rv_tmp rfl); (· exact Ent.auto)))
    exact ⟨Ent.refl _, rfl⟩
end
end Go.Proofs.YtoheplamhocloaaDoor
