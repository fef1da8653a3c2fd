/- The table: are two alike? No condition. -/
import Derived.Test.YtnfipmbmknlmpaaTTab6
namespace Go.Proofs.Ytnfipmbmknlmpaa
open Go Go.SL
set_option linter.unusedSimpArgs false
set_option linter.unusedVariables false
set_option maxRecDepth 10000
attribute [local irreducible] WP WPL QSeq QBlk QRet Does Cell Cells Rd Own Ent Aside RV TabX TabAt

/-- Are two tables alike? -/
def sameTab (T U : Tab) : Bool := if T.all.length = 0 ∨ U.all.length = 0 then decide (T.all.length = U.all.length) else decide (T.all = U.all ∧ T.row = U.row)
section
variable {B : World} {F H : HProp} {p q : Nat} {T U : Tab}

theorem same_nn : Does Try.prog B 23 [.pointer none, .pointer none] F fun r H' => F = H' ∧ r = .bool true := by
  refine fn_intro 38 Try.func23 rfl rfl rfl ?_
  refine walk ?_
  refine s_call rfl len_nil rfl ?_
  rintro _ _ ⟨rfl, rfl⟩
  refine walk ?_
  refine s_call rfl len_nil rfl ?_
  rintro _ _ ⟨rfl, rfl⟩
  refine walk ?_
  refine s_call rfl len_nil rfl ?_
  rintro _ _ ⟨rfl, rfl⟩
  refine walk ?_
  exact ret1 (v := .bool _) (.inr rfl) rfl rfl ⟨rfl, rfl⟩
theorem same_nt : Does Try.prog B 23 [.pointer none, .pointer (some ⟨q, 0, none⟩)] (TabAt q U + F) fun r H' => Ent H' (TabAt q U + F) ∧ r = .bool (decide (U.all.length = 0)) := by
  refine Does.tabRead fun ao cap fo cap2 hf => ?_
  refine fn_intro 38 Try.func23 rfl rfl rfl ?_
  refine walk ?_
  refine s_call rfl len_nil rfl ?_
  rintro _ _ ⟨rfl, rfl⟩
  refine walk ?_
  refine s_call rfl len_nil rfl ?_
  rintro _ _ ⟨rfl, rfl⟩
  refine walk ?_
  refine s_call rfl len_g rfl ?_
  rintro _ _ ⟨rfl, rfl⟩
  by_cases h : U.all.length = 0
  · refine walk ?_
    exact ret1 (v := .bool _) (.inr rfl) rfl rfl ⟨rfl, by simp [h]⟩
  · refine walk ?_
    exact ret1 (v := .bool _) (.inr rfl) rfl rfl ⟨rfl, by simp [h]⟩
theorem same_tt : Does Try.prog B 23 [.pointer (some ⟨p, 0, none⟩), .pointer (some ⟨q, 0, none⟩)] (TabAt p T + (TabAt q U + F)) fun r H' => Ent H' (TabAt p T + (TabAt q U + F)) ∧ r = .bool (sameTab T U) := by
  refine Does.tab fun ao cap fo cap2 hf => ?_
  have hac : TabX p T ao cap fo cap2 + (TabAt q U + F) = TabAt q U + (TabX p T ao cap fo cap2 + F) := by ac_rfl
  rw [hac]
  refine Does.tab fun ao2 cp2 fo2 cp3 hf2 => ?_
  have hclose : Ent (TabX q U ao2 cp2 fo2 cp3 + (TabX p T ao cap fo cap2 + F)) (TabAt p T + (TabAt q U + F)) := by
    refine tab_close.trans (Ent.trans (Ent.ac hac.symm) tab_close)
  refine Does.mono (R := fun r H' => TabX q U ao2 cp2 fo2 cp3 + (TabX p T ao cap fo cap2 + F) = H' ∧ r = .bool (sameTab T U)) ?_ ?_
  rotate_left
  · rintro r H' ⟨rfl, h⟩
    exact ⟨hclose, h⟩
  have hT1 : Rd B (TabX q U ao2 cp2 fo2 cp3 + (TabX p T ao cap fo cap2 + F)) 2 (.slice ao T.all.length cap) T.all.length (goros T.all) := hf.rd1.ent ((Ent.drop_left _ _).trans (Ent.drop_right _ _))
  have hU1 : Rd B (TabX q U ao2 cp2 fo2 cp3 + (TabX p T ao cap fo cap2 + F)) 2 (.slice ao2 U.all.length cp2) U.all.length (goros U.all) := hf2.rd1.ent (Ent.drop_right _ _)
  have hT2 : Rd B (TabX q U ao2 cp2 fo2 cp3 + (TabX p T ao cap fo cap2 + F)) 1 (.slice fo T.row.length cap2) T.row.reverse.length (zs T.row.reverse) := by rw [List.length_reverse]; exact hf.rd2.ent ((Ent.drop_left _ _).trans (Ent.drop_right _ _))
  have hU2 : Rd B (TabX q U ao2 cp2 fo2 cp3 + (TabX p T ao cap fo cap2 + F)) 1 (.slice fo2 U.row.length cp3) U.row.reverse.length (zs U.row.reverse) := by rw [List.length_reverse]; exact hf2.rd2.ent (Ent.drop_right _ _)
  refine fn_intro 38 Try.func23 rfl rfl rfl ?_
  refine walk ?_
  refine s_call rfl len_g rfl ?_
  rintro _ _ ⟨rfl, rfl⟩
  by_cases h1 : T.all.length = 0
  · refine walk ?_
    refine s_call rfl len_g rfl ?_
    rintro _ _ ⟨rfl, rfl⟩
    refine walk ?_
    refine s_call rfl len_g rfl ?_
    rintro _ _ ⟨rfl, rfl⟩
    by_cases h : T.all.length = U.all.length
    · refine walk ?_
      exact ret1 (v := .bool _) (.inr rfl) rfl rfl ⟨rfl, by unfold sameTab; rw [if_pos (.inl h1), decide_eq_true h]⟩
    · refine walk ?_
      exact ret1 (v := .bool _) (.inr rfl) rfl rfl ⟨rfl, by unfold sameTab; rw [if_pos (.inl h1), decide_eq_false h]⟩
  · refine walk ?_
    refine s_call rfl len_g rfl ?_
    rintro _ _ ⟨rfl, rfl⟩
    by_cases h2 : U.all.length = 0
    · refine walk ?_
      refine s_call rfl len_g rfl ?_
      rintro _ _ ⟨rfl, rfl⟩
      refine walk ?_
      refine s_call rfl len_g rfl ?_
      rintro _ _ ⟨rfl, rfl⟩
      refine walk ?_
      exact ret1 (v := .bool _) (.inr rfl) rfl rfl ⟨rfl, by unfold sameTab; rw [if_pos (.inr h2), decide_eq_false (by omega)]⟩
    · have hs : sameTab T U = decide (T.all = U.all ∧ T.row = U.row) := by unfold sameTab; rw [if_neg (by omega)]
      refine walk ?_
      by_cases h3 : T.all = U.all
      · (refine wp_draw [8, 18] (.look 0 (.look 1 (.look 2 (.look 3 (.look 4 (.look 5 (.look 6 (.look 7 (.act 8 (.look 9 (.look 10 (.look 11 (.look 12 (.look 13 (.look 14 (.look 15 (.look 16 (.look 17 (.act 18 (.look 19 (.look 20 .nil)) .stop)))))))))) .stop))))))))) (by kernel_rfl) ?_; (apply dw_pure; (· exact rfl); (· exact rfl); (· (intro G; exact looked))); (apply dw_pure; (· exact rfl); (· exact rfl); (· (intro G; exact looked))); (apply dw_pure; (· exact rfl); (· exact rfl); (· (intro G; exact looked))); (apply dw_look; (· exact rfl); (· exact rfl); (· exact looked)); (apply dw_pure; (· exact rfl); (· exact rfl); (· (intro G; exact looked))); (apply dw_pure; (· exact rfl); (· exact rfl); (· (intro G; exact looked))); (apply dw_pure; (· exact rfl); (· exact rfl); (· (intro G; exact looked))); (apply dw_look; (· exact rfl); (· exact rfl); (· exact looked)); skip)
        refine dw_do rfl rfl ?_ dw_stop
        refine s_call rfl (equalGoros_spec hT1 hU1) rfl ?_
        rintro _ _ ⟨rfl, rfl⟩
        rw [decide_eq_true h3]
        refine wpl_nil (qone ⟨(by refine st_past (by kernel_rfl) ?_; refine st_past (by kernel_rfl) ?_; exact st_nil), ?_⟩)
        ((apply dw_pure; (· exact rfl); (· exact rfl); (· (intro G; exact looked))); (apply dw_pure; (· exact rfl); (· exact rfl); (· (intro G; exact looked))); (apply dw_pure; (· exact rfl); (· exact rfl); (· (intro G; exact looked))); (apply dw_pure; (· exact rfl); (· exact rfl); (· (intro G; exact looked))); (apply dw_look; (· exact rfl); (· exact rfl); (· exact looked)); (apply dw_pure; (· exact rfl); (· exact rfl); (· (intro G; exact looked))); (apply dw_pure; (· exact rfl); (· exact rfl); (· (intro G; exact looked))); (apply dw_pure; (· exact rfl); (· exact rfl); (· (intro G; exact looked))); (apply dw_look; (· exact rfl); (· exact rfl); (· exact looked)); skip)
        refine dw_do rfl rfl ?_ dw_stop
        refine walk ?_
        refine s_call rfl (equalInts_spec hT2 hU2) rfl ?_
        rintro _ _ ⟨rfl, rfl⟩
        refine wpl_nil (qone ⟨(by refine st_past (by kernel_rfl) ?_; refine st_past (by kernel_rfl) ?_; refine st_past (by kernel_rfl) ?_; refine st_past (by kernel_rfl) ?_; exact st_nil), ?_⟩)
        ((apply dw_pure; (· exact rfl); (· exact rfl); (· (intro G; exact looked))); (apply dw_pure; (· exact rfl); (· exact rfl); (· (intro G; exact looked))); refine dw_nil ?_; skip)
        refine walk ?_
        exact ret1 (v := .bool _) (.inr rfl) rfl rfl ⟨rfl, by rw [hs]; simp [h3]⟩
      · (refine wp_draw [8] (.look 0 (.look 1 (.look 2 (.look 3 (.look 4 (.look 5 (.look 6 (.look 7 (.act 8 (.look 9 (.look 10 (.look 11 (.look 12 (.look 13 (.look 14 (.look 15 (.look 16 (.look 17 (.look 18 (.look 19 (.look 20 .nil)))))))))))) .stop))))))))) (by kernel_rfl) ?_; (apply dw_pure; (· exact rfl); (· exact rfl); (· (intro G; exact looked))); (apply dw_pure; (· exact rfl); (· exact rfl); (· (intro G; exact looked))); (apply dw_pure; (· exact rfl); (· exact rfl); (· (intro G; exact looked))); (apply dw_look; (· exact rfl); (· exact rfl); (· exact looked)); (apply dw_pure; (· exact rfl); (· exact rfl); (· (intro G; exact looked))); (apply dw_pure; (· exact rfl); (· exact rfl); (· (intro G; exact looked))); (apply dw_pure; (· exact rfl); (· exact rfl); (· (intro G; exact looked))); (apply dw_look; (· exact rfl); (· exact rfl); (· exact looked)); skip)
        refine dw_do rfl rfl ?_ dw_stop
        refine s_call rfl (equalGoros_spec hT1 hU1) rfl ?_
        rintro _ _ ⟨rfl, rfl⟩
        rw [decide_eq_false h3]
        refine wpl_nil (qone ⟨(by refine st_past (by kernel_rfl) ?_; refine st_past (by kernel_rfl) ?_; exact st_nil), ?_⟩)
        ((apply dw_pure; (· exact rfl); (· exact rfl); (· (intro G; exact looked))); (apply dw_pure; (· exact rfl); (· exact rfl); (· (intro G; exact looked))); (apply dw_pure; (· exact rfl); (· exact rfl); (· (intro G; exact looked))); (apply dw_pure; (· exact rfl); (· exact rfl); (· (intro G; exact looked))); (apply dw_look; (· exact rfl); (· exact rfl); (· exact looked)); (apply dw_pure; (· exact rfl); (· exact rfl); (· (intro G; exact looked))); (apply dw_pure; (· exact rfl); (· exact rfl); (· (intro G; exact looked))); (apply dw_pure; (· exact rfl); (· exact rfl); (· (intro G; exact looked))); (apply dw_look; (· exact rfl); (· exact rfl); (· exact looked)); (apply dw_pure; (· exact rfl); (· exact rfl); (· (intro G; exact looked))); (apply dw_pure; (· exact rfl); (· exact rfl); (· (intro G; exact looked))); (apply dw_pure; (· exact rfl); (· exact rfl); (· (intro G; exact looked))); refine dw_nil ?_; skip)
        refine walk ?_
        exact ret1 (v := .bool _) (.inr rfl) rfl rfl ⟨rfl, by rw [hs]; simp [h3]⟩
end
end Go.Proofs.Ytnfipmbmknlmpaa
