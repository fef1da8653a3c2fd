/- The table: copying it, comparing two. No condition. -/
import Derived.Test.YtlhnmbajbhaaoaaIdTab5
namespace Go.Proofs.Ytlhnmbajbhaaoaa
open Go Go.SL
set_option linter.unusedSimpArgs false
set_option linter.unusedVariables false
set_option maxRecDepth 10000
attribute [local irreducible] WP WPL QSeq QBlk QRet Does Cell Cells Rd Mine Ent Aside RV

section
variable {B : World} {F H : HProp} {p : Nat} {T : Tab}

/-- A copy of a row of goroutines. -/
theorem cloneGoros_spec {s : Value} {m : Nat} {cs : List Value} (hs : Rd B H 2 s m cs) (h1 : cs.all Value.oneCell' = true) (hb : m ≤ 1000000000000) :
    Does Try.prog B 79 [s] H (fun r H' => Ent H' (Mine 90 2 r m cs + H)) := by
  have hs' := hs
  unfold Rd at hs
  obtain ⟨ao, cap, rfl, hl, hm, hc⟩ := hs
  refine fn_intro 8 Try.func79 rfl rfl rfl ?_
  cases ao with
  | none =>
    have : cs = [] := by
      rcases hc with h | ⟨b, o, h, _⟩
      · exact h
      · cases h
    subst this
    have : m = 0 := by simp at hl; omega
    subst this
    refine walk ?_
    refine s_eqnilS rfl rfl (b := true) rfl rfl ?_
    refine walk ?_
    refine ret1 (v := .slice none 0 0) (.inr rfl) rfl rfl ?_
    rw [Mine.nil, HProp.emp_add]; exact Ent.refl _
  | some a =>
    refine walk ?_
    refine s_eqnilS rfl rfl (b := false) rfl rfl ?_
    refine walk ?_
    refine s_buildSlice (cs := []) rfl ?_ rfl ?_
    · simp [Instr.fill]
    intro b
    refine walk ?_
    refine WPL.ent ((Mine.of_blk (sz := 2) (n := 0) (cap := 0) (cs := []) (spare := []) rfl rfl (Nat.le_refl _) (by simp [maxLen]) rfl).frame_right _) ?_
    refine s_append (v := .slice _ _ _) rfl rfl hs' h1 rfl ?_ rfl ?_
    · simp only [maxLen]; omega
    intro v'
    simp only [Nat.zero_add, List.nil_append]
    refine walk ?_
    exact ret1 (.inr rfl) rfl rfl (Ent.refl _)

/-- Behind k swaps. -/
structure Swapped (xs : List Int) (k : Nat) (l : List Int) : Prop where
  len : l.length = xs.length
  at_ : ∀ t, t < xs.length → l.getD t 0 = if t < k ∨ xs.length ≤ t + k then xs.getD (xs.length - 1 - t) 0 else xs.getD t 0
theorem Swapped.next {xs : List Int} {k : Nat} {l : List Int} (h : Swapped xs k l) (hk : k < xs.length - 1 - k) : Swapped xs (k + 1) ((l.set k (l.getD (xs.length - 1 - k) 0)).set (xs.length - 1 - k) (l.getD k 0)) := by
  have hl := h.len
  refine ⟨by simp [hl], fun t ht => ?_⟩
  have e1 := h.at_ k (by omega)
  have e2 := h.at_ (xs.length - 1 - k) (by omega)
  have e3 := h.at_ t ht
  rw [if_neg (by omega)] at e1 e2
  simp only [List.getD_eq_getElem?_getD, List.getElem?_set, List.length_set, hl] at *
  by_cases h1 : t = xs.length - 1 - k
  · subst h1
    rw [if_pos rfl, if_pos (by omega), if_pos (by omega)]
    simp only [Option.getD_some]
    rw [e1, show xs.length - 1 - (xs.length - 1 - k) = k by omega]
  · rw [if_neg (by omega)]
    by_cases h2 : t = k
    · subst h2
      rw [if_pos rfl, if_pos (by omega), if_pos (by omega)]
      simp only [Option.getD_some]
      rw [e2]
    · rw [if_neg (by omega), e3]
      by_cases h3 : t < k ∨ xs.length ≤ t + k
      · rw [if_pos h3, if_pos (by omega)]
      · rw [if_neg h3, if_neg (by omega)]
theorem Swapped.done {xs : List Int} {k : Nat} {l : List Int} (h : Swapped xs k l) (hk : ¬ k < xs.length - 1 - k) : l = xs.reverse := by
  have hl := h.len
  apply List.ext_getElem
  · simp [hl]
  · intro t h1 h2
    have ht : t < xs.length := by omega
    have e := h.at_ t ht
    simp only [List.getD_eq_getElem?_getD, List.getElem?_eq_getElem h1, Option.getD_some] at e
    rw [e, List.getElem_reverse]
    rw [List.getElem?_eq_getElem (show xs.length - 1 - t < xs.length by omega), List.getElem?_eq_getElem ht]
    simp only [Option.getD_some]
    split
    · rfl
    · have : t = xs.length - 1 - t := by omega
      congr 1
theorem reverse_spec {ao : Option Addr} {cap : Nat} {xs : List Int} (hx : xs.length ≤ 1000000000000) : Does Try.prog B 81 [.slice ao xs.length cap] (Mine 3 1 (.slice ao xs.length cap) xs.length (zs xs) + F) fun r H' => Ent H' (Mine 3 1 (.slice ao xs.length cap) xs.length (zs xs.reverse) + F) := by
  by_cases h0 : xs.length = 0
  · have : xs = [] := by simpa using h0
    subst this
    refine fn_intro 28 Try.func81 rfl rfl rfl ?_
    refine walk ?_
    refine wp_loopF (α := Unit) [2, 3, 7, 8, 9, 10, 11, 12, 13, 14, 15, 16, 17, 18, 19, 20, 21, 22, 23, 24, 25, 26, 27] (fun x => [(2, .int .i64 0), (3, .int .i64 (-1))]) (fun x => Mine 3 1 (.slice ao 0 cap) 0 (zs []) + F) (fun x => True) (fun x => 0) () agreed (Ent.refl _) trivial ?_
    rintro _ g _
    simp only [putAll]
    refine walk ?_
    exact ret0 (.inl rfl) rfl (Ent.refl _)
  · refine Does.shape fun _ _ hv _ hc1 hc2 => ?_
    cases hv
    refine Does.open (by omega) ?_
    rintro b sp rfl hsp
    have hlz := zs_length xs
    refine fn_intro 28 Try.func81 rfl rfl rfl ?_
    refine walk ?_
    refine wp_loopF (α := Nat × List Int) [2, 3, 7, 8, 9, 10, 11, 12, 13, 14, 15, 16, 17, 18, 19, 20, 21, 22, 23, 24, 25, 26, 27] (fun x => [(2, .int .i64 x.1), (3, .int .i64 ((xs.length - 1 - x.1 : Nat) : Int))]) (fun x => blk b (zs x.2 ++ sp) 3 + F) (fun x => x.1 ≤ xs.length - x.1 ∧ Swapped xs x.1 x.2) (fun x => xs.length - x.1) (0, xs) agreed (Ent.refl _) ⟨by omega, rfl, fun t ht => by rw [if_neg (by omega)]⟩ ?_
    rintro ⟨k, l⟩ g ⟨hk, hsw⟩
    simp only at hk hsw
    simp only [putAll]
    have hl := hsw.len
    by_cases hlt : k < xs.length - 1 - k
    · have hc1 : Cell B (blk b (zs l ++ sp) 3 + F) b k (.int .i64 (l.getD k 0)) := Cell.blk (by
        rw [List.getElem?_append_left (by rw [zs_length]; omega), zs_get l k (by omega)]; simp [List.getD_eq_getElem?_getD, show k < l.length by omega])
      have hc2 : Cell B (blk b (zs l ++ sp) 3 + F) b (xs.length - 1 - k) (.int .i64 (l.getD (xs.length - 1 - k) 0)) := Cell.blk (by
        rw [List.getElem?_append_left (by rw [zs_length]; omega), zs_get l (xs.length - 1 - k) (by omega)]; simp [List.getD_eq_getElem?_getD, show xs.length - 1 - k < l.length by omega])
      refine walk ?_
      (refine wp_draw [13, 15] (.look 0 (.look 1 (.look 2 (.look 3 (.look 4 (.look 5 (.look 6 (.look 7 (.look 8 (.look 9 (.look 10 (.look 11 (.look 12 (.act 13 (.look 14 (.act 15 .nil .stop)) .stop)))))))))))))) (by kernel_rfl) ?_; (apply dw_pure; (· exact rfl); (· exact rfl); (· (intro G; exact looked))); (apply dw_pure; (· exact rfl); (· exact rfl); (· (intro G; exact looked))); (apply dw_pure; (· exact rfl); (· exact rfl); (· (intro G; exact looked))); (apply dw_pure; (· exact rfl); (· exact rfl); (· (intro G; exact looked))); (apply dw_pure; (· exact rfl); (· exact rfl); (· (intro G; exact looked))); (apply dw_pure; (· exact rfl); (· exact rfl); (· (intro G; exact looked))); (apply dw_pure; (· exact rfl); (· exact rfl); (· (intro G; exact looked))); (apply dw_look; (· exact rfl); (· exact rfl); (· (exact looked))); (apply dw_pure; (· exact rfl); (· exact rfl); (· (intro G; exact looked))); (apply dw_pure; (· exact rfl); (· exact rfl); (· (intro G; exact looked))); (apply dw_pure; (· exact rfl); (· exact rfl); (· (intro G; exact looked))); (apply dw_look; (· exact rfl); (· exact rfl); (· (exact looked))); (apply dw_pure; (· exact rfl); (· exact rfl); (· (intro G; exact looked))); skip)
      refine dw_do0 rfl rfl ?_ dw_stop
      refine s_store (v := .int _ _) (cs' := zs (l.set k (l.getD (xs.length - 1 - k) 0)) ++ sp) rfl rfl rfl (by simp [zs_length]; omega) ?_ ?_
      · rw [List.set_append_left _ _ (by rw [zs_length]; omega)]; simp [zs, List.map_set]
      refine wpl_nil (qone0 ⟨(by refine st_past (by kernel_rfl) ?_; refine st_past (by kernel_rfl) ?_; exact st_nil), ?_⟩)
      ((apply dw_pure; (· exact rfl); (· exact rfl); (· (intro G; exact looked))); skip)
      refine dw_do0 rfl rfl ?_ dw_stop
      refine s_store (v := .int _ _) (cs' := zs ((l.set k (l.getD (xs.length - 1 - k) 0)).set (xs.length - 1 - k) (l.getD k 0)) ++ sp) rfl rfl rfl (by simp [zs_length]; omega) ?_ ?_
      · rw [List.set_append_left _ _ (by rw [zs_length]; simp; omega)]; simp [zs, List.map_set]
      refine wpl_nil (qone0 ⟨(by refine st_past (by kernel_rfl) ?_; refine st_past (by kernel_rfl) ?_; exact st_nil), ?_⟩)
      (refine dw_nil ?_; skip)
      refine walk ?_
      exact ⟨(k + 1, _), asided, agreed, Ent.refl _, ⟨by simp only; omega, hsw.next hlt⟩, by simp only; omega⟩
    · refine walk ?_
      have := hsw.done hlt
      subst this
      refine ret0 (.inl rfl) rfl ?_
      exact (Mine.of_blk (spare := sp) rfl (by simp [zs_length]) hc1 hc2 (by simpa [zs_length] using hsp)).frame_right F

theorem row_nil : Does Try.prog B 40 [.pointer none] F fun r H' => F = H' ∧ r = .slice none 0 0 := by
  refine fn_intro 14 Try.func40 rfl rfl rfl ?_
  refine walk ?_
  exact ret1 (v := .slice _ _ _) (.inr rfl) rfl rfl ⟨rfl, rfl⟩
theorem row_spec (hl : T.row.length ≤ 1000000) : Does Try.prog B 40 [.pointer (some ⟨p, 0, none⟩)] (TabAt p T + F) fun r H' => ∃ X, Ent H' (X + (TabAt p T + F)) ∧ X = Mine 3 1 r T.row.length (zs T.row) := by
  refine Does.tabNew fun ao cap fo cap2 hf => ?_
  have hrd := hf.rd2
  refine fn_intro 14 Try.func40 rfl rfl rfl ?_
  refine walk ?_
  refine s_call rfl (cloneInts_spec (H := TabX p T ao cap fo cap2 + F) (hrd.ent (Ent.drop_right _ _)) (zs_one _) (by omega)) rfl ?_
  rintro v H' he
  refine WPL.ent he (WPL.shape ?_)
  rintro ao' cap' rfl _ _ _
  refine walk ?_
  have hrl : T.row.reverse.length = T.row.length := by simp
  have hrev := reverse_spec (B := B) (F := TabX p T ao cap fo cap2 + F) (ao := ao') (cap := cap') (xs := T.row.reverse) (by omega)
  rw [hrl, List.reverse_reverse] at hrev
  refine s_call rfl hrev rfl ?_
  rintro _ H' he
  refine WPL.ent he ?_
  refine walk ?_
  exact ret1 (v := .slice _ _ _) (.inr rfl) rfl rfl ⟨_, Ent.refl _, rfl⟩
theorem copy_nil : Does Try.prog B 32 [.pointer none] F fun r H' => F = H' ∧ r = .pointer none := by
  refine fn_intro 17 Try.func32 rfl rfl rfl ?_
  refine walk ?_
  exact ret1 (v := .pointer _) (.inr rfl) rfl rfl ⟨rfl, rfl⟩
theorem copy_spec (h1 : T.all.length ≤ 256) (hl : T.row.length ≤ 1000000) : Does Try.prog B 32 [.pointer (some ⟨p, 0, none⟩)] (TabAt p T + F) fun r H' => ∃ X, Ent H' (X + (TabAt p T + F)) ∧ ∃ q, r = .pointer (some ⟨q, 0, none⟩) ∧ X = TabAt q T := by
  refine Does.tabNew fun ao cap fo cap2 hf => ?_
  have hrd1 := hf.rd1
  have hrd2 := hf.rd2
  refine fn_intro 17 Try.func32 rfl rfl rfl ?_
  refine walk ?_
  (refine wp_draw [4, 9, 11] (.look 0 (.look 1 (.look 2 (.look 3 (.look 5 (.look 6 (.look 7 (.look 8 (.act 4 (.act 9 (.look 10 (.act 11 (.look 12 .nil) .stop)) .stop) .stop))))))))) (by kernel_rfl) ?_; (apply dw_pure; (· exact rfl); (· exact rfl); (· (intro G; exact looked))); (apply dw_pure; (· exact rfl); (· exact rfl); (· (intro G; exact looked))); (apply dw_pure; (· exact rfl); (· exact rfl); (· (intro G; exact looked))); (apply dw_look; (· exact rfl); (· exact rfl); (· (exact looked))); (apply dw_pure; (· exact rfl); (· exact rfl); (· (intro G; exact looked))); (apply dw_pure; (· exact rfl); (· exact rfl); (· (intro G; exact looked))); (apply dw_pure; (· exact rfl); (· exact rfl); (· (intro G; exact looked))); (apply dw_look; (· exact rfl); (· exact rfl); (· (exact looked))); skip)
  refine dw_do rfl rfl ?_ dw_stop
  refine s_call rfl (cloneGoros_spec (H := TabX p T ao cap fo cap2 + F) (hrd1.ent (Ent.drop_right _ _)) (goros_one _) (by omega)) rfl ?_
  rintro v H' he
  refine WPL.ent he (WPL.shape ?_)
  rintro ao' cap' rfl _ _ _
  refine wpl_nil (qone ⟨(by (refine st_again ?_ ?_; (· exact looked)); refine st_past (by kernel_rfl) ?_; exact st_nil), ?_⟩)
  (skip)
  refine dw_do rfl rfl ?_ dw_stop
  refine s_call rfl (cloneInts_spec (H := Mine 90 2 (.slice ao' T.all.length cap') T.all.length (goros T.all) + (TabX p T ao cap fo cap2 + F)) (hrd2.ent ((Ent.drop_left _ _).trans (Ent.drop_right _ _))) (zs_one _) (by omega)) rfl ?_
  rintro v H' he
  refine WPL.ent he (WPL.shape ?_)
  rintro fo' cap2' rfl _ _ _
  refine wpl_nil (qone ⟨(by refine st_past (by kernel_rfl) ?_; refine st_past (by kernel_rfl) ?_; exact st_nil), ?_⟩)
  apply dw_pure
  · exact rfl
  · exact rfl
  · intro G
    refine s_build (cs := [.slice ao' T.all.length cap', .slice fo' T.row.length cap2']) rfl rfl ?_
    refine wpl_nil ?_
    exact qone_q
  refine dw_do rfl rfl ?_ dw_stop
  refine s_box rfl rfl rfl ?_
  intro q
  refine wpl_nil (qone ⟨(by refine st_past (by kernel_rfl) ?_; refine st_past (by kernel_rfl) ?_; exact st_nil), ?_⟩)
  ((apply dw_pure; (· exact rfl); (· exact rfl); (· (intro G; exact looked))); refine dw_nil ?_; skip)
  refine walk ?_
  refine ret1 (v := .pointer _) (.inr rfl) rfl rfl ⟨_, ?_, q, rfl, rfl⟩
  refine Ent.trans ?_ (tab_close (ao := ao') (cap := cap') (fo := fo') (cap2 := cap2'))
  refine Ent.trans ?_ (Ent.ac tabX_open.symm)
  exact Ent.ac (by ac_rfl)

end
end Go.Proofs.Ytlhnmbajbhaaoaa
