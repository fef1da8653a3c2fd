/- The laws on a note's text: what is read, and what is told and read back. No condition. -/
import Derived.Test.YtofgpppnknpblaaGreatDoorNzLaw26a
import Derived.Test.YtofgpppnknpblaaGreatDoorNzRd26c
namespace Go.Proofs.YtofgpppnknpblaaGreatDoor
open Go Go.SL
set_option linter.unusedSimpArgs false
set_option linter.unusedVariables false
set_option maxRecDepth 10000
set_option maxHeartbeats 4000000
theorem textN_ne {n : Nt} (h : RightN n) : textN n ≠ [] := by
  obtain ⟨k, k1, k2, ek⟩ := right_kind h
  intro e
  have e2 := cut_textN h ek k2
  rw [e] at e2
  have hne : ∀ k, k < 17 → 1 ≤ k → wordK k ≠ [] := by decide
  have e3 : ([[]] : List (List UInt8)) = wordK k :: (hasK k).map (tok n) := e2
  injection e3 with e4 _
  exact hne k k2 k1 e4.symm
theorem read_text {n : Nt} (hn : nsOk n) : readN (textN n) = if RightN n then some n else none := by
  by_cases h : RightN n
  · rw [if_pos h]; exact readN_some ⟨h, hn, rfl⟩
  · rw [if_neg h]
    have e : textN n = [] := by unfold textN; rw [if_neg h]
    rw [e]
    exact readN_none fun m hm => textN_ne hm.1 hm.2.2
attribute [local irreducible] WP WPL QSeq QBlk QRet Does Cell Cells Rd Mine Ent Aside RV Yield IterAt
section
variable {B : World} {F H G : HProp} {n m : Nt} {b c : Nat} {s : List UInt8}
theorem reads_law (T : Tab B) (L : LibOk B) : Does Tryz.prog B 9 [str s] H fun r H' => H' = H ∧ r = .bool true := by
  refine Does.frame0 ?_
  refine fn_intro 33 Tryz.func9 rfl rfl rfl ?_
  refine walk ?_
  refine s_slen rfl rfl ?_
  by_cases hs : s.length ≤ 150
  · refine walk ?_
    refine s_call rfl (nRead T L (s := s) (by omega)) rfl ?_
    rintro _ _ ⟨e_, rfl⟩
    obtain rfl := e_.symm
    refine walk ?_
    rcases hx : readN s with _ | x
    · simp only [readNV]
      refine walk ?_
      refine s_alloc rfl ?_
      intro b3
      refine walk ?_
      refine s_storeV (vs := nv zeroN) rfl rfl rfl rfl rfl ?_
      refine walk ?_
      refine s_call rfl (rRead (s := s)) rfl ?_
      rintro _ _ ⟨e_, rfl⟩
      obtain rfl := e_.symm
      refine walk ?_
      rw [hx]
      simp only [readNV]
      refine walk ?_
      refine s_alloc rfl ?_
      intro b5
      refine walk ?_
      refine s_storeV (vs := nv zeroN) rfl rfl rfl rfl rfl ?_
      refine walk ?_
      (refine wp_draw [1, 10] (.look 0 (.look 2 (.act 1 (.look 3 (.look 4 (.look 5 (.look 6 (.look 7 (.look 8 (.look 9 (.act 10 (.look 11 (.look 12 .nil)) .stop)))))))) .stop))) (by kernel_rfl) ?_; (apply dw_look; (· exact rfl); (· exact rfl); (· (exact looked))); (apply dw_look; (· exact rfl); (· exact rfl); (· (exact looked))); skip)
      refine dw_do rfl rfl ?_ dw_stop
      refine s_call rfl (dNote (n := zeroN)) rfl ?_
      rintro _ _ ⟨e_, rfl⟩
      obtain rfl := e_.symm
      refine wpl_nil (qone ⟨(by (refine st_again ?_ ?_; (· exact looked)); refine st_past (by kernel_rfl) ?_; exact st_nil), ?_⟩)
      ((apply dw_pure; (· exact rfl); (· exact rfl); (· (intro G; (first | (refine s_eqlF (ntSc zeroN) (ntSc zeroN) (b := true) rfl rfl rfl rfl (decide_eq_true rfl) rfl ?_) | (refine s_eqlF (ntSc x) (ntSc x) (b := true) rfl rfl rfl rfl (decide_eq_true rfl) rfl ?_)); exact looked))); (apply dw_pure; (· exact rfl); (· exact rfl); (· (intro G; exact looked))); (apply dw_pure; (· exact rfl); (· exact rfl); (· (intro G; exact looked))); (apply dw_pure; (· exact rfl); (· exact rfl); (· (intro G; exact looked))); (apply dw_pure; (· exact rfl); (· exact rfl); (· (intro G; exact looked))); (apply dw_pure; (· exact rfl); (· exact rfl); (· (intro G; exact looked))); (apply dw_pure; (· exact rfl); (· exact rfl); (· (intro G; exact looked))); skip)
      refine dw_do rfl rfl ?_ dw_stop
      refine step_wanted rfl rfl ?_
      refine s_call rfl (works_spec T) rfl ?_
      rintro _ _ ⟨e_, rfl⟩
      obtain rfl := e_.symm
      refine wpl_nil (qone ⟨(by refine st_past (by kernel_rfl) ?_; refine st_past (by kernel_rfl) ?_; exact st_nil), ?_⟩)
      ((apply dw_pure; (· exact rfl); (· exact rfl); (· (intro G; exact looked))); (apply dw_pure; (· exact rfl); (· exact rfl); (· (intro G; exact looked))); refine dw_nil ?_; skip)
      refine walk ?_
      (first | (apply retRD1 (G := H) (.inr rfl) rfl; (· first | (refine rv_tmp (v := .bool _) rfl) | exact rv_tmp rfl); (· exact Ent.auto)) | (apply retRD1 (G := H) (.inl rfl) rfl; (· first | (refine rv_tmp (v := .bool _) rfl) | exact rv_tmp rfl); (· exact Ent.auto)))
      exact ⟨Ent.refl _, rfl⟩
    · skip
      simp only [readNV]
      refine walk ?_
      refine s_alloc rfl ?_
      intro b3
      refine walk ?_
      refine s_storeV (vs := nv x) rfl rfl rfl rfl rfl ?_
      refine walk ?_
      refine s_call rfl (rRead (s := s)) rfl ?_
      rintro _ _ ⟨e_, rfl⟩
      obtain rfl := e_.symm
      refine walk ?_
      rw [hx]
      simp only [readNV]
      refine walk ?_
      refine s_alloc rfl ?_
      intro b5
      refine walk ?_
      refine s_storeV (vs := nv x) rfl rfl rfl rfl rfl ?_
      refine walk ?_
      (refine wp_draw [1, 10] (.look 0 (.look 2 (.act 1 (.look 3 (.look 4 (.look 5 (.look 6 (.look 7 (.look 8 (.look 9 (.act 10 (.look 11 (.look 12 .nil)) .stop)))))))) .stop))) (by kernel_rfl) ?_; (apply dw_look; (· exact rfl); (· exact rfl); (· (exact looked))); (apply dw_look; (· exact rfl); (· exact rfl); (· (exact looked))); skip)
      refine dw_do rfl rfl ?_ dw_stop
      refine s_call rfl (dNote (n := x)) rfl ?_
      rintro _ _ ⟨e_, rfl⟩
      obtain rfl := e_.symm
      refine wpl_nil (qone ⟨(by (refine st_again ?_ ?_; (· exact looked)); refine st_past (by kernel_rfl) ?_; exact st_nil), ?_⟩)
      ((apply dw_pure; (· exact rfl); (· exact rfl); (· (intro G; (first | (refine s_eqlF (ntSc zeroN) (ntSc zeroN) (b := true) rfl rfl rfl rfl (decide_eq_true rfl) rfl ?_) | (refine s_eqlF (ntSc x) (ntSc x) (b := true) rfl rfl rfl rfl (decide_eq_true rfl) rfl ?_)); exact looked))); (apply dw_pure; (· exact rfl); (· exact rfl); (· (intro G; exact looked))); (apply dw_pure; (· exact rfl); (· exact rfl); (· (intro G; exact looked))); (apply dw_pure; (· exact rfl); (· exact rfl); (· (intro G; exact looked))); (apply dw_pure; (· exact rfl); (· exact rfl); (· (intro G; exact looked))); (apply dw_pure; (· exact rfl); (· exact rfl); (· (intro G; exact looked))); (apply dw_pure; (· exact rfl); (· exact rfl); (· (intro G; exact looked))); skip)
      refine dw_do rfl rfl ?_ dw_stop
      refine step_wanted rfl rfl ?_
      refine s_call rfl (works_spec T) rfl ?_
      rintro _ _ ⟨e_, rfl⟩
      obtain rfl := e_.symm
      refine wpl_nil (qone ⟨(by refine st_past (by kernel_rfl) ?_; refine st_past (by kernel_rfl) ?_; exact st_nil), ?_⟩)
      ((apply dw_pure; (· exact rfl); (· exact rfl); (· (intro G; exact looked))); (apply dw_pure; (· exact rfl); (· exact rfl); (· (intro G; exact looked))); refine dw_nil ?_; skip)
      refine walk ?_
      (first | (apply retRD1 (G := H) (.inr rfl) rfl; (· first | (refine rv_tmp (v := .bool _) rfl) | exact rv_tmp rfl); (· exact Ent.auto)) | (apply retRD1 (G := H) (.inl rfl) rfl; (· first | (refine rv_tmp (v := .bool _) rfl) | exact rv_tmp rfl); (· exact Ent.auto)))
      exact ⟨Ent.refl _, rfl⟩
  · refine walk ?_
    refine s_call rfl (works_spec T) rfl ?_
    rintro _ _ ⟨e_, rfl⟩
    obtain rfl := e_.symm
    refine walk ?_
    (first | (apply retRD1 (G := H) (.inr rfl) rfl; (· first | (refine rv_tmp (v := .bool _) rfl) | exact rv_tmp rfl); (· exact Ent.auto)) | (apply retRD1 (G := H) (.inl rfl) rfl; (· first | (refine rv_tmp (v := .bool _) rfl) | exact rv_tmp rfl); (· exact Ent.auto)))
    exact ⟨Ent.refl _, rfl⟩
theorem back_law (T : Tab B) (L : LibOk B) {na nb : Nt} (ha : nsOk na) (hb : nsOk nb) : Does Tryz.prog B 10 [noteV na, noteV nb, str s] H fun r H' => H' = H ∧ r = .bool true := by
  refine Does.frame0 ?_
  refine fn_intro 103 Tryz.func10 rfl rfl rfl ?_
  refine walk ?_
  refine s_box (cs := nv na) rfl rfl rfl ?_
  intro ba
  refine s_box (cs := nv nb) rfl rfl rfl ?_
  intro bb
  refine walk ?_
  refine s_slen rfl rfl ?_
  by_cases hs : s.length ≤ 150
  · refine walk ?_
    refine s_buildRows [nv na, nv nb] rfl rfl rfl rfl rfl rfl ?_
    intro bl
    refine walk ?_
    refine wp_loopR (α := Nat) [6, 8, 9, 10, 20, 21, 22, 23, 24, 25, 26, 27, 28, 29, 30, 31, 32, 33, 34, 35, 36, 37, 38, 39, 40, 41, 42, 43, 44, 45, 46, 47, 48, 49, 50, 51, 52, 53, 54, 55, 56, 57, 58, 59, 60, 61, 62, 63, 64, 65] (fun i => [(8, .int .i64 (i : Nat))]) (fun i => i ≤ 2) (fun i => 2 - i) 0 agreed (Nat.zero_le _) ?_
    rintro i g hi
    simp only [putAll]
    by_cases hlt : i < 2
    · obtain ⟨x, hx, hxok⟩ : ∃ x : Nt, Cells B (blk bl [nv na, nv nb].flatten 31) bl (0 + i * 5) (nv x) ∧ nsOk x := by
        match i, hlt with
        | 0, _ => exact ⟨na, Cells.blk (fun j v h => by
            match j, h with
            | 0, h => exact h
            | 1, h => exact h
            | 2, h => exact h
            | 3, h => exact h
            | 4, h => exact h
            | j + 5, h => simp at h), ha⟩
        | 1, _ => exact ⟨nb, Cells.blk (fun j v h => by
            match j, h with
            | 0, h => exact h
            | 1, h => exact h
            | 2, h => exact h
            | 3, h => exact h
            | 4, h => exact h
            | j + 5, h => simp at h), hb⟩
      have htl := textN_len hxok
      have hrt := read_text hxok
      have e17 : (!decide (ntSc x = ntSc x)) = false := by simp
      have e26 : (!decide (ntSc zeroN = ntSc zeroN)) = false := by simp
      refine walk ?_
      refine s_call rfl (nText T hxok) rfl ?_
      rintro _ _ ⟨e_, rfl⟩
      obtain rfl := e_.symm
      refine walk ?_
      refine s_call rfl (nRead T L (s := textN x) (by omega)) rfl ?_
      rintro _ _ ⟨e_, rfl⟩
      obtain rfl := e_.symm
      refine walk ?_
      by_cases hR : RightN x
      · rw [hrt, if_pos hR]
        simp only [readNV]
        refine walk ?_
        refine s_alloc rfl ?_
        intro b9
        refine walk ?_
        refine s_storeV (vs := nv x) rfl rfl rfl rfl rfl ?_
        refine walk ?_
        (refine wp_draw [4] (.look 0 (.look 1 (.look 2 (.look 3 (.look 5 (.look 6 (.act 4 (.look 7 (.look 8 (.look 9 (.look 10 (.look 11 (.look 12 (.look 13 (.look 14 (.look 15 (.look 16 (.look 17 (.look 18 (.look 19 (.look 20 (.look 21 (.look 22 (.look 23 (.look 24 (.look 25 (.look 26 (.look 27 (.look 28 (.look 29 (.look 30 (.look 31 (.look 32 .nil)))))))))))))))))))))))))) .stop))))))) (by kernel_rfl) ?_; (apply dw_pure; (· exact rfl); (· exact rfl); (· (intro G; exact looked))); (apply dw_pure; (· exact rfl); (· exact rfl); (· (intro G; exact looked))); (apply dw_pure; (· exact rfl); (· exact rfl); (· (intro G; exact looked))); (apply dw_look; (· exact rfl); (· exact rfl); (· (exact looked))); (apply dw_pure; (· exact rfl); (· exact rfl); (· (intro G; exact looked))); (apply dw_pure; (· exact rfl); (· exact rfl); (· (intro G; exact looked))); skip)
        refine dw_do rfl rfl ?_ dw_stop
        refine s_call rfl (nRight (n := x)) rfl ?_
        rintro _ _ ⟨e_, rfl⟩
        obtain rfl := e_.symm
        rw [decide_eq_true hR]
        refine wpl_nil (qone ⟨(by refine st_past (by kernel_rfl) ?_; exact st_nil), ?_⟩)
        ((apply dw_pure; (· exact rfl); (· exact rfl); (· (intro G; exact looked))); (apply dw_pure; (· exact rfl); (· exact rfl); (· (intro G; exact looked))); (apply dw_pure; (· exact rfl); (· exact rfl); (· (intro G; exact looked))); (apply dw_pure; (· exact rfl); (· exact rfl); (· (intro G; exact looked))); (apply dw_pure; (· exact rfl); (· exact rfl); (· (intro G; exact looked))); (apply dw_look; (· exact rfl); (· exact rfl); (· (exact looked))); (apply dw_pure; (· exact rfl); (· exact rfl); (· (intro G; exact looked))); (apply dw_pure; (· exact rfl); (· exact rfl); (· (intro G; exact looked))); (apply dw_pure; (· exact rfl); (· exact rfl); (· (intro G; exact looked))); (apply dw_look; (· exact rfl); (· exact rfl); (· (exact looked))); (apply dw_pure; (· exact rfl); (· exact rfl); (· (intro G; (first | (refine step_wanted rfl rfl ?_; refine s_neqF (ntSc x) (ntSc x) (b := false) rfl rfl rfl rfl e17 rfl ?_) | skip); exact looked))); (apply dw_pure; (· exact rfl); (· exact rfl); (· (intro G; exact looked))); (apply dw_pure; (· exact rfl); (· exact rfl); (· (intro G; exact looked))); (apply dw_pure; (· exact rfl); (· exact rfl); (· (intro G; exact looked))); (apply dw_pure; (· exact rfl); (· exact rfl); (· (intro G; exact looked))); (apply dw_pure; (· exact rfl); (· exact rfl); (· (intro G; exact looked))); (apply dw_pure; (· exact rfl); (· exact rfl); (· (intro G; exact looked))); (apply dw_look; (· exact rfl); (· exact rfl); (· (exact looked))); (apply dw_pure; (· exact rfl); (· exact rfl); (· (intro G; (first | (refine step_wanted rfl rfl ?_; refine s_build (cs := nv zeroN) ?_ rfl ?_; (· kernel_rfl)) | skip); exact looked))); (apply dw_pure; (· exact rfl); (· exact rfl); (· (intro G; (first | (refine step_wanted rfl rfl ?_; refine s_neqF (ntSc zeroN) (ntSc zeroN) (b := false) rfl rfl rfl rfl e26 rfl ?_) | skip); exact looked))); (apply dw_pure; (· exact rfl); (· exact rfl); (· (intro G; exact looked))); (apply dw_pure; (· exact rfl); (· exact rfl); (· (intro G; exact looked))); (apply dw_pure; (· exact rfl); (· exact rfl); (· (intro G; exact looked))); (apply dw_pure; (· exact rfl); (· exact rfl); (· (intro G; exact looked))); (apply dw_pure; (· exact rfl); (· exact rfl); (· (intro G; exact looked))); (apply dw_pure; (· exact rfl); (· exact rfl); (· (intro G; exact looked))); refine dw_nil ?_; skip)
        refine walk ?_
        exact ⟨i + 1, asided, agreed, Ent.auto, hlt, by omega⟩
      · rw [hrt, if_neg hR]
        simp only [readNV]
        refine walk ?_
        refine s_alloc rfl ?_
        intro b9
        refine walk ?_
        refine s_storeV (vs := nv zeroN) rfl rfl rfl rfl rfl ?_
        refine walk ?_
        (refine wp_draw [4] (.look 0 (.look 1 (.look 2 (.look 3 (.look 5 (.look 6 (.act 4 (.look 7 (.look 8 (.look 9 (.look 10 (.look 11 (.look 12 (.look 13 (.look 14 (.look 15 (.look 16 (.look 17 (.look 18 (.look 19 (.look 20 (.look 21 (.look 22 (.look 23 (.look 24 (.look 25 (.look 26 (.look 27 (.look 28 (.look 29 (.look 30 (.look 31 (.look 32 .nil)))))))))))))))))))))))))) .stop))))))) (by kernel_rfl) ?_; (apply dw_pure; (· exact rfl); (· exact rfl); (· (intro G; exact looked))); (apply dw_pure; (· exact rfl); (· exact rfl); (· (intro G; exact looked))); (apply dw_pure; (· exact rfl); (· exact rfl); (· (intro G; exact looked))); (apply dw_look; (· exact rfl); (· exact rfl); (· (exact looked))); (apply dw_pure; (· exact rfl); (· exact rfl); (· (intro G; exact looked))); (apply dw_pure; (· exact rfl); (· exact rfl); (· (intro G; exact looked))); skip)
        refine dw_do rfl rfl ?_ dw_stop
        refine s_call rfl (nRight (n := x)) rfl ?_
        rintro _ _ ⟨e_, rfl⟩
        obtain rfl := e_.symm
        rw [decide_eq_false hR]
        refine wpl_nil (qone ⟨(by refine st_past (by kernel_rfl) ?_; exact st_nil), ?_⟩)
        ((apply dw_pure; (· exact rfl); (· exact rfl); (· (intro G; exact looked))); (apply dw_pure; (· exact rfl); (· exact rfl); (· (intro G; exact looked))); (apply dw_pure; (· exact rfl); (· exact rfl); (· (intro G; exact looked))); (apply dw_pure; (· exact rfl); (· exact rfl); (· (intro G; exact looked))); (apply dw_pure; (· exact rfl); (· exact rfl); (· (intro G; exact looked))); (apply dw_look; (· exact rfl); (· exact rfl); (· (exact looked))); (apply dw_pure; (· exact rfl); (· exact rfl); (· (intro G; exact looked))); (apply dw_pure; (· exact rfl); (· exact rfl); (· (intro G; exact looked))); (apply dw_pure; (· exact rfl); (· exact rfl); (· (intro G; exact looked))); (apply dw_look; (· exact rfl); (· exact rfl); (· (exact looked))); (apply dw_pure; (· exact rfl); (· exact rfl); (· (intro G; (first | (refine step_wanted rfl rfl ?_; refine s_neqF (ntSc x) (ntSc x) (b := false) rfl rfl rfl rfl e17 rfl ?_) | skip); exact looked))); (apply dw_pure; (· exact rfl); (· exact rfl); (· (intro G; exact looked))); (apply dw_pure; (· exact rfl); (· exact rfl); (· (intro G; exact looked))); (apply dw_pure; (· exact rfl); (· exact rfl); (· (intro G; exact looked))); (apply dw_pure; (· exact rfl); (· exact rfl); (· (intro G; exact looked))); (apply dw_pure; (· exact rfl); (· exact rfl); (· (intro G; exact looked))); (apply dw_pure; (· exact rfl); (· exact rfl); (· (intro G; exact looked))); (apply dw_look; (· exact rfl); (· exact rfl); (· (exact looked))); (apply dw_pure; (· exact rfl); (· exact rfl); (· (intro G; (first | (refine step_wanted rfl rfl ?_; refine s_build (cs := nv zeroN) ?_ rfl ?_; (· kernel_rfl)) | skip); exact looked))); (apply dw_pure; (· exact rfl); (· exact rfl); (· (intro G; (first | (refine step_wanted rfl rfl ?_; refine s_neqF (ntSc zeroN) (ntSc zeroN) (b := false) rfl rfl rfl rfl e26 rfl ?_) | skip); exact looked))); (apply dw_pure; (· exact rfl); (· exact rfl); (· (intro G; exact looked))); (apply dw_pure; (· exact rfl); (· exact rfl); (· (intro G; exact looked))); (apply dw_pure; (· exact rfl); (· exact rfl); (· (intro G; exact looked))); (apply dw_pure; (· exact rfl); (· exact rfl); (· (intro G; exact looked))); (apply dw_pure; (· exact rfl); (· exact rfl); (· (intro G; exact looked))); (apply dw_pure; (· exact rfl); (· exact rfl); (· (intro G; exact looked))); refine dw_nil ?_; skip)
        refine walk ?_
        exact ⟨i + 1, asided, agreed, Ent.auto, hlt, by omega⟩
    · refine walk ?_
      have e11 : RightN na → RightN nb → decide ((⟨(textN na).toArray⟩ : ByteArray) = ⟨(textN nb).toArray⟩) = decide (na = nb) := fun h1 h2 => by
        rw [decide_eq_decide, str_eq]
        exact ⟨textN_inj h1 h2, fun e => by rw [e]⟩
      have e14 : decide (ntSc na = ntSc nb) = decide (na = nb) := decide_eq_decide.2 (ntSc_eq na nb)
      by_cases h1 : RightN na
      · by_cases h2 : RightN nb
        · have e11' := e11 h1 h2
          cases hz : decide (na = nb) <;> rw [hz] at e11' e14
          · skip
            (refine wp_draw [1, 4, 8, 10] (.look 0 (.act 1 (.look 2 (.look 3 (.act 4 (.look 5 (.look 6 (.look 7 (.look 9 (.look 12 (.look 13 (.look 14 (.act 8 (.act 10 (.look 11 (.look 15 (.look 16 .nil))) .stop) .stop)))))))) .stop))) .stop)) (by kernel_rfl) ?_; (apply dw_look; (· exact rfl); (· exact rfl); (· (exact looked))); skip)
            refine dw_do rfl rfl ?_ dw_stop
            refine s_call rfl (nRight (n := na)) rfl ?_
            rintro _ _ ⟨e_, rfl⟩
            obtain rfl := e_.symm
            rw [decide_eq_true h1]
            refine wpl_nil (qone ⟨(by refine st_past (by kernel_rfl) ?_; exact st_nil), ?_⟩)
            ((apply dw_pure; (· exact rfl); (· exact rfl); (· (intro G; exact looked))); (apply dw_look; (· exact rfl); (· exact rfl); (· (exact looked))); skip)
            refine dw_do rfl rfl ?_ dw_stop
            refine step_wanted rfl rfl ?_
            refine s_call rfl (nRight (n := nb)) rfl ?_
            rintro _ _ ⟨e_, rfl⟩
            obtain rfl := e_.symm
            rw [decide_eq_true h2]
            refine wpl_nil (qone ⟨(by refine st_past (by kernel_rfl) ?_; refine st_past (by kernel_rfl) ?_; exact st_nil), ?_⟩)
            ((apply dw_pure; (· exact rfl); (· exact rfl); (· (intro G; exact looked))); (apply dw_pure; (· exact rfl); (· exact rfl); (· (intro G; exact looked))); (apply dw_look; (· exact rfl); (· exact rfl); (· (exact looked))); (apply dw_look; (· exact rfl); (· exact rfl); (· (exact looked))); (apply dw_look; (· exact rfl); (· exact rfl); (· (exact looked))); (apply dw_look; (· exact rfl); (· exact rfl); (· (exact looked))); (apply dw_pure; (· exact rfl); (· exact rfl); (· (intro G; (first | (refine step_wanted rfl rfl ?_; refine s_eqlF (ntSc na) (ntSc nb) rfl rfl rfl rfl e14 rfl ?_) | skip); exact looked))); skip)
            refine dw_do rfl rfl ?_ dw_stop
            refine step_wanted rfl rfl ?_
            refine s_call rfl (nText T ha) rfl ?_
            rintro _ _ ⟨e_, rfl⟩
            obtain rfl := e_.symm
            refine wpl_nil (qone ⟨(by (refine st_again ?_ ?_; (· exact looked)); (refine st_again ?_ ?_; (· exact looked)); (refine st_again ?_ ?_; (· exact looked)); refine st_past (by kernel_rfl) ?_; refine st_past (by kernel_rfl) ?_; refine st_past (by kernel_rfl) ?_; exact st_nil), ?_⟩)
            (skip)
            refine dw_do rfl rfl ?_ dw_stop
            refine step_wanted rfl rfl ?_
            refine s_call rfl (nText T hb) rfl ?_
            rintro _ _ ⟨e_, rfl⟩
            obtain rfl := e_.symm
            refine wpl_nil (qone ⟨(by (refine st_again ?_ ?_; (· exact looked)); (refine st_again ?_ ?_; (· exact looked)); refine st_past (by kernel_rfl) ?_; refine st_past (by kernel_rfl) ?_; refine st_past (by kernel_rfl) ?_; refine st_past (by kernel_rfl) ?_; exact st_nil), ?_⟩)
            ((apply dw_pure; (· exact rfl); (· exact rfl); (· (intro G; (first | (refine step_wanted rfl rfl ?_; refine s_eqstr rfl rfl e11' rfl ?_) | skip); exact looked))); (apply dw_pure; (· exact rfl); (· exact rfl); (· (intro G; exact looked))); (apply dw_pure; (· exact rfl); (· exact rfl); (· (intro G; exact looked))); refine dw_nil ?_; skip)
            skip
            refine walk ?_
            refine s_call rfl (nRead T L (s := s) (by omega)) rfl ?_
            rintro _ _ ⟨e_, rfl⟩
            obtain rfl := e_.symm
            refine walk ?_
            rcases hx : readN s with _ | x
            · simp only [readNV]
              refine walk ?_
              refine s_alloc rfl ?_
              intro b11
              refine walk ?_
              refine s_storeV (vs := nv zeroN) rfl rfl rfl rfl rfl ?_
              refine walk ?_
              refine s_call rfl (works_spec T) rfl ?_
              rintro _ _ ⟨e_, rfl⟩
              obtain rfl := e_.symm
              refine walk ?_
              (first | (apply retRD1 (G := H) (.inr rfl) rfl; (· first | (refine rv_tmp (v := .bool _) rfl) | exact rv_tmp rfl); (· exact Ent.auto)) | (apply retRD1 (G := H) (.inl rfl) rfl; (· first | (refine rv_tmp (v := .bool _) rfl) | exact rv_tmp rfl); (· exact Ent.auto)))
              exact ⟨Ent.refl _, rfl⟩
            · obtain ⟨hr, ho, ht⟩ := readN_told hx
              simp only [readNV]
              refine walk ?_
              refine s_alloc rfl ?_
              intro b11
              refine walk ?_
              refine s_storeV (vs := nv x) rfl rfl rfl rfl rfl ?_
              refine walk ?_
              refine s_call rfl (nText T ho) rfl ?_
              rintro _ _ ⟨e_, rfl⟩
              obtain rfl := e_.symm
              refine walk ?_
              refine s_eqstr rfl rfl (b := true) (by rw [ht]; simp) rfl ?_
              refine walk ?_
              refine s_call rfl (nRight (n := x)) rfl ?_
              rintro _ _ ⟨e_, rfl⟩
              obtain rfl := e_.symm
              refine walk ?_
              rw [decide_eq_true hr]
              refine walk ?_
              refine s_call rfl (works_spec T) rfl ?_
              rintro _ _ ⟨e_, rfl⟩
              obtain rfl := e_.symm
              refine walk ?_
              (first | (apply retRD1 (G := H) (.inr rfl) rfl; (· first | (refine rv_tmp (v := .bool _) rfl) | exact rv_tmp rfl); (· exact Ent.auto)) | (apply retRD1 (G := H) (.inl rfl) rfl; (· first | (refine rv_tmp (v := .bool _) rfl) | exact rv_tmp rfl); (· exact Ent.auto)))
              exact ⟨Ent.refl _, rfl⟩
          · skip
            (refine wp_draw [1, 4, 8, 10] (.look 0 (.act 1 (.look 2 (.look 3 (.act 4 (.look 5 (.look 6 (.look 7 (.look 9 (.look 12 (.look 13 (.look 14 (.act 8 (.act 10 (.look 11 (.look 15 (.look 16 .nil))) .stop) .stop)))))))) .stop))) .stop)) (by kernel_rfl) ?_; (apply dw_look; (· exact rfl); (· exact rfl); (· (exact looked))); skip)
            refine dw_do rfl rfl ?_ dw_stop
            refine s_call rfl (nRight (n := na)) rfl ?_
            rintro _ _ ⟨e_, rfl⟩
            obtain rfl := e_.symm
            rw [decide_eq_true h1]
            refine wpl_nil (qone ⟨(by refine st_past (by kernel_rfl) ?_; exact st_nil), ?_⟩)
            ((apply dw_pure; (· exact rfl); (· exact rfl); (· (intro G; exact looked))); (apply dw_look; (· exact rfl); (· exact rfl); (· (exact looked))); skip)
            refine dw_do rfl rfl ?_ dw_stop
            refine step_wanted rfl rfl ?_
            refine s_call rfl (nRight (n := nb)) rfl ?_
            rintro _ _ ⟨e_, rfl⟩
            obtain rfl := e_.symm
            rw [decide_eq_true h2]
            refine wpl_nil (qone ⟨(by refine st_past (by kernel_rfl) ?_; refine st_past (by kernel_rfl) ?_; exact st_nil), ?_⟩)
            ((apply dw_pure; (· exact rfl); (· exact rfl); (· (intro G; exact looked))); (apply dw_pure; (· exact rfl); (· exact rfl); (· (intro G; exact looked))); (apply dw_look; (· exact rfl); (· exact rfl); (· (exact looked))); (apply dw_look; (· exact rfl); (· exact rfl); (· (exact looked))); (apply dw_look; (· exact rfl); (· exact rfl); (· (exact looked))); (apply dw_look; (· exact rfl); (· exact rfl); (· (exact looked))); (apply dw_pure; (· exact rfl); (· exact rfl); (· (intro G; (first | (refine step_wanted rfl rfl ?_; refine s_eqlF (ntSc na) (ntSc nb) rfl rfl rfl rfl e14 rfl ?_) | skip); exact looked))); skip)
            refine dw_do rfl rfl ?_ dw_stop
            refine step_wanted rfl rfl ?_
            refine s_call rfl (nText T ha) rfl ?_
            rintro _ _ ⟨e_, rfl⟩
            obtain rfl := e_.symm
            refine wpl_nil (qone ⟨(by (refine st_again ?_ ?_; (· exact looked)); (refine st_again ?_ ?_; (· exact looked)); (refine st_again ?_ ?_; (· exact looked)); refine st_past (by kernel_rfl) ?_; refine st_past (by kernel_rfl) ?_; refine st_past (by kernel_rfl) ?_; exact st_nil), ?_⟩)
            (skip)
            refine dw_do rfl rfl ?_ dw_stop
            refine step_wanted rfl rfl ?_
            refine s_call rfl (nText T hb) rfl ?_
            rintro _ _ ⟨e_, rfl⟩
            obtain rfl := e_.symm
            refine wpl_nil (qone ⟨(by (refine st_again ?_ ?_; (· exact looked)); (refine st_again ?_ ?_; (· exact looked)); refine st_past (by kernel_rfl) ?_; refine st_past (by kernel_rfl) ?_; refine st_past (by kernel_rfl) ?_; refine st_past (by kernel_rfl) ?_; exact st_nil), ?_⟩)
            ((apply dw_pure; (· exact rfl); (· exact rfl); (· (intro G; (first | (refine step_wanted rfl rfl ?_; refine s_eqstr rfl rfl e11' rfl ?_) | skip); exact looked))); (apply dw_pure; (· exact rfl); (· exact rfl); (· (intro G; exact looked))); (apply dw_pure; (· exact rfl); (· exact rfl); (· (intro G; exact looked))); refine dw_nil ?_; skip)
            skip
            refine walk ?_
            refine s_call rfl (nRead T L (s := s) (by omega)) rfl ?_
            rintro _ _ ⟨e_, rfl⟩
            obtain rfl := e_.symm
            refine walk ?_
            rcases hx : readN s with _ | x
            · simp only [readNV]
              refine walk ?_
              refine s_alloc rfl ?_
              intro b11
              refine walk ?_
              refine s_storeV (vs := nv zeroN) rfl rfl rfl rfl rfl ?_
              refine walk ?_
              refine s_call rfl (works_spec T) rfl ?_
              rintro _ _ ⟨e_, rfl⟩
              obtain rfl := e_.symm
              refine walk ?_
              (first | (apply retRD1 (G := H) (.inr rfl) rfl; (· first | (refine rv_tmp (v := .bool _) rfl) | exact rv_tmp rfl); (· exact Ent.auto)) | (apply retRD1 (G := H) (.inl rfl) rfl; (· first | (refine rv_tmp (v := .bool _) rfl) | exact rv_tmp rfl); (· exact Ent.auto)))
              exact ⟨Ent.refl _, rfl⟩
            · obtain ⟨hr, ho, ht⟩ := readN_told hx
              simp only [readNV]
              refine walk ?_
              refine s_alloc rfl ?_
              intro b11
              refine walk ?_
              refine s_storeV (vs := nv x) rfl rfl rfl rfl rfl ?_
              refine walk ?_
              refine s_call rfl (nText T ho) rfl ?_
              rintro _ _ ⟨e_, rfl⟩
              obtain rfl := e_.symm
              refine walk ?_
              refine s_eqstr rfl rfl (b := true) (by rw [ht]; simp) rfl ?_
              refine walk ?_
              refine s_call rfl (nRight (n := x)) rfl ?_
              rintro _ _ ⟨e_, rfl⟩
              obtain rfl := e_.symm
              refine walk ?_
              rw [decide_eq_true hr]
              refine walk ?_
              refine s_call rfl (works_spec T) rfl ?_
              rintro _ _ ⟨e_, rfl⟩
              obtain rfl := e_.symm
              refine walk ?_
              (first | (apply retRD1 (G := H) (.inr rfl) rfl; (· first | (refine rv_tmp (v := .bool _) rfl) | exact rv_tmp rfl); (· exact Ent.auto)) | (apply retRD1 (G := H) (.inl rfl) rfl; (· first | (refine rv_tmp (v := .bool _) rfl) | exact rv_tmp rfl); (· exact Ent.auto)))
              exact ⟨Ent.refl _, rfl⟩
        · skip
          (refine wp_draw [1, 4, 8, 10] (.look 0 (.act 1 (.look 2 (.look 3 (.act 4 (.look 5 (.look 6 (.look 7 (.look 9 (.look 12 (.look 13 (.look 14 (.act 8 (.act 10 (.look 11 (.look 15 (.look 16 .nil))) .stop) .stop)))))))) .stop))) .stop)) (by kernel_rfl) ?_; (apply dw_look; (· exact rfl); (· exact rfl); (· (exact looked))); skip)
          refine dw_do rfl rfl ?_ dw_stop
          refine s_call rfl (nRight (n := na)) rfl ?_
          rintro _ _ ⟨e_, rfl⟩
          obtain rfl := e_.symm
          rw [decide_eq_true h1]
          refine wpl_nil (qone ⟨(by refine st_past (by kernel_rfl) ?_; exact st_nil), ?_⟩)
          ((apply dw_pure; (· exact rfl); (· exact rfl); (· (intro G; exact looked))); (apply dw_look; (· exact rfl); (· exact rfl); (· (exact looked))); skip)
          refine dw_do rfl rfl ?_ dw_stop
          refine step_wanted rfl rfl ?_
          refine s_call rfl (nRight (n := nb)) rfl ?_
          rintro _ _ ⟨e_, rfl⟩
          obtain rfl := e_.symm
          rw [decide_eq_false h2]
          refine wpl_nil (qone ⟨(by refine st_past (by kernel_rfl) ?_; refine st_past (by kernel_rfl) ?_; exact st_nil), ?_⟩)
          ((apply dw_pure; (· exact rfl); (· exact rfl); (· (intro G; exact looked))); (apply dw_pure; (· exact rfl); (· exact rfl); (· (intro G; exact looked))); (apply dw_look; (· exact rfl); (· exact rfl); (· (exact looked))); (apply dw_look; (· exact rfl); (· exact rfl); (· (exact looked))); (apply dw_look; (· exact rfl); (· exact rfl); (· (exact looked))); (apply dw_look; (· exact rfl); (· exact rfl); (· (exact looked))); (apply dw_pure; (· exact rfl); (· exact rfl); (· (intro G; (first | (refine step_wanted rfl rfl ?_; refine s_eqlF (ntSc na) (ntSc nb) rfl rfl rfl rfl e14 rfl ?_) | skip); exact looked))); skip)
          refine dw_do rfl rfl ?_ dw_stop
          (first | refine step_unwanted rfl rfl rfl rfl ?_ | refine step_unwantedU rfl rfl rfl ?_ | refine step_unwanted0 rfl rfl rfl ?_ | refine step_unwantedU0 rfl rfl ?_)
          refine wpl_nil (qone ⟨(by (refine st_again ?_ ?_; (· exact looked)); (refine st_again ?_ ?_; (· exact looked)); (refine st_again ?_ ?_; (· exact looked)); refine st_past (by kernel_rfl) ?_; refine st_past (by kernel_rfl) ?_; refine st_past (by kernel_rfl) ?_; exact st_nil), ?_⟩)
          (skip)
          refine dw_do rfl rfl ?_ dw_stop
          (first | refine step_unwanted rfl rfl rfl rfl ?_ | refine step_unwantedU rfl rfl rfl ?_ | refine step_unwanted0 rfl rfl rfl ?_ | refine step_unwantedU0 rfl rfl ?_)
          refine wpl_nil (qone ⟨(by (refine st_again ?_ ?_; (· exact looked)); (refine st_again ?_ ?_; (· exact looked)); refine st_past (by kernel_rfl) ?_; refine st_past (by kernel_rfl) ?_; refine st_past (by kernel_rfl) ?_; refine st_past (by kernel_rfl) ?_; exact st_nil), ?_⟩)
          ((apply dw_pure; (· exact rfl); (· exact rfl); (· (intro G; (first | (refine step_wanted rfl rfl ?_; refine s_eqstr rfl rfl e11' rfl ?_) | skip); exact looked))); (apply dw_pure; (· exact rfl); (· exact rfl); (· (intro G; exact looked))); (apply dw_pure; (· exact rfl); (· exact rfl); (· (intro G; exact looked))); refine dw_nil ?_; skip)
          skip
          refine walk ?_
          refine s_call rfl (nRead T L (s := s) (by omega)) rfl ?_
          rintro _ _ ⟨e_, rfl⟩
          obtain rfl := e_.symm
          refine walk ?_
          rcases hx : readN s with _ | x
          · simp only [readNV]
            refine walk ?_
            refine s_alloc rfl ?_
            intro b11
            refine walk ?_
            refine s_storeV (vs := nv zeroN) rfl rfl rfl rfl rfl ?_
            refine walk ?_
            refine s_call rfl (works_spec T) rfl ?_
            rintro _ _ ⟨e_, rfl⟩
            obtain rfl := e_.symm
            refine walk ?_
            (first | (apply retRD1 (G := H) (.inr rfl) rfl; (· first | (refine rv_tmp (v := .bool _) rfl) | exact rv_tmp rfl); (· exact Ent.auto)) | (apply retRD1 (G := H) (.inl rfl) rfl; (· first | (refine rv_tmp (v := .bool _) rfl) | exact rv_tmp rfl); (· exact Ent.auto)))
            exact ⟨Ent.refl _, rfl⟩
          · obtain ⟨hr, ho, ht⟩ := readN_told hx
            simp only [readNV]
            refine walk ?_
            refine s_alloc rfl ?_
            intro b11
            refine walk ?_
            refine s_storeV (vs := nv x) rfl rfl rfl rfl rfl ?_
            refine walk ?_
            refine s_call rfl (nText T ho) rfl ?_
            rintro _ _ ⟨e_, rfl⟩
            obtain rfl := e_.symm
            refine walk ?_
            refine s_eqstr rfl rfl (b := true) (by rw [ht]; simp) rfl ?_
            refine walk ?_
            refine s_call rfl (nRight (n := x)) rfl ?_
            rintro _ _ ⟨e_, rfl⟩
            obtain rfl := e_.symm
            refine walk ?_
            rw [decide_eq_true hr]
            refine walk ?_
            refine s_call rfl (works_spec T) rfl ?_
            rintro _ _ ⟨e_, rfl⟩
            obtain rfl := e_.symm
            refine walk ?_
            (first | (apply retRD1 (G := H) (.inr rfl) rfl; (· first | (refine rv_tmp (v := .bool _) rfl) | exact rv_tmp rfl); (· exact Ent.auto)) | (apply retRD1 (G := H) (.inl rfl) rfl; (· first | (refine rv_tmp (v := .bool _) rfl) | exact rv_tmp rfl); (· exact Ent.auto)))
            exact ⟨Ent.refl _, rfl⟩
      · skip
        (refine wp_draw [1, 4, 8, 10] (.look 0 (.act 1 (.look 2 (.look 3 (.act 4 (.look 5 (.look 6 (.look 7 (.look 9 (.look 12 (.look 13 (.look 14 (.act 8 (.act 10 (.look 11 (.look 15 (.look 16 .nil))) .stop) .stop)))))))) .stop))) .stop)) (by kernel_rfl) ?_; (apply dw_look; (· exact rfl); (· exact rfl); (· (exact looked))); skip)
        refine dw_do rfl rfl ?_ dw_stop
        refine s_call rfl (nRight (n := na)) rfl ?_
        rintro _ _ ⟨e_, rfl⟩
        obtain rfl := e_.symm
        rw [decide_eq_false h1]
        refine wpl_nil (qone ⟨(by refine st_past (by kernel_rfl) ?_; exact st_nil), ?_⟩)
        ((apply dw_pure; (· exact rfl); (· exact rfl); (· (intro G; exact looked))); (apply dw_look; (· exact rfl); (· exact rfl); (· (exact looked))); skip)
        refine dw_do rfl rfl ?_ dw_stop
        (first | refine step_unwanted rfl rfl rfl rfl ?_ | refine step_unwantedU rfl rfl rfl ?_ | refine step_unwanted0 rfl rfl rfl ?_ | refine step_unwantedU0 rfl rfl ?_)
        refine wpl_nil (qone ⟨(by refine st_past (by kernel_rfl) ?_; refine st_past (by kernel_rfl) ?_; exact st_nil), ?_⟩)
        ((apply dw_pure; (· exact rfl); (· exact rfl); (· (intro G; exact looked))); (apply dw_pure; (· exact rfl); (· exact rfl); (· (intro G; exact looked))); (apply dw_look; (· exact rfl); (· exact rfl); (· (exact looked))); (apply dw_look; (· exact rfl); (· exact rfl); (· (exact looked))); (apply dw_look; (· exact rfl); (· exact rfl); (· (exact looked))); (apply dw_look; (· exact rfl); (· exact rfl); (· (exact looked))); (apply dw_pure; (· exact rfl); (· exact rfl); (· (intro G; (first | (refine step_wanted rfl rfl ?_; refine s_eqlF (ntSc na) (ntSc nb) rfl rfl rfl rfl e14 rfl ?_) | skip); exact looked))); skip)
        refine dw_do rfl rfl ?_ dw_stop
        (first | refine step_unwanted rfl rfl rfl rfl ?_ | refine step_unwantedU rfl rfl rfl ?_ | refine step_unwanted0 rfl rfl rfl ?_ | refine step_unwantedU0 rfl rfl ?_)
        refine wpl_nil (qone ⟨(by (refine st_again ?_ ?_; (· exact looked)); (refine st_again ?_ ?_; (· exact looked)); (refine st_again ?_ ?_; (· exact looked)); refine st_past (by kernel_rfl) ?_; refine st_past (by kernel_rfl) ?_; refine st_past (by kernel_rfl) ?_; exact st_nil), ?_⟩)
        (skip)
        refine dw_do rfl rfl ?_ dw_stop
        (first | refine step_unwanted rfl rfl rfl rfl ?_ | refine step_unwantedU rfl rfl rfl ?_ | refine step_unwanted0 rfl rfl rfl ?_ | refine step_unwantedU0 rfl rfl ?_)
        refine wpl_nil (qone ⟨(by (refine st_again ?_ ?_; (· exact looked)); (refine st_again ?_ ?_; (· exact looked)); refine st_past (by kernel_rfl) ?_; refine st_past (by kernel_rfl) ?_; refine st_past (by kernel_rfl) ?_; refine st_past (by kernel_rfl) ?_; exact st_nil), ?_⟩)
        ((apply dw_pure; (· exact rfl); (· exact rfl); (· (intro G; (first | (refine step_wanted rfl rfl ?_; refine s_eqstr rfl rfl e11' rfl ?_) | skip); exact looked))); (apply dw_pure; (· exact rfl); (· exact rfl); (· (intro G; exact looked))); (apply dw_pure; (· exact rfl); (· exact rfl); (· (intro G; exact looked))); refine dw_nil ?_; skip)
        skip
        refine walk ?_
        refine s_call rfl (nRead T L (s := s) (by omega)) rfl ?_
        rintro _ _ ⟨e_, rfl⟩
        obtain rfl := e_.symm
        refine walk ?_
        rcases hx : readN s with _ | x
        · simp only [readNV]
          refine walk ?_
          refine s_alloc rfl ?_
          intro b11
          refine walk ?_
          refine s_storeV (vs := nv zeroN) rfl rfl rfl rfl rfl ?_
          refine walk ?_
          refine s_call rfl (works_spec T) rfl ?_
          rintro _ _ ⟨e_, rfl⟩
          obtain rfl := e_.symm
          refine walk ?_
          (first | (apply retRD1 (G := H) (.inr rfl) rfl; (· first | (refine rv_tmp (v := .bool _) rfl) | exact rv_tmp rfl); (· exact Ent.auto)) | (apply retRD1 (G := H) (.inl rfl) rfl; (· first | (refine rv_tmp (v := .bool _) rfl) | exact rv_tmp rfl); (· exact Ent.auto)))
          exact ⟨Ent.refl _, rfl⟩
        · obtain ⟨hr, ho, ht⟩ := readN_told hx
          simp only [readNV]
          refine walk ?_
          refine s_alloc rfl ?_
          intro b11
          refine walk ?_
          refine s_storeV (vs := nv x) rfl rfl rfl rfl rfl ?_
          refine walk ?_
          refine s_call rfl (nText T ho) rfl ?_
          rintro _ _ ⟨e_, rfl⟩
          obtain rfl := e_.symm
          refine walk ?_
          refine s_eqstr rfl rfl (b := true) (by rw [ht]; simp) rfl ?_
          refine walk ?_
          refine s_call rfl (nRight (n := x)) rfl ?_
          rintro _ _ ⟨e_, rfl⟩
          obtain rfl := e_.symm
          refine walk ?_
          rw [decide_eq_true hr]
          refine walk ?_
          refine s_call rfl (works_spec T) rfl ?_
          rintro _ _ ⟨e_, rfl⟩
          obtain rfl := e_.symm
          refine walk ?_
          (first | (apply retRD1 (G := H) (.inr rfl) rfl; (· first | (refine rv_tmp (v := .bool _) rfl) | exact rv_tmp rfl); (· exact Ent.auto)) | (apply retRD1 (G := H) (.inl rfl) rfl; (· first | (refine rv_tmp (v := .bool _) rfl) | exact rv_tmp rfl); (· exact Ent.auto)))
          exact ⟨Ent.refl _, rfl⟩
  · refine walk ?_
    refine s_call rfl (works_spec T) rfl ?_
    rintro _ _ ⟨e_, rfl⟩
    obtain rfl := e_.symm
    refine walk ?_
    (first | (apply retRD1 (G := H) (.inr rfl) rfl; (· first | (refine rv_tmp (v := .bool _) rfl) | exact rv_tmp rfl); (· exact Ent.auto)) | (apply retRD1 (G := H) (.inl rfl) rfl; (· first | (refine rv_tmp (v := .bool _) rfl) | exact rv_tmp rfl); (· exact Ent.auto)))
    exact ⟨Ent.refl _, rfl⟩
end
end Go.Proofs.YtofgpppnknpblaaGreatDoor
