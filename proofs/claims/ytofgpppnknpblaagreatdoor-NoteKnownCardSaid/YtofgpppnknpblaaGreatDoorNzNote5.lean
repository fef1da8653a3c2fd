/- Notes made of numbers. No condition. -/
import Derived.Test.YtofgpppnknpblaaGreatDoorNzNote4
namespace Go.Proofs.YtofgpppnknpblaaGreatDoor
open Go Go.SL
set_option linter.unusedSimpArgs false
set_option linter.unusedVariables false
set_option maxRecDepth 10000
set_option maxHeartbeats 2000000
attribute [local irreducible] WP WPL QSeq QBlk QRet Does Cell Cells Rd Mine Ent Aside RV Yield IterAt
section
variable {B : World} {F H G : HProp} {n : Nt} {k v : Int} {c : UInt8} {b : Nat} {s : Value} {l : List Int}
theorem new_no (h : ¬ (l.length = (hasOf k).length ∧ RightN (fillN k l))) : newN k l = (zeroN, 260) := by
  unfold newN
  rw [if_neg h]
theorem new_yes (h1 : l.length = (hasOf k).length) (h2 : RightN (fillN k l)) : newN k l = (fillN k l, 0) := by
  unfold newN
  rw [if_pos ⟨h1, h2⟩]
theorem nNew (hs : Rd B H 1 s l.length (zs l)) : Does Tryz.prog B 19 [.int .i64 k, s] H fun r H' => H' = H ∧ r = .tuple #[noteV (newN k l).1, .int .i64 (newN k l).2] := by
  refine Does.frame0 ?_
  unfold Rd at hs
  obtain ⟨ao, cap, rfl, hl, hm, ha⟩ := hs
  unfold maxLen at hm
  refine fn_intro 48 Tryz.func19 rfl rfl rfl ?_
  refine walk ?_
  refine s_alloc rfl ?_
  intro b4
  refine walk ?_
  by_cases hk : 1 ≤ k ∧ k ≤ 16
  · obtain ⟨i, rfl⟩ := Int.eq_ofNat_of_zero_le (show 0 ≤ k by omega)
    have hi1 : 1 ≤ i := by omega
    have hi2 : i < 17 := by omega
    have hlen := has_len i hi2
    have e := hasOf_nat i
    refine s_call rfl (of_spec hi1 hi2) rfl ?_
    rintro _ _ ⟨e_, rfl⟩
    obtain rfl := e_.symm
    refine walk ?_
    refine s_alloc rfl ?_
    intro b6
    refine walk ?_
    refine s_storeV (vs := formC i) rfl rfl rfl rfl rfl ?_
    refine walk ?_
    refine s_slen rfl rfl ?_
    by_cases hll : l.length = (hasK i).length
    · refine walk ?_
      (refine s_build (cs := nv ⟨(i : Int), -1, -1, -1, -1⟩) ?_ rfl ?_; (· kernel_rfl))
      refine s_alloc rfl ?_
      intro b8
      refine s_storeV (vs := nv ⟨(i : Int), -1, -1, -1, -1⟩) rfl rfl rfl rfl rfl ?_
      refine walk ?_
      refine s_rangeS (l := hasK i) rfl rfl ?_
      intro b31
      refine walk ?_
      refine wp_loopF (α := Nat) [9, 10, 32, 33, 34, 35, 36, 37, 38, 39, 40, 41, 42] (fun _ => []) (fun j => IterAt b31 (hasK i, j) + (blk b8 (nv (fillJ i (hasK i) l j)) 31 + (blk b6 (formC i) 69 + (blk b4 (nv zeroN) 31 + H)))) (fun j => j ≤ (hasK i).length) (fun j => (hasK i).length - j) 0 agreed Ent.auto (Nat.zero_le _) ?_
      rintro j f hj
      simp only [putAll]
      by_cases hlt : j < (hasK i).length
      · have hlj : j < l.length := by omega
        obtain ⟨bl, ol, rfl, hcl⟩ := Rd.addr hl ha hlj
        have hcell := hcl.cell (zs_get l j hlj)
        have hc := has_letters i hi2 _ (List.getElem_mem hlt)
        have hc128 : (hasK i)[j].toNat < 128 := by rcases hc with h | h | h | h <;> rw [h] <;> decide
        have hgt : (hasK i)[j]? = some (hasK i)[j] := List.getElem?_eq_getElem hlt
        have hfn := fill_next (k := (i : Int)) hlt hlj
        generalize (hasK i)[j] = c at *
        have hpl := place_lt c
        refine walk ?_
        refine s_nextC rfl hgt hc128 rfl ?_
        refine walk ?_
        (refine wp_draw [1, 7] (.look 0 (.look 2 (.look 3 (.look 4 (.look 5 (.act 1 (.look 6 (.act 7 .nil .stop)) .stop)))))) (by kernel_rfl) ?_; (apply dw_pure; (· exact rfl); (· exact rfl); (· (intro G; exact looked))); (apply dw_pure; (· exact rfl); (· exact rfl); (· (intro G; exact looked))); (apply dw_pure; (· exact rfl); (· exact rfl); (· (intro G; exact looked))); (apply dw_pure; (· exact rfl); (· exact rfl); (· (intro G; exact looked))); (apply dw_look; (· exact rfl); (· exact rfl); (· (exact looked))); skip)
        refine dw_do rfl rfl ?_ dw_stop
        refine s_call rfl (place_spec (b := b8) hc) rfl ?_
        rintro _ _ ⟨e_, rfl⟩
        obtain rfl := e_.symm
        refine wpl_nil (qone ⟨(by (refine st_again ?_ ?_; (· exact looked)); exact st_nil), ?_⟩)
        ((apply dw_pure; (· exact rfl); (· exact rfl); (· (intro G; exact looked))); skip)
        refine dw_do0 rfl rfl ?_ dw_stop
        refine s_store (v := .int .i64 l[j]) (cs' := nv (setL (fillJ i (hasK i) l j) c l[j])) rfl rfl rfl (by show placeL c < 5; exact hpl) (nv_set hc) ?_
        rw [← hfn]
        refine wpl_nil (qone0 ⟨(by refine st_past (by kernel_rfl) ?_; exact st_nil), ?_⟩)
        (refine dw_nil ?_; skip)
        refine walk ?_
        exact ⟨j + 1, asided, agreed, Ent.auto, hlt, by omega⟩
      · obtain rfl : j = (hasK i).length := by omega
        have ef : fillJ i (hasK i) l (hasK i).length = fillN i l := by unfold fillN; rw [e]
        rw [ef]
        refine walk ?_
        refine s_nextE rfl hlt rfl ?_
        refine walk ?_
        refine s_call rfl (nRight (n := fillN i l)) rfl ?_
        rintro _ _ ⟨e_, rfl⟩
        obtain rfl := e_.symm
        refine walk ?_
        by_cases hR : RightN (fillN i l)
        · rw [decide_eq_true hR, new_yes (by rw [e]; exact hll) hR]
          refine walk ?_
          refine s_storeV (vs := nv (fillN i l)) rfl rfl rfl rfl rfl ?_
          refine walk ?_
          (first | (apply retRD2 (G := H) (.inr rfl) rfl; (· first | (refine rv_cell (v := .agg _) rfl (Cell.blk rfl)) | exact rv_cellA rfl Cells.blk0 rfl | (apply rv_cell; (· exact rfl); (· assumption)) | (apply rv_cellA; (· exact rfl); (· assumption); (· exact rfl))); (· first | (refine rv_tmp (v := .int _ _) rfl) | exact rv_tmp rfl); (· exact Ent.auto)) | (apply retRD2 (G := H) (.inl rfl) rfl; (· first | (refine rv_cell (v := .agg _) rfl (Cell.blk rfl)) | exact rv_cellA rfl Cells.blk0 rfl | (apply rv_cell; (· exact rfl); (· assumption)) | (apply rv_cellA; (· exact rfl); (· assumption); (· exact rfl))); (· first | (refine rv_tmp (v := .int _ _) rfl) | exact rv_tmp rfl); (· exact Ent.auto)))
          exact ⟨Ent.refl _, rfl⟩
        · rw [decide_eq_false hR, new_no (fun h => hR h.2)]
          refine walk ?_
          (refine s_build (cs := nv zeroN) ?_ rfl ?_; (· kernel_rfl))
          refine s_storeV (vs := nv zeroN) rfl rfl rfl rfl rfl ?_
          refine walk ?_
          (first | (apply retRD2 (G := H) (.inr rfl) rfl; (· first | (refine rv_cell (v := .agg _) rfl (Cell.blk rfl)) | exact rv_cellA rfl Cells.blk0 rfl | (apply rv_cell; (· exact rfl); (· assumption)) | (apply rv_cellA; (· exact rfl); (· assumption); (· exact rfl))); (· first | (refine rv_tmp (v := .int _ _) rfl) | exact rv_tmp rfl); (· exact Ent.auto)) | (apply retRD2 (G := H) (.inl rfl) rfl; (· first | (refine rv_cell (v := .agg _) rfl (Cell.blk rfl)) | exact rv_cellA rfl Cells.blk0 rfl | (apply rv_cell; (· exact rfl); (· assumption)) | (apply rv_cellA; (· exact rfl); (· assumption); (· exact rfl))); (· first | (refine rv_tmp (v := .int _ _) rfl) | exact rv_tmp rfl); (· exact Ent.auto)))
          exact ⟨Ent.refl _, rfl⟩
    · rw [new_no (fun h => hll (by rw [h.1, e]))]
      refine walk ?_
      (refine s_build (cs := nv zeroN) ?_ rfl ?_; (· kernel_rfl))
      refine s_storeV (vs := nv zeroN) rfl rfl rfl rfl rfl ?_
      refine walk ?_
      (first | (apply retRD2 (G := H) (.inr rfl) rfl; (· first | (refine rv_cell (v := .agg _) rfl (Cell.blk rfl)) | exact rv_cellA rfl Cells.blk0 rfl | (apply rv_cell; (· exact rfl); (· assumption)) | (apply rv_cellA; (· exact rfl); (· assumption); (· exact rfl))); (· first | (refine rv_tmp (v := .int _ _) rfl) | exact rv_tmp rfl); (· exact Ent.auto)) | (apply retRD2 (G := H) (.inl rfl) rfl; (· first | (refine rv_cell (v := .agg _) rfl (Cell.blk rfl)) | exact rv_cellA rfl Cells.blk0 rfl | (apply rv_cell; (· exact rfl); (· assumption)) | (apply rv_cellA; (· exact rfl); (· assumption); (· exact rfl))); (· first | (refine rv_tmp (v := .int _ _) rfl) | exact rv_tmp rfl); (· exact Ent.auto)))
      exact ⟨Ent.refl _, rfl⟩
  · have e : hasOf k = [] := by
      by_cases h : hasOf k = []
      · exact h
      · exact absurd (hasOf_kind h) hk
    rw [new_none e]
    refine s_call rfl (of_none hk) rfl ?_
    rintro _ _ ⟨e_, rfl⟩
    obtain rfl := e_.symm
    refine walk ?_
    refine s_alloc rfl ?_
    intro b6
    refine walk ?_
    refine s_storeV (vs := formC 0) rfl rfl rfl rfl rfl ?_
    refine walk ?_
    (refine s_build (cs := nv zeroN) ?_ rfl ?_; (· kernel_rfl))
    refine s_storeV (vs := nv zeroN) rfl rfl rfl rfl rfl ?_
    refine walk ?_
    (first | (apply retRD2 (G := H) (.inr rfl) rfl; (· first | (refine rv_cell (v := .agg _) rfl (Cell.blk rfl)) | exact rv_cellA rfl Cells.blk0 rfl | (apply rv_cell; (· exact rfl); (· assumption)) | (apply rv_cellA; (· exact rfl); (· assumption); (· exact rfl))); (· first | (refine rv_tmp (v := .int _ _) rfl) | exact rv_tmp rfl); (· exact Ent.auto)) | (apply retRD2 (G := H) (.inl rfl) rfl; (· first | (refine rv_cell (v := .agg _) rfl (Cell.blk rfl)) | exact rv_cellA rfl Cells.blk0 rfl | (apply rv_cell; (· exact rfl); (· assumption)) | (apply rv_cellA; (· exact rfl); (· assumption); (· exact rfl))); (· first | (refine rv_tmp (v := .int _ _) rfl) | exact rv_tmp rfl); (· exact Ent.auto)))
    exact ⟨Ent.refl _, rfl⟩
theorem rNew (hs : Rd B H 1 s l.length (zs l)) : Does Tryz.prog B 4 [.int .i64 k, s] H fun r H' => H' = H ∧ r = .tuple #[noteV (newN k l).1, .int .i64 (newN k l).2] := by
  refine Does.frame0 ?_
  unfold Rd at hs
  obtain ⟨ao, cap, rfl, hl, hm, ha⟩ := hs
  unfold maxLen at hm
  have hlen := hasOf_len k
  refine fn_intro 39 Tryz.func4 rfl rfl rfl ?_
  refine walk ?_
  refine s_alloc rfl ?_
  intro b4
  refine walk ?_
  refine s_call rfl (rHas) rfl ?_
  rintro _ _ ⟨e_, rfl⟩
  obtain rfl := e_.symm
  refine walk ?_
  refine s_slen rfl rfl ?_
  by_cases hll : l.length = (hasOf k).length
  · refine walk ?_
    (refine s_build (cs := nv ⟨k, -1, -1, -1, -1⟩) ?_ rfl ?_; (· kernel_rfl))
    refine s_alloc rfl ?_
    intro b7
    refine s_storeV (vs := nv ⟨k, -1, -1, -1, -1⟩) rfl rfl rfl rfl rfl ?_
    refine walk ?_
    refine wp_loopF (α := Nat) [8, 19, 20, 21, 22, 23, 24, 25, 26, 27, 28, 29, 30, 31, 32, 33] (fun j => [(8, .int .i64 (j : Nat))]) (fun j => blk b7 (nv (fillJ k (hasOf k) l j)) 25 + (blk b4 (nv zeroN) 25 + H)) (fun j => j ≤ (hasOf k).length) (fun j => (hasOf k).length - j) 0 agreed Ent.auto (Nat.zero_le _) ?_
    rintro j f hj
    simp only [putAll]
    refine walk ?_
    refine s_slen rfl rfl ?_
    by_cases hlt : j < (hasOf k).length
    · have hlj : j < l.length := by omega
      obtain ⟨bl, ol, rfl, hcl⟩ := Rd.addr hl ha hlj
      have hcell := hcl.cell (zs_get l j hlj)
      have hc := letters (List.getElem_mem hlt)
      have hfn := fill_next (k := k) hlt hlj
      refine walk ?_
      (refine wp_draw [8, 9] (.look 0 (.look 1 (.look 2 (.look 3 (.look 4 (.look 5 (.look 6 (.look 7 (.act 8 (.act 9 .nil .stop) .stop))))))))) (by kernel_rfl) ?_; (apply dw_look; (· exact rfl); (· exact rfl); (· (exact looked))); (apply dw_pure; (· exact rfl); (· exact rfl); (· (intro G; exact looked))); (apply dw_pure; (· exact rfl); (· exact rfl); (· (intro G; exact looked))); (apply dw_pure; (· exact rfl); (· exact rfl); (· (intro G; (refine s_sindex (j := j) rfl rfl rfl hlt rfl ?_); exact looked))); (apply dw_pure; (· exact rfl); (· exact rfl); (· (intro G; exact looked))); (apply dw_pure; (· exact rfl); (· exact rfl); (· (intro G; exact looked))); (apply dw_pure; (· exact rfl); (· exact rfl); (· (intro G; exact looked))); (apply dw_look; (· exact rfl); (· exact rfl); (· (exact looked))); skip)
      refine dw_do rfl rfl ?_ dw_stop
      refine s_call rfl (rwith (n := fillJ k (hasOf k) l j) (v := l[j]) hc) rfl ?_
      rintro _ _ ⟨e_, rfl⟩
      obtain rfl := e_.symm
      refine wpl_nil (qone ⟨(by refine st_past (by kernel_rfl) ?_; refine st_past (by kernel_rfl) ?_; exact st_nil), ?_⟩)
      (skip)
      refine dw_do0 rfl rfl ?_ dw_stop
      refine s_storeV (vs := nv (setL (fillJ k (hasOf k) l j) (hasOf k)[j] l[j])) rfl rfl rfl rfl rfl ?_
      rw [← hfn]
      refine wpl_nil (qone0 ⟨(by refine st_past (by kernel_rfl) ?_; refine st_past (by kernel_rfl) ?_; exact st_nil), ?_⟩)
      (refine dw_nil ?_; skip)
      refine walk ?_
      exact ⟨j + 1, asided, agreed, Ent.auto, hlt, by omega⟩
    · have hje : j = (hasOf k).length := by omega
      have ef : fillJ k (hasOf k) l j = fillN k l := by unfold fillN; rw [hje]
      rw [ef]
      refine walk ?_
      refine s_call rfl (rRight (n := fillN k l)) rfl ?_
      rintro _ _ ⟨e_, rfl⟩
      obtain rfl := e_.symm
      refine walk ?_
      by_cases hR : RightN (fillN k l)
      · rw [decide_eq_true hR, new_yes hll hR]
        refine walk ?_
        refine s_storeV (vs := nv (fillN k l)) rfl rfl rfl rfl rfl ?_
        refine walk ?_
        (first | (apply retRD2 (G := H) (.inr rfl) rfl; (· first | (refine rv_cell (v := .agg _) rfl (Cell.blk rfl)) | exact rv_cellA rfl Cells.blk0 rfl | (apply rv_cell; (· exact rfl); (· assumption)) | (apply rv_cellA; (· exact rfl); (· assumption); (· exact rfl))); (· first | (refine rv_tmp (v := .int _ _) rfl) | exact rv_tmp rfl); (· exact Ent.auto)) | (apply retRD2 (G := H) (.inl rfl) rfl; (· first | (refine rv_cell (v := .agg _) rfl (Cell.blk rfl)) | exact rv_cellA rfl Cells.blk0 rfl | (apply rv_cell; (· exact rfl); (· assumption)) | (apply rv_cellA; (· exact rfl); (· assumption); (· exact rfl))); (· first | (refine rv_tmp (v := .int _ _) rfl) | exact rv_tmp rfl); (· exact Ent.auto)))
        exact ⟨Ent.refl _, rfl⟩
      · rw [decide_eq_false hR, new_no (fun h => hR h.2)]
        refine walk ?_
        (refine s_build (cs := nv zeroN) ?_ rfl ?_; (· kernel_rfl))
        refine s_storeV (vs := nv zeroN) rfl rfl rfl rfl rfl ?_
        refine walk ?_
        (first | (apply retRD2 (G := H) (.inr rfl) rfl; (· first | (refine rv_cell (v := .agg _) rfl (Cell.blk rfl)) | exact rv_cellA rfl Cells.blk0 rfl | (apply rv_cell; (· exact rfl); (· assumption)) | (apply rv_cellA; (· exact rfl); (· assumption); (· exact rfl))); (· first | (refine rv_tmp (v := .int _ _) rfl) | exact rv_tmp rfl); (· exact Ent.auto)) | (apply retRD2 (G := H) (.inl rfl) rfl; (· first | (refine rv_cell (v := .agg _) rfl (Cell.blk rfl)) | exact rv_cellA rfl Cells.blk0 rfl | (apply rv_cell; (· exact rfl); (· assumption)) | (apply rv_cellA; (· exact rfl); (· assumption); (· exact rfl))); (· first | (refine rv_tmp (v := .int _ _) rfl) | exact rv_tmp rfl); (· exact Ent.auto)))
        exact ⟨Ent.refl _, rfl⟩
  · rw [new_no (fun h => hll h.1)]
    refine walk ?_
    (refine s_build (cs := nv zeroN) ?_ rfl ?_; (· kernel_rfl))
    refine s_storeV (vs := nv zeroN) rfl rfl rfl rfl rfl ?_
    refine walk ?_
    (first | (apply retRD2 (G := H) (.inr rfl) rfl; (· first | (refine rv_cell (v := .agg _) rfl (Cell.blk rfl)) | exact rv_cellA rfl Cells.blk0 rfl | (apply rv_cell; (· exact rfl); (· assumption)) | (apply rv_cellA; (· exact rfl); (· assumption); (· exact rfl))); (· first | (refine rv_tmp (v := .int _ _) rfl) | exact rv_tmp rfl); (· exact Ent.auto)) | (apply retRD2 (G := H) (.inl rfl) rfl; (· first | (refine rv_cell (v := .agg _) rfl (Cell.blk rfl)) | exact rv_cellA rfl Cells.blk0 rfl | (apply rv_cell; (· exact rfl); (· assumption)) | (apply rv_cellA; (· exact rfl); (· assumption); (· exact rfl))); (· first | (refine rv_tmp (v := .int _ _) rfl) | exact rv_tmp rfl); (· exact Ent.auto)))
    exact ⟨Ent.refl _, rfl⟩
theorem dNote : Does Tryz.prog B 7 [noteV n] H fun r H' => H' = H ∧ r = noteV n := by
  refine Does.frame0 ?_
  refine fn_intro 14 Tryz.func7 rfl rfl rfl ?_
  refine walk ?_
  refine s_box (cs := nv n) rfl rfl rfl ?_
  intro b
  refine s_alloc rfl ?_
  intro b2
  refine walk ?_
  (refine s_build (cs := nv n) ?_ rfl ?_; (· kernel_rfl))
  refine s_storeV (vs := nv n) rfl rfl rfl rfl rfl ?_
  refine walk ?_
  (first | (apply retRD1 (G := H) (.inr rfl) rfl; (· first | (refine rv_cell (v := .agg _) rfl (Cell.blk rfl)) | exact rv_cellA rfl Cells.blk0 rfl | (apply rv_cell; (· exact rfl); (· assumption)) | (apply rv_cellA; (· exact rfl); (· assumption); (· exact rfl))); (· exact Ent.auto)) | (apply retRD1 (G := H) (.inl rfl) rfl; (· first | (refine rv_cell (v := .agg _) rfl (Cell.blk rfl)) | exact rv_cellA rfl Cells.blk0 rfl | (apply rv_cell; (· exact rfl); (· assumption)) | (apply rv_cellA; (· exact rfl); (· assumption); (· exact rfl))); (· exact Ent.auto)))
  exact ⟨Ent.refl _, rfl⟩
end
end Go.Proofs.YtofgpppnknpblaaGreatDoor
