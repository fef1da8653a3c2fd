/- The laws on a config's cells, and their names. No condition. -/
import Derived.Test.YtoheplamhocloaaDoorCfConf5
namespace Go.Proofs.YtoheplamhocloaaDoor
open Go Go.SL
set_option linter.unusedSimpArgs false
set_option linter.unusedVariables false
set_option maxRecDepth 10000
set_option maxHeartbeats 2000000
abbrev exC : Cfg := ⟨2, 4, 8, 3, 5, 1⟩
theorem exR : RightP exC := by decide
theorem ex_all : allN exC = namesL 2 4 := by unfold allN; rw [if_pos exR]; rfl
theorem ex_flag : posS (allN exC) [102, 108, 97, 103, 32, 49] = 19 := by
  have h := pos_cell (n := 2) (q := 4) (p := 1) (i := 5) (by omega) (by omega)
  have e : cellN 4 1 5 = [102, 108, 97, 103, 32, 49] := by simp [cellN, partN, parts, Lib.decDigits]
  rw [e] at h
  rw [ex_all]
  exact h
theorem ex3 : nmC exC 3 = [115, 105, 122, 101] := nmC_at exR (nn := 2) (qq := 4) rfl rfl (k := 3) (by omega)
theorem ex12 : nmC exC 12 = [115, 108, 111, 116, 32, 48, 32, 50] := by
  have h := nmC_at exR (nn := 2) (qq := 4) rfl rfl (k := 12) (by omega)
  refine h.trans ?_
  simp [nameOf, cellN, slotN, slotW, Lib.decDigits]
theorem ex24 : nmC exC 24 = [] := by
  unfold nmC
  rw [if_neg fun h => absurd h.2.2 (by decide)]
theorem exT : textC exC = [110, 32, 50, 32, 113, 32, 52, 32, 103, 32, 56, 32, 109, 32, 51, 32, 116, 32, 53, 32, 115, 32, 49] := by
  unfold textC
  rw [if_pos exR, join6]
  simp [numAt, nums, exC, Lib.decDigits]
theorem ex_at1 : atV exC 1 0 = 14 := by decide
theorem ex_at2 : atV exC 0 (6 + 6 % exC.q) = 12 := by decide
theorem ex_at3 : atV exC 2 2 = -1 := by decide
section
variable {c : Cfg} {p i : Int}
theorem posS_nil (s : List UInt8) : posS [] s = -1 := rfl
theorem posS_ge (L : List (List UInt8)) (s : List UInt8) : posS L s = -1 ∨ 0 ≤ posS L s := by
  unfold posS
  split
  · right; omega
  · left; rfl
theorem cell_at {k : Nat} (hk : 0 ≤ p → RightP c → k < 6 + c.q.toNat) : (if 0 ≤ p ∧ p ≤ 8 ∧ RightP c then posS (allN c) (cellN c.q.toNat p.toNat k) else -1) = atV c p k := by
  unfold atV
  by_cases hR : RightP c
  · obtain ⟨nn, hn⟩ := Int.eq_ofNat_of_zero_le (show 0 ≤ c.n by have := hR.2.1; omega)
    obtain ⟨qq, hq⟩ := Int.eq_ofNat_of_zero_le (show 0 ≤ c.q by have := hR.1; unfold RoomP at this; omega)
    have h8 := hR.2.2.1
    have eall : allN c = namesL nn qq := by unfold allN; rw [if_pos hR, hn, hq]; rfl
    by_cases h0 : 0 ≤ p
    · obtain ⟨pp, rfl⟩ := Int.eq_ofNat_of_zero_le h0
      have hkk := hk h0 hR
      rw [hq, Int.toNat_natCast] at hkk
      rw [eall, hq, Int.toNat_natCast, Int.toNat_natCast]
      by_cases h1 : pp < nn
      · rw [if_pos ⟨h0, by omega, hR⟩, if_pos ⟨hR, h0, by omega⟩, pos_cell hkk h1]
        push_cast
        rfl
      · rw [if_neg (show ¬ (RightP c ∧ 0 ≤ (pp : Int) ∧ (pp : Int) ≤ c.n - 1) from fun h => by omega)]
        split
        · exact pos_cell_no (by omega)
        · rfl
    · rw [if_neg (fun h => h0 h.1), if_neg (fun h => h0 h.2.1)]
  · rw [if_neg (fun h => hR h.2.2), if_neg (fun h => hR h.1)]
theorem part_at {k : Nat} (hk : k < 6) : (if 0 ≤ p ∧ p ≤ 8 then posS (allN c) (parts.getD k [] ++ 32 :: dg p.toNat) else -1) = atV c p k := by
  rw [← cell_at (c := c) (p := p) (k := k) (fun _ _ => by omega)]
  unfold cellN partN
  rw [if_pos hk]
  by_cases hR : RightP c
  · by_cases hp : 0 ≤ p ∧ p ≤ 8
    · rw [if_pos hp, if_pos ⟨hp.1, hp.2, hR⟩]
    · rw [if_neg hp, if_neg (fun h => hp ⟨h.1, h.2.1⟩)]
  · rw [if_neg (show ¬ (0 ≤ p ∧ p ≤ 8 ∧ RightP c) from fun h => hR h.2.2)]
    have eall : allN c = [] := by unfold allN; rw [if_neg hR]
    rw [eall, posS_nil]
    split <;> rfl
theorem slot_at (hi : 0 ≤ i) : (if 0 ≤ p ∧ p ≤ 8 ∧ RightP c then posS (allN c) (slotN p.toNat (i % c.q).toNat) else -1) = atV c p (6 + i % c.q) := by
  by_cases hR : RightP c
  · have h1 := hR.1
    have hq2 : 2 ≤ c.q ∧ c.q ≤ 64 := by unfold RoomP at h1; omega
    obtain ⟨j, hj⟩ := Int.eq_ofNat_of_zero_le (Int.emod_nonneg i (show c.q ≠ 0 by omega))
    have hjq : (j : Int) < c.q := by have := Int.emod_lt_of_pos i (show 0 < c.q by omega); omega
    rw [hj, Int.toNat_natCast, show (6 + (j : Int)) = ((6 + j : Nat) : Int) by omega, ← cell_at (c := c) (p := p) (k := 6 + j) (fun _ _ => by omega)]
    unfold cellN
    rw [if_neg (show ¬ (6 + j < 6) by omega), Nat.add_sub_cancel_left]
  · rw [if_neg (fun h => hR h.2.2)]
    unfold atV
    rw [if_neg (fun h => hR h.1)]
end
attribute [local irreducible] WP WPL QSeq QBlk QRet Does Cell Cells Rd Mine Ent Aside RV Yield
section
variable {B : World} {F H G : HProp} {c : Cfg} {p i a : Int} {s : List UInt8}
theorem cellsA : Does Tryd.prog B 16 [cfgV c] H fun r H' => H' = H ∧ r = .int .i64 ((allN c).length : Nat) := by
  by_cases hR : RightP c
  · obtain ⟨nn, hn⟩ := Int.eq_ofNat_of_zero_le (show 0 ≤ c.n by have := hR.2.1; omega)
    obtain ⟨qq, hq⟩ := Int.eq_ofNat_of_zero_le (show 0 ≤ c.q by have := hR.1; unfold RoomP at this; omega)
    have := cells_yes (B := B) (H := H) hR hn hq
    rw [show (allN c).length = 4 + nn * (6 + qq) by rw [allN_len hR, hn, hq]; rfl]
    exact this
  · rw [show allN c = [] by unfold allN; rw [if_neg hR]]
    exact cells_no hR
theorem example_spec : Does Tryd.prog B 30 [] H fun r H' => H' = H ∧ r = cfgV exC := by
  refine Does.frame0 ?_
  refine fn_intro 2 Tryd.func30 rfl rfl rfl ?_
  refine walk ?_
  refine s_alloc rfl ?_
  intro b
  refine walk ?_
  (refine s_build (cs := cv exC) ?_ rfl ?_; (· kernel_rfl))
  refine s_storeV (vs := cv exC) rfl rfl rfl rfl rfl ?_
  refine walk ?_
  (first | (apply retRD1 (G := H) (.inr rfl) rfl; (· first | (refine rv_cell (v := .agg _) rfl (Cell.blk rfl)) | exact rv_cellA rfl Cells.blk0 rfl | (apply rv_cell; (· exact rfl); (· assumption)) | (apply rv_cellA; (· exact rfl); (· assumption); (· exact rfl))); (· exact Ent.auto)) | (apply retRD1 (G := H) (.inl rfl) rfl; (· first | (refine rv_cell (v := .agg _) rfl (Cell.blk rfl)) | exact rv_cellA rfl Cells.blk0 rfl | (apply rv_cell; (· exact rfl); (· assumption)) | (apply rv_cellA; (· exact rfl); (· assumption); (· exact rfl))); (· exact Ent.auto)))
  exact ⟨Ent.refl _, rfl⟩
theorem works_spec (T : Tab B) : Does Tryd.prog B 8 [] H fun r H' => H' = H ∧ r = .bool true := by
  refine Does.frame0 ?_
  refine fn_intro 60 Tryd.func8 rfl rfl rfl ?_
  refine walk ?_
  refine s_call rfl (example_spec) rfl ?_
  rintro _ _ ⟨e_, rfl⟩
  obtain rfl := e_.symm
  refine walk ?_
  refine s_alloc rfl ?_
  intro b
  refine walk ?_
  refine s_storeV (vs := cv exC) rfl rfl rfl rfl rfl ?_
  refine walk ?_
  refine s_call rfl (cFind (c := exC) (s := [102, 108, 97, 103, 32, 49])) rfl ?_
  rintro _ _ ⟨e_, rfl⟩
  obtain rfl := e_.symm
  refine walk ?_
  rw [ex_flag, if_neg (by decide)]
  refine walk ?_
  refine s_call rfl (cRight (c := exC)) rfl ?_
  rintro _ _ ⟨e_, rfl⟩
  obtain rfl := e_.symm
  refine walk ?_
  rw [decide_eq_true exR]
  refine walk ?_
  refine s_call rfl (cells_yes (c := exC) (n := 2) (q := 4) exR rfl rfl) rfl ?_
  rintro _ _ ⟨e_, rfl⟩
  obtain rfl := e_.symm
  rw [show (4 + 2 * (6 + 4) : Nat) = 24 from rfl]
  refine walk ?_
  refine s_call rfl (cWord (c := exC) (p := 1)) rfl ?_
  rintro _ _ ⟨e_, rfl⟩
  obtain rfl := e_.symm
  refine walk ?_
  rw [ex_at1]
  refine walk ?_
  refine s_call rfl (cSlot (c := exC) (p := 0) (i := 6) (by omega)) rfl ?_
  rintro _ _ ⟨e_, rfl⟩
  obtain rfl := e_.symm
  refine walk ?_
  rw [ex_at2]
  refine walk ?_
  refine s_call rfl (cStat (c := exC) (p := 2)) rfl ?_
  rintro _ _ ⟨e_, rfl⟩
  obtain rfl := e_.symm
  refine walk ?_
  rw [ex_at3]
  refine walk ?_
  refine s_call rfl (cName (c := exC) (a := 3)) rfl ?_
  rintro _ _ ⟨e_, rfl⟩
  obtain rfl := e_.symm
  refine walk ?_
  rw [ex3]
  refine s_eqstr rfl rfl (b := true) (decide_eq_true rfl) rfl ?_
  refine walk ?_
  refine s_call rfl (cName (c := exC) (a := 12)) rfl ?_
  rintro _ _ ⟨e_, rfl⟩
  obtain rfl := e_.symm
  refine walk ?_
  rw [ex12]
  refine s_eqstr rfl rfl (b := true) (decide_eq_true rfl) rfl ?_
  refine walk ?_
  refine s_call rfl (cName (c := exC) (a := 24)) rfl ?_
  rintro _ _ ⟨e_, rfl⟩
  obtain rfl := e_.symm
  refine walk ?_
  rw [ex24]
  refine s_eqstr rfl rfl (b := true) (decide_eq_true rfl) rfl ?_
  refine walk ?_
  refine s_call rfl (cText T (c := exC)) rfl ?_
  rintro _ _ ⟨e_, rfl⟩
  obtain rfl := e_.symm
  refine walk ?_
  rw [exT]
  refine s_eqstr rfl rfl (b := true) (decide_eq_true rfl) rfl ?_
  refine walk ?_
  (first | (apply retRD1 (G := H) (.inr rfl) rfl; (· first | (refine rv_tmp (v := .bool _) rfl) | exact rv_tmp rfl); (· exact Ent.auto)) | (apply retRD1 (G := H) (.inl rfl) rfl; (· first | (refine rv_tmp (v := .bool _) rfl) | exact rv_tmp rfl); (· exact Ent.auto)))
  exact ⟨Ent.refl _, rfl⟩
theorem cells_law (T : Tab B) (hi : 0 ≤ i ∧ i < 4294967296) : Does Tryd.prog B 4 [cfgV c, .int .i64 p, .int .u32 i] H fun r H' => H' = H ∧ r = .bool true := by
  refine Does.frame0 ?_
  refine fn_intro 74 Tryd.func4 rfl rfl rfl ?_
  refine walk ?_
  refine s_box (cs := cv c) rfl rfl rfl ?_
  intro b
  refine walk ?_
  refine s_call rfl (dConfig (c := c)) rfl ?_
  rintro _ _ ⟨e_, rfl⟩
  obtain rfl := e_.symm
  refine walk ?_
  refine s_alloc rfl ?_
  intro b2
  refine walk ?_
  refine s_storeV (vs := cv c) rfl rfl rfl rfl rfl ?_
  refine walk ?_
  by_cases hR : RightP c
  · have hdec := decide_eq_true hR
    (refine wp_draw [1, 3, 7, 9] (.look 0 (.look 2 (.act 1 (.act 3 (.look 4 (.look 5 (.look 6 (.look 8 (.act 7 (.act 9 (.look 10 (.look 11 (.look 12 .nil))) .stop) .stop))))) .stop) .stop))) (by kernel_rfl) ?_; (apply dw_look; (· exact rfl); (· exact rfl); (· (exact looked))); (apply dw_look; (· exact rfl); (· exact rfl); (· (exact looked))); skip)
    refine dw_do rfl rfl ?_ dw_stop
    refine s_call rfl (cRight (c := c)) rfl ?_
    rintro _ _ ⟨e_, rfl⟩
    obtain rfl := e_.symm
    rw [hdec]
    refine wpl_nil (qone ⟨(by (refine st_again ?_ ?_; (· exact looked)); refine st_past (by kernel_rfl) ?_; exact st_nil), ?_⟩)
    (skip)
    refine dw_do rfl rfl ?_ dw_stop
    refine s_call rfl (rRight (c := c)) rfl ?_
    rintro _ _ ⟨e_, rfl⟩
    obtain rfl := e_.symm
    rw [hdec]
    refine wpl_nil (qone ⟨(by refine st_past (by kernel_rfl) ?_; refine st_past (by kernel_rfl) ?_; exact st_nil), ?_⟩)
    ((apply dw_pure; (· exact rfl); (· exact rfl); (· (intro G; exact looked))); (apply dw_pure; (· exact rfl); (· exact rfl); (· (intro G; exact looked))); (apply dw_look; (· exact rfl); (· exact rfl); (· (exact looked))); (apply dw_look; (· exact rfl); (· exact rfl); (· (exact looked))); skip)
    refine dw_do rfl rfl ?_ dw_stop
    refine step_wanted rfl rfl ?_
    refine s_call rfl (cellsA (c := c)) rfl ?_
    rintro _ _ ⟨e_, rfl⟩
    obtain rfl := e_.symm
    refine wpl_nil (qone ⟨(by (refine st_again ?_ ?_; (· exact looked)); refine st_past (by kernel_rfl) ?_; refine st_past (by kernel_rfl) ?_; refine st_past (by kernel_rfl) ?_; exact st_nil), ?_⟩)
    (skip)
    refine dw_do rfl rfl ?_ dw_stop
    refine step_wanted rfl rfl ?_
    refine s_call rfl (rNames (c := c)) rfl ?_
    rintro v9 _ he
    refine WPL.ent he ?_
    refine WPL.shape ?_
    rintro ao cap rfl _ _ _
    refine wpl_nil (qone ⟨(by refine st_past (by kernel_rfl) ?_; refine st_past (by kernel_rfl) ?_; refine st_past (by kernel_rfl) ?_; refine st_past (by kernel_rfl) ?_; exact st_nil), ?_⟩)
    ((apply dw_pure; (· exact rfl); (· exact rfl); (· (intro G; exact looked))); (apply dw_pure; (· exact rfl); (· exact rfl); (· (intro G; exact looked))); (apply dw_pure; (· exact rfl); (· exact rfl); (· (intro G; exact looked))); refine dw_nil ?_; skip)
    refine walk ?_
    (refine wp_draw [2, 5, 8, 11, 14, 17, 18] (.look 0 (.look 1 (.look 3 (.look 4 (.look 6 (.look 7 (.look 9 (.look 10 (.look 12 (.look 13 (.look 15 (.look 16 (.act 2 (.act 5 (.act 8 (.act 11 (.act 14 (.act 17 (.act 18 (.look 19 .nil) .stop) .stop) .stop) .stop) .stop) .stop) .stop))))))))))))) (by kernel_rfl) ?_; (apply dw_look; (· exact rfl); (· exact rfl); (· (exact looked))); (apply dw_pure; (· exact rfl); (· exact rfl); (· (intro G; exact looked))); (apply dw_look; (· exact rfl); (· exact rfl); (· (exact looked))); (apply dw_pure; (· exact rfl); (· exact rfl); (· (intro G; exact looked))); (apply dw_look; (· exact rfl); (· exact rfl); (· (exact looked))); (apply dw_pure; (· exact rfl); (· exact rfl); (· (intro G; exact looked))); (apply dw_look; (· exact rfl); (· exact rfl); (· (exact looked))); (apply dw_pure; (· exact rfl); (· exact rfl); (· (intro G; exact looked))); (apply dw_look; (· exact rfl); (· exact rfl); (· (exact looked))); (apply dw_pure; (· exact rfl); (· exact rfl); (· (intro G; exact looked))); (apply dw_look; (· exact rfl); (· exact rfl); (· (exact looked))); (apply dw_pure; (· exact rfl); (· exact rfl); (· (intro G; exact looked))); skip)
    refine dw_do rfl rfl ?_ dw_stop
    refine s_call rfl (cWord (c := c) (p := p)) rfl ?_
    rintro _ _ ⟨e_, rfl⟩
    obtain rfl := e_.symm
    refine wpl_nil (qone ⟨(by (refine st_again ?_ ?_; (· exact looked)); (refine st_again ?_ ?_; (· exact looked)); (refine st_again ?_ ?_; (· exact looked)); (refine st_again ?_ ?_; (· exact looked)); (refine st_again ?_ ?_; (· exact looked)); refine st_past (by kernel_rfl) ?_; exact st_nil), ?_⟩)
    (skip)
    refine dw_do rfl rfl ?_ dw_stop
    refine s_call rfl (cNext (c := c) (p := p)) rfl ?_
    rintro _ _ ⟨e_, rfl⟩
    obtain rfl := e_.symm
    refine wpl_nil (qone ⟨(by (refine st_again ?_ ?_; (· exact looked)); (refine st_again ?_ ?_; (· exact looked)); (refine st_again ?_ ?_; (· exact looked)); (refine st_again ?_ ?_; (· exact looked)); refine st_past (by kernel_rfl) ?_; refine st_past (by kernel_rfl) ?_; exact st_nil), ?_⟩)
    (skip)
    refine dw_do rfl rfl ?_ dw_stop
    refine s_call rfl (cStat (c := c) (p := p)) rfl ?_
    rintro _ _ ⟨e_, rfl⟩
    obtain rfl := e_.symm
    refine wpl_nil (qone ⟨(by (refine st_again ?_ ?_; (· exact looked)); (refine st_again ?_ ?_; (· exact looked)); (refine st_again ?_ ?_; (· exact looked)); refine st_past (by kernel_rfl) ?_; refine st_past (by kernel_rfl) ?_; refine st_past (by kernel_rfl) ?_; exact st_nil), ?_⟩)
    (skip)
    refine dw_do rfl rfl ?_ dw_stop
    refine s_call rfl (cTick (c := c) (p := p)) rfl ?_
    rintro _ _ ⟨e_, rfl⟩
    obtain rfl := e_.symm
    refine wpl_nil (qone ⟨(by (refine st_again ?_ ?_; (· exact looked)); (refine st_again ?_ ?_; (· exact looked)); refine st_past (by kernel_rfl) ?_; refine st_past (by kernel_rfl) ?_; refine st_past (by kernel_rfl) ?_; refine st_past (by kernel_rfl) ?_; exact st_nil), ?_⟩)
    (skip)
    refine dw_do rfl rfl ?_ dw_stop
    refine s_call rfl (cSys (c := c) (p := p)) rfl ?_
    rintro _ _ ⟨e_, rfl⟩
    obtain rfl := e_.symm
    refine wpl_nil (qone ⟨(by (refine st_again ?_ ?_; (· exact looked)); refine st_past (by kernel_rfl) ?_; refine st_past (by kernel_rfl) ?_; refine st_past (by kernel_rfl) ?_; refine st_past (by kernel_rfl) ?_; refine st_past (by kernel_rfl) ?_; exact st_nil), ?_⟩)
    (skip)
    refine dw_do rfl rfl ?_ dw_stop
    refine s_call rfl (cFlag (c := c) (p := p)) rfl ?_
    rintro _ _ ⟨e_, rfl⟩
    obtain rfl := e_.symm
    refine wpl_nil (qone ⟨(by refine st_past (by kernel_rfl) ?_; refine st_past (by kernel_rfl) ?_; refine st_past (by kernel_rfl) ?_; refine st_past (by kernel_rfl) ?_; refine st_past (by kernel_rfl) ?_; refine st_past (by kernel_rfl) ?_; exact st_nil), ?_⟩)
    (skip)
    refine dw_do rfl rfl ?_ dw_stop
    refine s_buildInts (cs := zs [atV c p 0, atV c p 1, atV c p 2, atV c p 3, atV c p 4, atV c p 5]) rfl rfl rfl rfl rfl ?_
    intro b18
    refine wpl_nil (qone ⟨(by refine st_past (by kernel_rfl) ?_; refine st_past (by kernel_rfl) ?_; refine st_past (by kernel_rfl) ?_; refine st_past (by kernel_rfl) ?_; refine st_past (by kernel_rfl) ?_; refine st_past (by kernel_rfl) ?_; exact st_nil), ?_⟩)
    ((apply dw_pure; (· exact rfl); (· exact rfl); (· (intro G; exact looked))); refine dw_nil ?_; skip)
    refine walk ?_
    refine s_buildInts (cs := ss parts) rfl rfl rfl rfl rfl ?_
    intro b5
    refine walk ?_
    refine wp_loopR (α := Nat) [6, 10, 46, 47, 48, 49, 50, 51, 52, 53, 54, 55, 56, 57, 58, 59, 60, 61] (fun k => [(10, .int .i64 (k : Nat))]) (fun k => k ≤ 6) (fun k => 6 - k) 0 agreed (Nat.zero_le _) ?_
    rintro k f hk
    simp only [putAll]
    by_cases hk6 : k < 6
    · have ca : Cell B (blk b18 (zs [atV c p 0, atV c p 1, atV c p 2, atV c p 3, atV c p 4, atV c p 5]) 3) b18 k (.int .i64 (atV c p k)) := Cell.blk (by
        match k, hk6 with
        | 0, _ => rfl
        | 1, _ => rfl
        | 2, _ => rfl
        | 3, _ => rfl
        | 4, _ => rfl
        | 5, _ => rfl)
      have cp : Cell B (blk b5 (ss parts) 9) b5 k (str (parts.getD k [])) := Cell.blk (by rw [ss_get _ _ (by show k < 6; exact hk6), List.getD_eq_getElem?_getD, List.getElem?_eq_getElem (by show k < 6; exact hk6)]; rfl)
      have hpl := part_len k hk6
      refine walk ?_
      (refine wp_draw [10] (.look 0 (.look 1 (.look 2 (.look 3 (.look 4 (.look 5 (.look 6 (.look 7 (.look 8 (.look 9 (.act 10 (.look 11 .nil) .stop))))))))))) (by kernel_rfl) ?_; (apply dw_pure; (· exact rfl); (· exact rfl); (· (intro G; exact looked))); (apply dw_pure; (· exact rfl); (· exact rfl); (· (intro G; exact looked))); (apply dw_pure; (· exact rfl); (· exact rfl); (· (intro G; exact looked))); (apply dw_look; (· exact rfl); (· exact rfl); (· (exact looked))); (apply dw_look; (· exact rfl); (· exact rfl); (· (exact looked))); (apply dw_pure; (· exact rfl); (· exact rfl); (· (intro G; exact looked))); (apply dw_pure; (· exact rfl); (· exact rfl); (· (intro G; exact looked))); (apply dw_pure; (· exact rfl); (· exact rfl); (· (intro G; exact looked))); (apply dw_look; (· exact rfl); (· exact rfl); (· (exact looked))); (apply dw_pure; (· exact rfl); (· exact rfl); (· (intro G; exact looked))); skip)
      refine dw_do rfl rfl ?_ dw_stop
      refine s_call rfl (rOf (c := c) (p := p) (w := parts.getD k []) (by omega)) rfl ?_
      rintro _ _ ⟨e_, rfl⟩
      obtain rfl := e_.symm
      rw [part_at hk6]
      refine wpl_nil (qone ⟨(by refine st_past (by kernel_rfl) ?_; refine st_past (by kernel_rfl) ?_; (refine st_again ?_ ?_; (· exact looked)); exact st_nil), ?_⟩)
      ((apply dw_pure; (· exact rfl); (· exact rfl); (· (intro G; exact looked))); refine dw_nil ?_; skip)
      refine walk ?_
      exact ⟨k + 1, asided, agreed, Ent.refl _, hk6, by omega⟩
    · refine walk ?_
      (refine wp_draw [3, 7, 10] (.look 0 (.look 1 (.look 2 (.look 4 (.look 5 (.look 6 (.act 3 (.act 7 (.look 8 (.look 9 (.act 10 (.look 11 (.look 12 .nil)) .stop))) .stop) .stop))))))) (by kernel_rfl) ?_; (apply dw_look; (· exact rfl); (· exact rfl); (· (exact looked))); (apply dw_pure; (· exact rfl); (· exact rfl); (· (intro G; exact looked))); (apply dw_pure; (· exact rfl); (· exact rfl); (· (intro G; exact looked))); (apply dw_look; (· exact rfl); (· exact rfl); (· (exact looked))); (apply dw_pure; (· exact rfl); (· exact rfl); (· (intro G; exact looked))); (apply dw_pure; (· exact rfl); (· exact rfl); (· (intro G; exact looked))); skip)
      refine dw_do rfl rfl ?_ dw_stop
      refine s_call rfl (cSlot (c := c) (p := p) hi) rfl ?_
      rintro _ _ ⟨e_, rfl⟩
      obtain rfl := e_.symm
      refine wpl_nil (qone ⟨(by (refine st_again ?_ ?_; (· exact looked)); refine st_past (by kernel_rfl) ?_; exact st_nil), ?_⟩)
      (skip)
      refine dw_do rfl rfl ?_ dw_stop
      refine s_call rfl (rSlot (c := c) (p := p) hi) rfl ?_
      rintro _ _ ⟨e_, rfl⟩
      obtain rfl := e_.symm
      rw [slot_at hi.1]
      refine wpl_nil (qone ⟨(by refine st_past (by kernel_rfl) ?_; refine st_past (by kernel_rfl) ?_; exact st_nil), ?_⟩)
      ((apply dw_pure; (· exact rfl); (· exact rfl); (· (intro G; exact looked))); (apply dw_pure; (· exact rfl); (· exact rfl); (· (intro G; exact looked))); skip)
      refine dw_do rfl rfl ?_ dw_stop
      refine step_wanted rfl rfl ?_
      refine s_call rfl (works_spec T) rfl ?_
      rintro _ _ ⟨e_, rfl⟩
      obtain rfl := e_.symm
      refine wpl_nil (qone ⟨(by refine st_past (by kernel_rfl) ?_; refine st_past (by kernel_rfl) ?_; exact st_nil), ?_⟩)
      ((apply dw_pure; (· exact rfl); (· exact rfl); (· (intro G; exact looked))); (apply dw_pure; (· exact rfl); (· exact rfl); (· (intro G; exact looked))); refine dw_nil ?_; skip)
      refine walk ?_
      (first | (apply retRD1 (G := H) (.inr rfl) rfl; (· first | (refine rv_tmp (v := .bool _) rfl) | exact rv_tmp rfl); (· exact Ent.auto)) | (apply retRD1 (G := H) (.inl rfl) rfl; (· first | (refine rv_tmp (v := .bool _) rfl) | exact rv_tmp rfl); (· exact Ent.auto)))
      exact ⟨Ent.refl _, rfl⟩
  · have hdec := decide_eq_false hR
    (refine wp_draw [1, 3, 7, 9] (.look 0 (.look 2 (.act 1 (.act 3 (.look 4 (.look 5 (.look 6 (.look 8 (.act 7 (.act 9 (.look 10 (.look 11 (.look 12 .nil))) .stop) .stop))))) .stop) .stop))) (by kernel_rfl) ?_; (apply dw_look; (· exact rfl); (· exact rfl); (· (exact looked))); (apply dw_look; (· exact rfl); (· exact rfl); (· (exact looked))); skip)
    refine dw_do rfl rfl ?_ dw_stop
    refine s_call rfl (cRight (c := c)) rfl ?_
    rintro _ _ ⟨e_, rfl⟩
    obtain rfl := e_.symm
    rw [hdec]
    refine wpl_nil (qone ⟨(by (refine st_again ?_ ?_; (· exact looked)); refine st_past (by kernel_rfl) ?_; exact st_nil), ?_⟩)
    (skip)
    refine dw_do rfl rfl ?_ dw_stop
    refine s_call rfl (rRight (c := c)) rfl ?_
    rintro _ _ ⟨e_, rfl⟩
    obtain rfl := e_.symm
    rw [hdec]
    refine wpl_nil (qone ⟨(by refine st_past (by kernel_rfl) ?_; refine st_past (by kernel_rfl) ?_; exact st_nil), ?_⟩)
    ((apply dw_pure; (· exact rfl); (· exact rfl); (· (intro G; exact looked))); (apply dw_pure; (· exact rfl); (· exact rfl); (· (intro G; exact looked))); (apply dw_look; (· exact rfl); (· exact rfl); (· (exact looked))); (apply dw_look; (· exact rfl); (· exact rfl); (· (exact looked))); skip)
    refine dw_do rfl rfl ?_ dw_stop
    refine step_wanted rfl rfl ?_
    refine s_call rfl (cellsA (c := c)) rfl ?_
    rintro _ _ ⟨e_, rfl⟩
    obtain rfl := e_.symm
    refine wpl_nil (qone ⟨(by (refine st_again ?_ ?_; (· exact looked)); refine st_past (by kernel_rfl) ?_; refine st_past (by kernel_rfl) ?_; refine st_past (by kernel_rfl) ?_; exact st_nil), ?_⟩)
    (skip)
    refine dw_do rfl rfl ?_ dw_stop
    refine step_wanted rfl rfl ?_
    refine s_call rfl (rNames (c := c)) rfl ?_
    rintro v9 _ he
    refine WPL.ent he ?_
    refine WPL.shape ?_
    rintro ao cap rfl _ _ _
    refine wpl_nil (qone ⟨(by refine st_past (by kernel_rfl) ?_; refine st_past (by kernel_rfl) ?_; refine st_past (by kernel_rfl) ?_; refine st_past (by kernel_rfl) ?_; exact st_nil), ?_⟩)
    ((apply dw_pure; (· exact rfl); (· exact rfl); (· (intro G; exact looked))); (apply dw_pure; (· exact rfl); (· exact rfl); (· (intro G; exact looked))); (apply dw_pure; (· exact rfl); (· exact rfl); (· (intro G; exact looked))); refine dw_nil ?_; skip)
    refine walk ?_
    (refine wp_draw [2, 5, 8, 11, 14, 17, 18] (.look 0 (.look 1 (.look 3 (.look 4 (.look 6 (.look 7 (.look 9 (.look 10 (.look 12 (.look 13 (.look 15 (.look 16 (.act 2 (.act 5 (.act 8 (.act 11 (.act 14 (.act 17 (.act 18 (.look 19 .nil) .stop) .stop) .stop) .stop) .stop) .stop) .stop))))))))))))) (by kernel_rfl) ?_; (apply dw_look; (· exact rfl); (· exact rfl); (· (exact looked))); (apply dw_pure; (· exact rfl); (· exact rfl); (· (intro G; exact looked))); (apply dw_look; (· exact rfl); (· exact rfl); (· (exact looked))); (apply dw_pure; (· exact rfl); (· exact rfl); (· (intro G; exact looked))); (apply dw_look; (· exact rfl); (· exact rfl); (· (exact looked))); (apply dw_pure; (· exact rfl); (· exact rfl); (· (intro G; exact looked))); (apply dw_look; (· exact rfl); (· exact rfl); (· (exact looked))); (apply dw_pure; (· exact rfl); (· exact rfl); (· (intro G; exact looked))); (apply dw_look; (· exact rfl); (· exact rfl); (· (exact looked))); (apply dw_pure; (· exact rfl); (· exact rfl); (· (intro G; exact looked))); (apply dw_look; (· exact rfl); (· exact rfl); (· (exact looked))); (apply dw_pure; (· exact rfl); (· exact rfl); (· (intro G; exact looked))); skip)
    refine dw_do rfl rfl ?_ dw_stop
    refine s_call rfl (cWord (c := c) (p := p)) rfl ?_
    rintro _ _ ⟨e_, rfl⟩
    obtain rfl := e_.symm
    refine wpl_nil (qone ⟨(by (refine st_again ?_ ?_; (· exact looked)); (refine st_again ?_ ?_; (· exact looked)); (refine st_again ?_ ?_; (· exact looked)); (refine st_again ?_ ?_; (· exact looked)); (refine st_again ?_ ?_; (· exact looked)); refine st_past (by kernel_rfl) ?_; exact st_nil), ?_⟩)
    (skip)
    refine dw_do rfl rfl ?_ dw_stop
    refine s_call rfl (cNext (c := c) (p := p)) rfl ?_
    rintro _ _ ⟨e_, rfl⟩
    obtain rfl := e_.symm
    refine wpl_nil (qone ⟨(by (refine st_again ?_ ?_; (· exact looked)); (refine st_again ?_ ?_; (· exact looked)); (refine st_again ?_ ?_; (· exact looked)); (refine st_again ?_ ?_; (· exact looked)); refine st_past (by kernel_rfl) ?_; refine st_past (by kernel_rfl) ?_; exact st_nil), ?_⟩)
    (skip)
    refine dw_do rfl rfl ?_ dw_stop
    refine s_call rfl (cStat (c := c) (p := p)) rfl ?_
    rintro _ _ ⟨e_, rfl⟩
    obtain rfl := e_.symm
    refine wpl_nil (qone ⟨(by (refine st_again ?_ ?_; (· exact looked)); (refine st_again ?_ ?_; (· exact looked)); (refine st_again ?_ ?_; (· exact looked)); refine st_past (by kernel_rfl) ?_; refine st_past (by kernel_rfl) ?_; refine st_past (by kernel_rfl) ?_; exact st_nil), ?_⟩)
    (skip)
    refine dw_do rfl rfl ?_ dw_stop
    refine s_call rfl (cTick (c := c) (p := p)) rfl ?_
    rintro _ _ ⟨e_, rfl⟩
    obtain rfl := e_.symm
    refine wpl_nil (qone ⟨(by (refine st_again ?_ ?_; (· exact looked)); (refine st_again ?_ ?_; (· exact looked)); refine st_past (by kernel_rfl) ?_; refine st_past (by kernel_rfl) ?_; refine st_past (by kernel_rfl) ?_; refine st_past (by kernel_rfl) ?_; exact st_nil), ?_⟩)
    (skip)
    refine dw_do rfl rfl ?_ dw_stop
    refine s_call rfl (cSys (c := c) (p := p)) rfl ?_
    rintro _ _ ⟨e_, rfl⟩
    obtain rfl := e_.symm
    refine wpl_nil (qone ⟨(by (refine st_again ?_ ?_; (· exact looked)); refine st_past (by kernel_rfl) ?_; refine st_past (by kernel_rfl) ?_; refine st_past (by kernel_rfl) ?_; refine st_past (by kernel_rfl) ?_; refine st_past (by kernel_rfl) ?_; exact st_nil), ?_⟩)
    (skip)
    refine dw_do rfl rfl ?_ dw_stop
    refine s_call rfl (cFlag (c := c) (p := p)) rfl ?_
    rintro _ _ ⟨e_, rfl⟩
    obtain rfl := e_.symm
    refine wpl_nil (qone ⟨(by refine st_past (by kernel_rfl) ?_; refine st_past (by kernel_rfl) ?_; refine st_past (by kernel_rfl) ?_; refine st_past (by kernel_rfl) ?_; refine st_past (by kernel_rfl) ?_; refine st_past (by kernel_rfl) ?_; exact st_nil), ?_⟩)
    (skip)
    refine dw_do rfl rfl ?_ dw_stop
    refine s_buildInts (cs := zs [atV c p 0, atV c p 1, atV c p 2, atV c p 3, atV c p 4, atV c p 5]) rfl rfl rfl rfl rfl ?_
    intro b18
    refine wpl_nil (qone ⟨(by refine st_past (by kernel_rfl) ?_; refine st_past (by kernel_rfl) ?_; refine st_past (by kernel_rfl) ?_; refine st_past (by kernel_rfl) ?_; refine st_past (by kernel_rfl) ?_; refine st_past (by kernel_rfl) ?_; exact st_nil), ?_⟩)
    ((apply dw_pure; (· exact rfl); (· exact rfl); (· (intro G; exact looked))); refine dw_nil ?_; skip)
    refine walk ?_
    refine s_buildInts (cs := ss parts) rfl rfl rfl rfl rfl ?_
    intro b5
    refine walk ?_
    refine wp_loopR (α := Nat) [6, 10, 46, 47, 48, 49, 50, 51, 52, 53, 54, 55, 56, 57, 58, 59, 60, 61] (fun k => [(10, .int .i64 (k : Nat))]) (fun k => k ≤ 6) (fun k => 6 - k) 0 agreed (Nat.zero_le _) ?_
    rintro k f hk
    simp only [putAll]
    by_cases hk6 : k < 6
    · have ca : Cell B (blk b18 (zs [atV c p 0, atV c p 1, atV c p 2, atV c p 3, atV c p 4, atV c p 5]) 3) b18 k (.int .i64 (atV c p k)) := Cell.blk (by
        match k, hk6 with
        | 0, _ => rfl
        | 1, _ => rfl
        | 2, _ => rfl
        | 3, _ => rfl
        | 4, _ => rfl
        | 5, _ => rfl)
      have cp : Cell B (blk b5 (ss parts) 9) b5 k (str (parts.getD k [])) := Cell.blk (by rw [ss_get _ _ (by show k < 6; exact hk6), List.getD_eq_getElem?_getD, List.getElem?_eq_getElem (by show k < 6; exact hk6)]; rfl)
      have hpl := part_len k hk6
      refine walk ?_
      (refine wp_draw [10] (.look 0 (.look 1 (.look 2 (.look 3 (.look 4 (.look 5 (.look 6 (.look 7 (.look 8 (.look 9 (.act 10 (.look 11 .nil) .stop))))))))))) (by kernel_rfl) ?_; (apply dw_pure; (· exact rfl); (· exact rfl); (· (intro G; exact looked))); (apply dw_pure; (· exact rfl); (· exact rfl); (· (intro G; exact looked))); (apply dw_pure; (· exact rfl); (· exact rfl); (· (intro G; exact looked))); (apply dw_look; (· exact rfl); (· exact rfl); (· (exact looked))); (apply dw_look; (· exact rfl); (· exact rfl); (· (exact looked))); (apply dw_pure; (· exact rfl); (· exact rfl); (· (intro G; exact looked))); (apply dw_pure; (· exact rfl); (· exact rfl); (· (intro G; exact looked))); (apply dw_pure; (· exact rfl); (· exact rfl); (· (intro G; exact looked))); (apply dw_look; (· exact rfl); (· exact rfl); (· (exact looked))); (apply dw_pure; (· exact rfl); (· exact rfl); (· (intro G; exact looked))); skip)
      refine dw_do rfl rfl ?_ dw_stop
      refine s_call rfl (rOf (c := c) (p := p) (w := parts.getD k []) (by omega)) rfl ?_
      rintro _ _ ⟨e_, rfl⟩
      obtain rfl := e_.symm
      rw [part_at hk6]
      refine wpl_nil (qone ⟨(by refine st_past (by kernel_rfl) ?_; refine st_past (by kernel_rfl) ?_; (refine st_again ?_ ?_; (· exact looked)); exact st_nil), ?_⟩)
      ((apply dw_pure; (· exact rfl); (· exact rfl); (· (intro G; exact looked))); refine dw_nil ?_; skip)
      refine walk ?_
      exact ⟨k + 1, asided, agreed, Ent.refl _, hk6, by omega⟩
    · refine walk ?_
      (refine wp_draw [3, 7, 10] (.look 0 (.look 1 (.look 2 (.look 4 (.look 5 (.look 6 (.act 3 (.act 7 (.look 8 (.look 9 (.act 10 (.look 11 (.look 12 .nil)) .stop))) .stop) .stop))))))) (by kernel_rfl) ?_; (apply dw_look; (· exact rfl); (· exact rfl); (· (exact looked))); (apply dw_pure; (· exact rfl); (· exact rfl); (· (intro G; exact looked))); (apply dw_pure; (· exact rfl); (· exact rfl); (· (intro G; exact looked))); (apply dw_look; (· exact rfl); (· exact rfl); (· (exact looked))); (apply dw_pure; (· exact rfl); (· exact rfl); (· (intro G; exact looked))); (apply dw_pure; (· exact rfl); (· exact rfl); (· (intro G; exact looked))); skip)
      refine dw_do rfl rfl ?_ dw_stop
      refine s_call rfl (cSlot (c := c) (p := p) hi) rfl ?_
      rintro _ _ ⟨e_, rfl⟩
      obtain rfl := e_.symm
      refine wpl_nil (qone ⟨(by (refine st_again ?_ ?_; (· exact looked)); refine st_past (by kernel_rfl) ?_; exact st_nil), ?_⟩)
      (skip)
      refine dw_do rfl rfl ?_ dw_stop
      refine s_call rfl (rSlot (c := c) (p := p) hi) rfl ?_
      rintro _ _ ⟨e_, rfl⟩
      obtain rfl := e_.symm
      rw [slot_at hi.1]
      refine wpl_nil (qone ⟨(by refine st_past (by kernel_rfl) ?_; refine st_past (by kernel_rfl) ?_; exact st_nil), ?_⟩)
      ((apply dw_pure; (· exact rfl); (· exact rfl); (· (intro G; exact looked))); (apply dw_pure; (· exact rfl); (· exact rfl); (· (intro G; exact looked))); skip)
      refine dw_do rfl rfl ?_ dw_stop
      refine step_wanted rfl rfl ?_
      refine s_call rfl (works_spec T) rfl ?_
      rintro _ _ ⟨e_, rfl⟩
      obtain rfl := e_.symm
      refine wpl_nil (qone ⟨(by refine st_past (by kernel_rfl) ?_; refine st_past (by kernel_rfl) ?_; exact st_nil), ?_⟩)
      ((apply dw_pure; (· exact rfl); (· exact rfl); (· (intro G; exact looked))); (apply dw_pure; (· exact rfl); (· exact rfl); (· (intro G; exact looked))); refine dw_nil ?_; skip)
      refine walk ?_
      (first | (apply retRD1 (G := H) (.inr rfl) rfl; (· first | (refine rv_tmp (v := .bool _) rfl) | exact rv_tmp rfl); (· exact Ent.auto)) | (apply retRD1 (G := H) (.inl rfl) rfl; (· first | (refine rv_tmp (v := .bool _) rfl) | exact rv_tmp rfl); (· exact Ent.auto)))
      exact ⟨Ent.refl _, rfl⟩
theorem names_law (T : Tab B) : Does Tryd.prog B 3 [cfgV c, .int .i64 a, str s] H fun r H' => H' = H ∧ r = .bool true := by
  refine Does.frame0 ?_
  refine fn_intro 70 Tryd.func3 rfl rfl rfl ?_
  refine walk ?_
  refine s_box (cs := cv c) rfl rfl rfl ?_
  intro b
  refine walk ?_
  refine s_slen rfl rfl ?_
  by_cases hs : s.length ≤ 60
  · refine walk ?_
    refine s_call rfl (dConfig (c := c)) rfl ?_
    rintro _ _ ⟨e_, rfl⟩
    obtain rfl := e_.symm
    refine walk ?_
    refine s_alloc rfl ?_
    intro b2
    refine walk ?_
    refine s_storeV (vs := cv c) rfl rfl rfl rfl rfl ?_
    refine walk ?_
    refine s_call rfl (rNames (c := c)) rfl ?_
    rintro v9 _ he
    refine WPL.ent he ?_
    refine WPL.shape ?_
    rintro ao cap rfl _ hcap hm
    refine WPL.rd fun rd => ?_
    have rd' := rd
    unfold Rd at rd'
    obtain ⟨_, _, e_, hl, hmm, ha⟩ := rd'
    cases e_
    refine walk ?_
    by_cases h0 : 0 ≤ a
    · by_cases h1 : a < (allN c).length
      · obtain ⟨k, rfl⟩ := Int.eq_ofNat_of_zero_le h0
        have hk : k < (allN c).length := by omega
        have hname : nmC c k = (allN c)[k] := by rw [nmC_get, if_pos h0, Int.toNat_natCast, List.getD_eq_getElem?_getD, List.getElem?_eq_getElem hk]; rfl
        obtain ⟨bl, ol, rfl, hcl⟩ := Rd.addr hl ha hk
        have hcell := hcl.cell (ss_get (allN c) k hk)
        refine walk ?_
        refine s_call rfl (cFind (c := c) (s := s)) rfl ?_
        rintro _ _ ⟨e_, rfl⟩
        obtain rfl := e_.symm
        refine walk ?_
        refine s_call rfl (rFind (c := c) (s := s)) rfl ?_
        rintro _ _ ⟨e_, rfl⟩
        obtain rfl := e_.symm
        refine walk ?_
        refine s_call rfl (cName (c := c)) rfl ?_
        rintro _ _ ⟨e_, rfl⟩
        obtain rfl := e_.symm
        refine walk ?_
        rw [hname]
        refine s_eqstr rfl rfl (b := true) (decide_eq_true rfl) rfl ?_
        rcases posS_ge (allN c) s with hp | hp
        · rw [hp, if_pos rfl]
          refine walk ?_
          refine s_call rfl (works_spec T) rfl ?_
          rintro _ _ ⟨e_, rfl⟩
          obtain rfl := e_.symm
          refine walk ?_
          (first | (apply retRD1 (G := H) (.inr rfl) rfl; (· first | (refine rv_tmp (v := .bool _) rfl) | exact rv_tmp rfl); (· exact Ent.auto)) | (apply retRD1 (G := H) (.inl rfl) rfl; (· first | (refine rv_tmp (v := .bool _) rfl) | exact rv_tmp rfl); (· exact Ent.auto)))
          exact ⟨Ent.refl _, rfl⟩
        · rw [if_neg (show ¬ posS (allN c) s = -1 by omega)]
          generalize posS (allN c) s = kk at *
          refine walk ?_
          refine s_call rfl (works_spec T) rfl ?_
          rintro _ _ ⟨e_, rfl⟩
          obtain rfl := e_.symm
          refine walk ?_
          (first | (apply retRD1 (G := H) (.inr rfl) rfl; (· first | (refine rv_tmp (v := .bool _) rfl) | exact rv_tmp rfl); (· exact Ent.auto)) | (apply retRD1 (G := H) (.inl rfl) rfl; (· first | (refine rv_tmp (v := .bool _) rfl) | exact rv_tmp rfl); (· exact Ent.auto)))
          exact ⟨Ent.refl _, rfl⟩
      · have hname : nmC c a = [] := by rw [nmC_get, if_pos h0, List.getD_eq_getElem?_getD, List.getElem?_eq_none (by omega)]; rfl
        refine walk ?_
        refine s_call rfl (cFind (c := c) (s := s)) rfl ?_
        rintro _ _ ⟨e_, rfl⟩
        obtain rfl := e_.symm
        refine walk ?_
        refine s_call rfl (rFind (c := c) (s := s)) rfl ?_
        rintro _ _ ⟨e_, rfl⟩
        obtain rfl := e_.symm
        refine walk ?_
        refine s_call rfl (cName (c := c)) rfl ?_
        rintro _ _ ⟨e_, rfl⟩
        obtain rfl := e_.symm
        refine walk ?_
        rw [hname]
        refine s_eqstr rfl rfl (b := true) (decide_eq_true rfl) rfl ?_
        rcases posS_ge (allN c) s with hp | hp
        · rw [hp, if_pos rfl]
          refine walk ?_
          refine s_call rfl (works_spec T) rfl ?_
          rintro _ _ ⟨e_, rfl⟩
          obtain rfl := e_.symm
          refine walk ?_
          (first | (apply retRD1 (G := H) (.inr rfl) rfl; (· first | (refine rv_tmp (v := .bool _) rfl) | exact rv_tmp rfl); (· exact Ent.auto)) | (apply retRD1 (G := H) (.inl rfl) rfl; (· first | (refine rv_tmp (v := .bool _) rfl) | exact rv_tmp rfl); (· exact Ent.auto)))
          exact ⟨Ent.refl _, rfl⟩
        · rw [if_neg (show ¬ posS (allN c) s = -1 by omega)]
          generalize posS (allN c) s = kk at *
          refine walk ?_
          refine s_call rfl (works_spec T) rfl ?_
          rintro _ _ ⟨e_, rfl⟩
          obtain rfl := e_.symm
          refine walk ?_
          (first | (apply retRD1 (G := H) (.inr rfl) rfl; (· first | (refine rv_tmp (v := .bool _) rfl) | exact rv_tmp rfl); (· exact Ent.auto)) | (apply retRD1 (G := H) (.inl rfl) rfl; (· first | (refine rv_tmp (v := .bool _) rfl) | exact rv_tmp rfl); (· exact Ent.auto)))
          exact ⟨Ent.refl _, rfl⟩
    · have hname : nmC c a = [] := by rw [nmC_get, if_neg h0]
      refine walk ?_
      refine s_call rfl (cFind (c := c) (s := s)) rfl ?_
      rintro _ _ ⟨e_, rfl⟩
      obtain rfl := e_.symm
      refine walk ?_
      refine s_call rfl (rFind (c := c) (s := s)) rfl ?_
      rintro _ _ ⟨e_, rfl⟩
      obtain rfl := e_.symm
      refine walk ?_
      refine s_call rfl (cName (c := c)) rfl ?_
      rintro _ _ ⟨e_, rfl⟩
      obtain rfl := e_.symm
      refine walk ?_
      rw [hname]
      refine s_eqstr rfl rfl (b := true) (decide_eq_true rfl) rfl ?_
      rcases posS_ge (allN c) s with hp | hp
      · rw [hp, if_pos rfl]
        refine walk ?_
        refine s_call rfl (works_spec T) rfl ?_
        rintro _ _ ⟨e_, rfl⟩
        obtain rfl := e_.symm
        refine walk ?_
        (first | (apply retRD1 (G := H) (.inr rfl) rfl; (· first | (refine rv_tmp (v := .bool _) rfl) | exact rv_tmp rfl); (· exact Ent.auto)) | (apply retRD1 (G := H) (.inl rfl) rfl; (· first | (refine rv_tmp (v := .bool _) rfl) | exact rv_tmp rfl); (· exact Ent.auto)))
        exact ⟨Ent.refl _, rfl⟩
      · rw [if_neg (show ¬ posS (allN c) s = -1 by omega)]
        generalize posS (allN c) s = kk at *
        refine walk ?_
        refine s_call rfl (works_spec T) rfl ?_
        rintro _ _ ⟨e_, rfl⟩
        obtain rfl := e_.symm
        refine walk ?_
        (first | (apply retRD1 (G := H) (.inr rfl) rfl; (· first | (refine rv_tmp (v := .bool _) rfl) | exact rv_tmp rfl); (· exact Ent.auto)) | (apply retRD1 (G := H) (.inl rfl) rfl; (· first | (refine rv_tmp (v := .bool _) rfl) | exact rv_tmp rfl); (· exact Ent.auto)))
        exact ⟨Ent.refl _, rfl⟩
  · refine walk ?_
    refine s_call rfl (works_spec T) rfl ?_
    rintro _ _ ⟨e_, rfl⟩
    obtain rfl := e_.symm
    refine walk ?_
    (first | (apply retRD1 (G := H) (.inr rfl) rfl; (· first | (refine rv_tmp (v := .bool _) rfl) | exact rv_tmp rfl); (· exact Ent.auto)) | (apply retRD1 (G := H) (.inl rfl) rfl; (· first | (refine rv_tmp (v := .bool _) rfl) | exact rv_tmp rfl); (· exact Ent.auto)))
    exact ⟨Ent.refl _, rfl⟩
end
end Go.Proofs.YtoheplamhocloaaDoor
