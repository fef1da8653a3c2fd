/- The document's answer for words. No condition. -/
import Derived.Test.YtdmfojjpanndoaaDoorWdWordf
import Derived.Test.YtdmfojjpanndoaaDoorSLWalk2
namespace Go.Proofs.YtdmfojjpanndoaaDoor
open Go Go.SL
set_option linter.unusedSimpArgs false
set_option linter.unusedVariables false
set_option maxRecDepth 10000
set_option maxHeartbeats 1000000
/-- A word, as a head and a tail. -/
abbrev wA (h t : Int) : Value := .agg [.int .u32 h, .int .u32 t].toArray
/-- What is done to a word, of a room. -/
def oneW (q k : Int) (p : Int × Int) : Int × Int :=
  if k = 1 then (if 0 < (p.2 - p.1) % 4294967296 then ((p.1 + 1) % 4294967296, p.2) else p)
  else if k = 2 then ((p.1 + (p.2 - p.1) % 4294967296 - (p.2 - p.1) % 4294967296 / 2) % 4294967296, p.2)
  else if k = 3 then (if (p.2 - p.1) % 4294967296 < q then (p.1, (p.2 + 1) % 4294967296) else p)
  else if k = 4 then (if q ≤ (p.2 - p.1) % 4294967296 then (p.1, (p.2 - q / 2) % 4294967296) else p)
  else p
theorem oneW_u32 {q k : Int} {p : Int × Int} (h : U32 p.1 ∧ U32 p.2) : U32 (oneW q k p).1 ∧ U32 (oneW q k p).2 := by
  obtain ⟨h1, h2⟩ := h
  unfold oneW
  unfold U32 at *
  split
  · split <;> omega
  split
  · omega
  split
  · split <;> omega
  split
  · split <;> omega
  · exact ⟨h1, h2⟩
attribute [local irreducible] WP WPL QSeq QBlk QRet Does Cell Cells Rd Mine Ent Aside RV
section
variable {B : World} {H F : HProp} {h t n p q k w : Int}
theorem rRoom2 {q : Int} : Does Tryd.prog B 21 [.int .i64 q] H fun r H' => H' = H ∧ r = .bool (decide (0 ≤ q) && isRoom q.toNat) := by
  refine Does.frame0 ?_
  refine fn_intro 11 Tryd.func21 rfl rfl rfl ?_
  refine walk ?_
  refine wp_loopR (α := Nat) [2, 3, 4, 5, 6, 7, 8, 9, 10] (fun k => [(3, .int .i64 k)]) (fun k => ∃ j, j ≤ 16 ∧ k = 2 ^ (j + 1) ∧ ∀ i, i < j → q ≠ ((2 ^ (i + 1) : Nat) : Int)) (fun k => 131073 - k) 2 agreed ⟨0, by omega, rfl, fun i h => absurd h (Nat.not_lt_zero i)⟩ ?_
  rintro k g0 ⟨j, hj, hk, hq⟩
  simp only [putAll]
  have hk17 : k ≤ 131072 := by rw [hk]; exact Nat.pow_le_pow_right (by omega) (show j + 1 ≤ 17 by omega)
  have hk2 : 2 ≤ k := by
    have := Nat.pow_le_pow_right (n := 2) (by omega) (show 1 ≤ j + 1 by omega)
    rw [Nat.pow_one, ← hk] at this
    exact this
  by_cases hle : k ≤ 65536
  · have hj15 : j ≤ 15 := by
      by_cases h : j = 16
      · subst h; omega
      · omega
    by_cases he : (k : Int) = q
    · refine walk ?_
      refine ret1 (v := .bool _) (.inr rfl) rfl rfl ⟨Ent.refl _, ?_⟩
      have h1 : isRoom q.toNat = true := by
        rw [← he, Int.toNat_natCast, hk]
        exact isRoom_pow (by omega) (by omega)
      rw [h1, decide_eq_true (show 0 ≤ q by omega)]
      rfl
    · refine walk ?_
      refine ⟨k * 2, asided, agreed, Ent.refl _, ⟨j + 1, by omega, by rw [hk]; exact (Nat.pow_succ ..).symm, fun i hi => ?_⟩, by omega⟩
      by_cases hij : i = j
      · subst hij
        rw [← hk]
        omega
      · exact hq i (by omega)
  · have hj16 : j = 16 := by
      by_cases h : j = 16
      · exact h
      · have : k ≤ 65536 := by rw [hk]; exact Nat.pow_le_pow_right (by omega) (show j + 1 ≤ 16 by omega)
        omega
    refine walk ?_
    refine ret1 (v := .bool _) (.inr rfl) rfl rfl ⟨Ent.refl _, ?_⟩
    congr 1
    symm
    rw [Bool.and_eq_false_iff]
    by_cases h0 : 0 ≤ q
    · right
      cases hr : isRoom q.toNat with
      | false => rfl
      | true =>
        obtain ⟨m, h1, h2, h3⟩ := room_pow hr
        have := hq (m - 1) (by omega)
        rw [show m - 1 + 1 = m by omega, ← h3] at this
        omega
    · left
      exact decide_eq_false h0
theorem rOf (hw : 0 ≤ w ∧ w < 18446744073709551616) : Does Tryd.prog B 9 [.int .u64 w] H fun r H' => H' = H ∧ r = wA (w / 4294967296) (w % 4294967296) := by
  refine fn_intro 10 Tryd.func9 rfl rfl rfl ?_
  refine walkG ?_
  repeat ((first | (show WPL _ _ _ _ _ (⟨_, .alloc _, _, _, _, none⟩ :: _) _ _ _; refine s_alloc rfl ?_; intro _)); refine walkG ?_)
  refine s_build (cs := [.int .u32 (w / 4294967296), .int .u32 (w % 4294967296)]) rfl rfl ?_
  refine walkG ?_
  repeat ((first | (show WPL _ _ _ _ _ (⟨_, .alloc _, _, _, _, none⟩ :: _) _ _ _; refine s_alloc rfl ?_; intro _)); refine walkG ?_)
  (first | (apply retRD1 (G := H) (.inr rfl) rfl; (· first | (refine rv_cell (v := .agg _) rfl (Cell.blk rfl)) | exact rv_cellA rfl Cells.blk0 rfl | (apply rv_cell; (· exact rfl); (· assumption)) | (apply rv_cellA; (· exact rfl); (· assumption); (· exact rfl))); (· exact Ent.auto)) | (apply retRD1 (G := H) (.inl rfl) rfl; (· first | (refine rv_cell (v := .agg _) rfl (Cell.blk rfl)) | exact rv_cellA rfl Cells.blk0 rfl | (apply rv_cell; (· exact rfl); (· assumption)) | (apply rv_cellA; (· exact rfl); (· assumption); (· exact rfl))); (· exact Ent.auto)))
  exact ⟨rfl, rfl⟩
theorem rLen : Does Tryd.prog B 15 [wA h t] H fun r H' => H' = H ∧ r = .int .u32 ((t - h) % 4294967296) := by
  refine fn_intro 8 Tryd.func15 rfl rfl rfl ?_
  refine walkG ?_
  repeat ((first | (show WPL _ _ _ _ _ (⟨_, .box _ _, _, _, _, none⟩ :: _) _ _ _; (first | refine s_box (v := .int _ _) rfl rfl rfl ?_ | refine s_box (v := .pointer _) rfl rfl rfl ?_ | refine s_box (v := .slice _ _ _) rfl rfl rfl ?_ | refine s_box (v := .bool _) rfl rfl rfl ?_ | refine s_box (v := .agg _) rfl rfl rfl ?_ | refine s_box (v := .string _) rfl rfl rfl ?_ | refine s_box (v := .func _ _ _) rfl rfl rfl ?_ | refine s_box (v := .float _ _) rfl rfl rfl ?_); intro _)); refine walkG ?_)
  (first | (apply retRD1 (G := H) (.inr rfl) rfl; (· first | (refine rv_tmp (v := .int _ _) rfl) | exact rv_tmp rfl); (· exact Ent.auto)) | (apply retRD1 (G := H) (.inl rfl) rfl; (· first | (refine rv_tmp (v := .int _ _) rfl) | exact rv_tmp rfl); (· exact Ent.auto)))
  exact ⟨rfl, rfl⟩
theorem rPack (h1 : U32 h) (h2 : U32 t) : Does Tryd.prog B 16 [wA h t] H fun r H' => H' = H ∧ r = wd h t := by
  refine fn_intro 11 Tryd.func16 rfl rfl rfl ?_
  refine walkG ?_
  repeat ((first | (show WPL _ _ _ _ _ (⟨_, .box _ _, _, _, _, none⟩ :: _) _ _ _; (first | refine s_box (v := .int _ _) rfl rfl rfl ?_ | refine s_box (v := .pointer _) rfl rfl rfl ?_ | refine s_box (v := .slice _ _ _) rfl rfl rfl ?_ | refine s_box (v := .bool _) rfl rfl rfl ?_ | refine s_box (v := .agg _) rfl rfl rfl ?_ | refine s_box (v := .string _) rfl rfl rfl ?_ | refine s_box (v := .func _ _ _) rfl rfl rfl ?_ | refine s_box (v := .float _ _) rfl rfl rfl ?_); intro _)); refine walkG ?_)
  (first | (apply retRD1 (G := H) (.inr rfl) rfl; (· first | (refine rv_tmp (v := .int _ _) rfl) | exact rv_tmp rfl); (· exact Ent.auto)) | (apply retRD1 (G := H) (.inl rfl) rfl; (· first | (refine rv_tmp (v := .int _ _) rfl) | exact rv_tmp rfl); (· exact Ent.auto)))
  exact ⟨rfl, rfl⟩
theorem autoRef0210 {p q : Prop} (k : q) (h : Owed q → p := by
  intro k_
  refine walkG ?_
  repeat ((first | (show WPL _ _ _ _ _ (⟨_, .call ⟨.value (.func 21), _, _⟩, _, _, _, none⟩ :: _) _ _ _; (apply s_call; (· exact rfl); (· exact rRoom2); (· exact rfl); rintro _ _ ⟨e_, rfl⟩; obtain rfl := e_.symm))); refine walkG ?_)
  exact k_.get) : p := h ⟨k⟩
theorem rSlot (hp : U32 p) : Does Tryd.prog B 23 [.int .u32 p, .int .i64 q] H fun r H' => H' = H ∧ r = .int .i64 (if (decide (0 ≤ q) && isRoom q.toNat) = true then p % q else 0) := by
  refine fn_intro 13 Tryd.func23 rfl rfl rfl ?_
  cases hr : (decide (0 ≤ q) && isRoom q.toNat) with
  | true =>
    have hb : 2 ≤ q ∧ q ≤ 65536 := by
      rw [Bool.and_eq_true] at hr
      have := room_bound hr.2
      omega
    have hm1 := Int.emod_nonneg p (show q ≠ 0 by omega)
    have hm2 := Int.emod_lt_of_pos p (show 0 < q by omega)
    refine autoRef0210 ?_
    rw [hr]
    refine autoRef0210 ?_
    (first | (apply retRD1 (G := H) (.inr rfl) rfl; (· first | (refine rv_tmp (v := .int _ _) rfl) | exact rv_tmp rfl); (· exact Ent.auto)) | (apply retRD1 (G := H) (.inl rfl) rfl; (· first | (refine rv_tmp (v := .int _ _) rfl) | exact rv_tmp rfl); (· exact Ent.auto)))
    exact ⟨rfl, rfl⟩
  | false =>
    refine autoRef0210 ?_
    rw [hr]
    refine autoRef0210 ?_
    (first | (apply retRD1 (G := H) (.inr rfl) rfl; (· first | (refine rv_tmp (v := .int _ _) rfl) | exact rv_tmp rfl); (· exact Ent.auto)) | (apply retRD1 (G := H) (.inl rfl) rfl; (· first | (refine rv_tmp (v := .int _ _) rfl) | exact rv_tmp rfl); (· exact Ent.auto)))
    exact ⟨rfl, rfl⟩
theorem autoRef0213 {p q : Prop} (k : q) (h : Owed q → p := by
  intro k_
  refine walkG ?_
  repeat ((first | (show WPL _ _ _ _ _ (⟨_, .call ⟨.value (.func 15), _, _⟩, _, _, _, none⟩ :: _) _ _ _; (apply s_call; (· exact rfl); (· exact rLen); (· exact rfl); rintro _ _ ⟨e_, rfl⟩; obtain rfl := e_.symm))); refine walkG ?_)
  exact k_.get) : p := h ⟨k⟩
theorem rHas : Does Tryd.prog B 25 [wA h t, .int .u32 p] H fun r H' => H' = H ∧ r = .bool (decide ((p - h) % 4294967296 < (t - h) % 4294967296)) := by
  refine fn_intro 12 Tryd.func25 rfl rfl rfl ?_
  refine autoRef0213 ?_
  repeat ((first | (show WPL _ _ _ _ _ (⟨_, .box _ _, _, _, _, none⟩ :: _) _ _ _; (first | refine s_box (v := .int _ _) rfl rfl rfl ?_ | refine s_box (v := .pointer _) rfl rfl rfl ?_ | refine s_box (v := .slice _ _ _) rfl rfl rfl ?_ | refine s_box (v := .bool _) rfl rfl rfl ?_ | refine s_box (v := .agg _) rfl rfl rfl ?_ | refine s_box (v := .string _) rfl rfl rfl ?_ | refine s_box (v := .func _ _ _) rfl rfl rfl ?_ | refine s_box (v := .float _ _) rfl rfl rfl ?_); intro _) | (show WP _ _ _ _ (.region 1 _ true) _ _ _; (refine wp_draw [5] (.look 0 (.look 1 (.look 2 (.look 3 (.look 4 (.act 5 (.look 6 (.look 7 .nil)) .stop)))))) (by kernel_rfl) ?_; (apply dw_pure; (· exact rfl); (· exact rfl); (· (intro G; exact lookedG))); (apply dw_pure; (· exact rfl); (· exact rfl); (· (intro G; exact lookedG))); (apply dw_look; (· exact rfl); (· exact rfl); (· (exact lookedG))); (apply dw_pure; (· exact rfl); (· exact rfl); (· (intro G; exact lookedG))); (apply dw_look; (· exact rfl); (· exact rfl); (· (exact lookedG))); skip); refine dw_do rfl rfl ?_ dw_stop; (first | (apply s_call; (· exact rfl); (· exact rLen); (· exact rfl); rintro _ _ ⟨e_, rfl⟩; obtain rfl := e_.symm)); refine wpl_nil (qone ⟨(by refine st_past (by kernel_rfl) ?_; (refine st_again ?_ ?_; (· exact lookedG)); exact st_nil), ?_⟩); ((apply dw_pure; (· exact rfl); (· exact rfl); (· (intro G; exact lookedG))); (apply dw_pure; (· exact rfl); (· exact rfl); (· (intro G; exact lookedG))); refine dw_nil ?_; skip))); refine autoRef0213 ?_)
  (first | (apply retRD1 (G := H) (.inr rfl) rfl; (· first | (refine rv_tmp (v := .bool _) rfl) | exact rv_tmp rfl); (· exact Ent.auto)) | (apply retRD1 (G := H) (.inl rfl) rfl; (· first | (refine rv_tmp (v := .bool _) rfl) | exact rv_tmp rfl); (· exact Ent.auto)))
  exact ⟨rfl, rfl⟩
theorem autoRef0216 {p q : Prop} (k : q) (h : Owed q → p := by
  intro k_
  refine walkG ?_
  repeat ((first | (show WPL _ _ _ _ _ (⟨_, .call ⟨.value (.func 15), _, _⟩, _, _, _, none⟩ :: _) _ _ _; (apply s_call; (· exact rfl); (· exact rLen); (· exact rfl); rintro _ _ ⟨e_, rfl⟩; obtain rfl := e_.symm))); refine walkG ?_)
  exact k_.get) : p := h ⟨k⟩
theorem rOne (h1 : U32 h) (h2 : U32 t) (hq : U32 q) : Does Tryd.prog B 32 [wA h t, .int .u32 q, .int .i64 k] H fun r H' => H' = H ∧ r = wA (oneW q k (h, t)).1 (oneW q k (h, t)).2 := by
  refine fn_intro 50 Tryd.func32 rfl rfl rfl ?_
  refine autoRef0216 ?_
  repeat ((first | (show WPL _ _ _ _ _ (⟨_, .alloc _, _, _, _, none⟩ :: _) _ _ _; refine s_alloc rfl ?_; intro _) | (show WPL _ _ _ _ _ (⟨_, .box _ _, _, _, _, none⟩ :: _) _ _ _; (first | refine s_box (v := .int _ _) rfl rfl rfl ?_ | refine s_box (v := .pointer _) rfl rfl rfl ?_ | refine s_box (v := .slice _ _ _) rfl rfl rfl ?_ | refine s_box (v := .bool _) rfl rfl rfl ?_ | refine s_box (v := .agg _) rfl rfl rfl ?_ | refine s_box (v := .string _) rfl rfl rfl ?_ | refine s_box (v := .func _ _ _) rfl rfl rfl ?_ | refine s_box (v := .float _ _) rfl rfl rfl ?_); intro _)); refine autoRef0216 ?_)
  refine wp_cond_b rfl (fun k1 => ?_) (fun k1 => ?_) <;> try simp only [decide_eq_true_eq, decide_eq_false_iff_not, Bool.not_eq_true', Bool.not_eq_false', Bool.and_eq_true, Bool.or_eq_true, Bool.or_eq_false_iff] at k1
  · refine autoRef0216 ?_
    repeat ((first | (show WPL _ _ _ _ _ (⟨_, .alloc _, _, _, _, none⟩ :: _) _ _ _; refine s_alloc rfl ?_; intro _) | (show WPL _ _ _ _ _ (⟨_, .box _ _, _, _, _, none⟩ :: _) _ _ _; (first | refine s_box (v := .int _ _) rfl rfl rfl ?_ | refine s_box (v := .pointer _) rfl rfl rfl ?_ | refine s_box (v := .slice _ _ _) rfl rfl rfl ?_ | refine s_box (v := .bool _) rfl rfl rfl ?_ | refine s_box (v := .agg _) rfl rfl rfl ?_ | refine s_box (v := .string _) rfl rfl rfl ?_ | refine s_box (v := .func _ _ _) rfl rfl rfl ?_ | refine s_box (v := .float _ _) rfl rfl rfl ?_); intro _)); refine autoRef0216 ?_)
    refine wp_cond_b rfl (fun n1 => ?_) (fun n1 => ?_) <;> try simp only [decide_eq_true_eq, decide_eq_false_iff_not, Bool.not_eq_true', Bool.not_eq_false', Bool.and_eq_true, Bool.or_eq_true, Bool.or_eq_false_iff] at n1
    · refine autoRef0216 ?_
      repeat ((first | (show WPL _ _ _ _ _ (⟨_, .alloc _, _, _, _, none⟩ :: _) _ _ _; refine s_alloc rfl ?_; intro _) | (show WPL _ _ _ _ _ (⟨_, .box _ _, _, _, _, none⟩ :: _) _ _ _; (first | refine s_box (v := .int _ _) rfl rfl rfl ?_ | refine s_box (v := .pointer _) rfl rfl rfl ?_ | refine s_box (v := .slice _ _ _) rfl rfl rfl ?_ | refine s_box (v := .bool _) rfl rfl rfl ?_ | refine s_box (v := .agg _) rfl rfl rfl ?_ | refine s_box (v := .string _) rfl rfl rfl ?_ | refine s_box (v := .func _ _ _) rfl rfl rfl ?_ | refine s_box (v := .float _ _) rfl rfl rfl ?_); intro _)); refine autoRef0216 ?_)
      (first | (apply retRD1 (G := H) (.inr rfl) rfl; (· first | (refine rv_cell (v := .agg _) rfl (Cell.blk rfl)) | exact rv_cellA rfl Cells.blk0 rfl | (apply rv_cell; (· exact rfl); (· assumption)) | (apply rv_cellA; (· exact rfl); (· assumption); (· exact rfl))); (· exact Ent.auto)) | (apply retRD1 (G := H) (.inl rfl) rfl; (· first | (refine rv_cell (v := .agg _) rfl (Cell.blk rfl)) | exact rv_cellA rfl Cells.blk0 rfl | (apply rv_cell; (· exact rfl); (· assumption)) | (apply rv_cellA; (· exact rfl); (· assumption); (· exact rfl))); (· exact Ent.auto)))
      exact ⟨rfl, by simp [oneW, k1, n1]⟩
    · refine autoRef0216 ?_
      repeat ((first | (show WPL _ _ _ _ _ (⟨_, .alloc _, _, _, _, none⟩ :: _) _ _ _; refine s_alloc rfl ?_; intro _) | (show WPL _ _ _ _ _ (⟨_, .box _ _, _, _, _, none⟩ :: _) _ _ _; (first | refine s_box (v := .int _ _) rfl rfl rfl ?_ | refine s_box (v := .pointer _) rfl rfl rfl ?_ | refine s_box (v := .slice _ _ _) rfl rfl rfl ?_ | refine s_box (v := .bool _) rfl rfl rfl ?_ | refine s_box (v := .agg _) rfl rfl rfl ?_ | refine s_box (v := .string _) rfl rfl rfl ?_ | refine s_box (v := .func _ _ _) rfl rfl rfl ?_ | refine s_box (v := .float _ _) rfl rfl rfl ?_); intro _)); refine autoRef0216 ?_)
      (first | (apply retRD1 (G := H) (.inr rfl) rfl; (· first | (refine rv_cell (v := .agg _) rfl (Cell.blk rfl)) | exact rv_cellA rfl Cells.blk0 rfl | (apply rv_cell; (· exact rfl); (· assumption)) | (apply rv_cellA; (· exact rfl); (· assumption); (· exact rfl))); (· exact Ent.auto)) | (apply retRD1 (G := H) (.inl rfl) rfl; (· first | (refine rv_cell (v := .agg _) rfl (Cell.blk rfl)) | exact rv_cellA rfl Cells.blk0 rfl | (apply rv_cell; (· exact rfl); (· assumption)) | (apply rv_cellA; (· exact rfl); (· assumption); (· exact rfl))); (· exact Ent.auto)))
      exact ⟨rfl, by simp [oneW, k1, n1]⟩
  · refine autoRef0216 ?_
    repeat ((first | (show WPL _ _ _ _ _ (⟨_, .alloc _, _, _, _, none⟩ :: _) _ _ _; refine s_alloc rfl ?_; intro _) | (show WPL _ _ _ _ _ (⟨_, .box _ _, _, _, _, none⟩ :: _) _ _ _; (first | refine s_box (v := .int _ _) rfl rfl rfl ?_ | refine s_box (v := .pointer _) rfl rfl rfl ?_ | refine s_box (v := .slice _ _ _) rfl rfl rfl ?_ | refine s_box (v := .bool _) rfl rfl rfl ?_ | refine s_box (v := .agg _) rfl rfl rfl ?_ | refine s_box (v := .string _) rfl rfl rfl ?_ | refine s_box (v := .func _ _ _) rfl rfl rfl ?_ | refine s_box (v := .float _ _) rfl rfl rfl ?_); intro _)); refine autoRef0216 ?_)
    refine wp_cond_b rfl (fun k2 => ?_) (fun k2 => ?_) <;> try simp only [decide_eq_true_eq, decide_eq_false_iff_not, Bool.not_eq_true', Bool.not_eq_false', Bool.and_eq_true, Bool.or_eq_true, Bool.or_eq_false_iff] at k2
    · refine autoRef0216 ?_
      repeat ((first | (show WPL _ _ _ _ _ (⟨_, .alloc _, _, _, _, none⟩ :: _) _ _ _; refine s_alloc rfl ?_; intro _) | (show WPL _ _ _ _ _ (⟨_, .box _ _, _, _, _, none⟩ :: _) _ _ _; (first | refine s_box (v := .int _ _) rfl rfl rfl ?_ | refine s_box (v := .pointer _) rfl rfl rfl ?_ | refine s_box (v := .slice _ _ _) rfl rfl rfl ?_ | refine s_box (v := .bool _) rfl rfl rfl ?_ | refine s_box (v := .agg _) rfl rfl rfl ?_ | refine s_box (v := .string _) rfl rfl rfl ?_ | refine s_box (v := .func _ _ _) rfl rfl rfl ?_ | refine s_box (v := .float _ _) rfl rfl rfl ?_); intro _)); refine autoRef0216 ?_)
      (first | (apply retRD1 (G := H) (.inr rfl) rfl; (· first | (refine rv_cell (v := .agg _) rfl (Cell.blk rfl)) | exact rv_cellA rfl Cells.blk0 rfl | (apply rv_cell; (· exact rfl); (· assumption)) | (apply rv_cellA; (· exact rfl); (· assumption); (· exact rfl))); (· exact Ent.auto)) | (apply retRD1 (G := H) (.inl rfl) rfl; (· first | (refine rv_cell (v := .agg _) rfl (Cell.blk rfl)) | exact rv_cellA rfl Cells.blk0 rfl | (apply rv_cell; (· exact rfl); (· assumption)) | (apply rv_cellA; (· exact rfl); (· assumption); (· exact rfl))); (· exact Ent.auto)))
      exact ⟨rfl, by simp [oneW, k2]; omega⟩
    · refine autoRef0216 ?_
      repeat ((first | (show WPL _ _ _ _ _ (⟨_, .alloc _, _, _, _, none⟩ :: _) _ _ _; refine s_alloc rfl ?_; intro _) | (show WPL _ _ _ _ _ (⟨_, .box _ _, _, _, _, none⟩ :: _) _ _ _; (first | refine s_box (v := .int _ _) rfl rfl rfl ?_ | refine s_box (v := .pointer _) rfl rfl rfl ?_ | refine s_box (v := .slice _ _ _) rfl rfl rfl ?_ | refine s_box (v := .bool _) rfl rfl rfl ?_ | refine s_box (v := .agg _) rfl rfl rfl ?_ | refine s_box (v := .string _) rfl rfl rfl ?_ | refine s_box (v := .func _ _ _) rfl rfl rfl ?_ | refine s_box (v := .float _ _) rfl rfl rfl ?_); intro _)); refine autoRef0216 ?_)
      refine wp_cond_b rfl (fun k3 => ?_) (fun k3 => ?_) <;> try simp only [decide_eq_true_eq, decide_eq_false_iff_not, Bool.not_eq_true', Bool.not_eq_false', Bool.and_eq_true, Bool.or_eq_true, Bool.or_eq_false_iff] at k3
      · refine autoRef0216 ?_
        repeat ((first | (show WPL _ _ _ _ _ (⟨_, .alloc _, _, _, _, none⟩ :: _) _ _ _; refine s_alloc rfl ?_; intro _) | (show WPL _ _ _ _ _ (⟨_, .box _ _, _, _, _, none⟩ :: _) _ _ _; (first | refine s_box (v := .int _ _) rfl rfl rfl ?_ | refine s_box (v := .pointer _) rfl rfl rfl ?_ | refine s_box (v := .slice _ _ _) rfl rfl rfl ?_ | refine s_box (v := .bool _) rfl rfl rfl ?_ | refine s_box (v := .agg _) rfl rfl rfl ?_ | refine s_box (v := .string _) rfl rfl rfl ?_ | refine s_box (v := .func _ _ _) rfl rfl rfl ?_ | refine s_box (v := .float _ _) rfl rfl rfl ?_); intro _)); refine autoRef0216 ?_)
        refine wp_cond_b rfl (fun n1 => ?_) (fun n1 => ?_) <;> try simp only [decide_eq_true_eq, decide_eq_false_iff_not, Bool.not_eq_true', Bool.not_eq_false', Bool.and_eq_true, Bool.or_eq_true, Bool.or_eq_false_iff] at n1
        · refine autoRef0216 ?_
          repeat ((first | (show WPL _ _ _ _ _ (⟨_, .alloc _, _, _, _, none⟩ :: _) _ _ _; refine s_alloc rfl ?_; intro _) | (show WPL _ _ _ _ _ (⟨_, .box _ _, _, _, _, none⟩ :: _) _ _ _; (first | refine s_box (v := .int _ _) rfl rfl rfl ?_ | refine s_box (v := .pointer _) rfl rfl rfl ?_ | refine s_box (v := .slice _ _ _) rfl rfl rfl ?_ | refine s_box (v := .bool _) rfl rfl rfl ?_ | refine s_box (v := .agg _) rfl rfl rfl ?_ | refine s_box (v := .string _) rfl rfl rfl ?_ | refine s_box (v := .func _ _ _) rfl rfl rfl ?_ | refine s_box (v := .float _ _) rfl rfl rfl ?_); intro _)); refine autoRef0216 ?_)
          (first | (apply retRD1 (G := H) (.inr rfl) rfl; (· first | (refine rv_cell (v := .agg _) rfl (Cell.blk rfl)) | exact rv_cellA rfl Cells.blk0 rfl | (apply rv_cell; (· exact rfl); (· assumption)) | (apply rv_cellA; (· exact rfl); (· assumption); (· exact rfl))); (· exact Ent.auto)) | (apply retRD1 (G := H) (.inl rfl) rfl; (· first | (refine rv_cell (v := .agg _) rfl (Cell.blk rfl)) | exact rv_cellA rfl Cells.blk0 rfl | (apply rv_cell; (· exact rfl); (· assumption)) | (apply rv_cellA; (· exact rfl); (· assumption); (· exact rfl))); (· exact Ent.auto)))
          exact ⟨rfl, by simp [oneW, k1, k2, k3, n1]⟩
        · refine autoRef0216 ?_
          repeat ((first | (show WPL _ _ _ _ _ (⟨_, .alloc _, _, _, _, none⟩ :: _) _ _ _; refine s_alloc rfl ?_; intro _) | (show WPL _ _ _ _ _ (⟨_, .box _ _, _, _, _, none⟩ :: _) _ _ _; (first | refine s_box (v := .int _ _) rfl rfl rfl ?_ | refine s_box (v := .pointer _) rfl rfl rfl ?_ | refine s_box (v := .slice _ _ _) rfl rfl rfl ?_ | refine s_box (v := .bool _) rfl rfl rfl ?_ | refine s_box (v := .agg _) rfl rfl rfl ?_ | refine s_box (v := .string _) rfl rfl rfl ?_ | refine s_box (v := .func _ _ _) rfl rfl rfl ?_ | refine s_box (v := .float _ _) rfl rfl rfl ?_); intro _)); refine autoRef0216 ?_)
          (first | (apply retRD1 (G := H) (.inr rfl) rfl; (· first | (refine rv_cell (v := .agg _) rfl (Cell.blk rfl)) | exact rv_cellA rfl Cells.blk0 rfl | (apply rv_cell; (· exact rfl); (· assumption)) | (apply rv_cellA; (· exact rfl); (· assumption); (· exact rfl))); (· exact Ent.auto)) | (apply retRD1 (G := H) (.inl rfl) rfl; (· first | (refine rv_cell (v := .agg _) rfl (Cell.blk rfl)) | exact rv_cellA rfl Cells.blk0 rfl | (apply rv_cell; (· exact rfl); (· assumption)) | (apply rv_cellA; (· exact rfl); (· assumption); (· exact rfl))); (· exact Ent.auto)))
          exact ⟨rfl, by simp [oneW, k1, k2, k3, n1]⟩
      · refine autoRef0216 ?_
        repeat ((first | (show WPL _ _ _ _ _ (⟨_, .alloc _, _, _, _, none⟩ :: _) _ _ _; refine s_alloc rfl ?_; intro _) | (show WPL _ _ _ _ _ (⟨_, .box _ _, _, _, _, none⟩ :: _) _ _ _; (first | refine s_box (v := .int _ _) rfl rfl rfl ?_ | refine s_box (v := .pointer _) rfl rfl rfl ?_ | refine s_box (v := .slice _ _ _) rfl rfl rfl ?_ | refine s_box (v := .bool _) rfl rfl rfl ?_ | refine s_box (v := .agg _) rfl rfl rfl ?_ | refine s_box (v := .string _) rfl rfl rfl ?_ | refine s_box (v := .func _ _ _) rfl rfl rfl ?_ | refine s_box (v := .float _ _) rfl rfl rfl ?_); intro _)); refine autoRef0216 ?_)
        refine wp_cond_b rfl (fun k4 => ?_) (fun k4 => ?_) <;> try simp only [decide_eq_true_eq, decide_eq_false_iff_not, Bool.not_eq_true', Bool.not_eq_false', Bool.and_eq_true, Bool.or_eq_true, Bool.or_eq_false_iff] at k4
        · refine autoRef0216 ?_
          repeat ((first | (show WPL _ _ _ _ _ (⟨_, .alloc _, _, _, _, none⟩ :: _) _ _ _; refine s_alloc rfl ?_; intro _) | (show WPL _ _ _ _ _ (⟨_, .box _ _, _, _, _, none⟩ :: _) _ _ _; (first | refine s_box (v := .int _ _) rfl rfl rfl ?_ | refine s_box (v := .pointer _) rfl rfl rfl ?_ | refine s_box (v := .slice _ _ _) rfl rfl rfl ?_ | refine s_box (v := .bool _) rfl rfl rfl ?_ | refine s_box (v := .agg _) rfl rfl rfl ?_ | refine s_box (v := .string _) rfl rfl rfl ?_ | refine s_box (v := .func _ _ _) rfl rfl rfl ?_ | refine s_box (v := .float _ _) rfl rfl rfl ?_); intro _)); refine autoRef0216 ?_)
          refine wp_cond_b rfl (fun n1 => ?_) (fun n1 => ?_) <;> try simp only [decide_eq_true_eq, decide_eq_false_iff_not, Bool.not_eq_true', Bool.not_eq_false', Bool.and_eq_true, Bool.or_eq_true, Bool.or_eq_false_iff] at n1
          · refine autoRef0216 ?_
            repeat ((first | (show WPL _ _ _ _ _ (⟨_, .alloc _, _, _, _, none⟩ :: _) _ _ _; refine s_alloc rfl ?_; intro _) | (show WPL _ _ _ _ _ (⟨_, .box _ _, _, _, _, none⟩ :: _) _ _ _; (first | refine s_box (v := .int _ _) rfl rfl rfl ?_ | refine s_box (v := .pointer _) rfl rfl rfl ?_ | refine s_box (v := .slice _ _ _) rfl rfl rfl ?_ | refine s_box (v := .bool _) rfl rfl rfl ?_ | refine s_box (v := .agg _) rfl rfl rfl ?_ | refine s_box (v := .string _) rfl rfl rfl ?_ | refine s_box (v := .func _ _ _) rfl rfl rfl ?_ | refine s_box (v := .float _ _) rfl rfl rfl ?_); intro _)); refine autoRef0216 ?_)
            (first | (apply retRD1 (G := H) (.inr rfl) rfl; (· first | (refine rv_cell (v := .agg _) rfl (Cell.blk rfl)) | exact rv_cellA rfl Cells.blk0 rfl | (apply rv_cell; (· exact rfl); (· assumption)) | (apply rv_cellA; (· exact rfl); (· assumption); (· exact rfl))); (· exact Ent.auto)) | (apply retRD1 (G := H) (.inl rfl) rfl; (· first | (refine rv_cell (v := .agg _) rfl (Cell.blk rfl)) | exact rv_cellA rfl Cells.blk0 rfl | (apply rv_cell; (· exact rfl); (· assumption)) | (apply rv_cellA; (· exact rfl); (· assumption); (· exact rfl))); (· exact Ent.auto)))
            exact ⟨rfl, by simp [oneW, k4, n1]⟩
          · refine autoRef0216 ?_
            repeat ((first | (show WPL _ _ _ _ _ (⟨_, .alloc _, _, _, _, none⟩ :: _) _ _ _; refine s_alloc rfl ?_; intro _) | (show WPL _ _ _ _ _ (⟨_, .box _ _, _, _, _, none⟩ :: _) _ _ _; (first | refine s_box (v := .int _ _) rfl rfl rfl ?_ | refine s_box (v := .pointer _) rfl rfl rfl ?_ | refine s_box (v := .slice _ _ _) rfl rfl rfl ?_ | refine s_box (v := .bool _) rfl rfl rfl ?_ | refine s_box (v := .agg _) rfl rfl rfl ?_ | refine s_box (v := .string _) rfl rfl rfl ?_ | refine s_box (v := .func _ _ _) rfl rfl rfl ?_ | refine s_box (v := .float _ _) rfl rfl rfl ?_); intro _)); refine autoRef0216 ?_)
            (first | (apply retRD1 (G := H) (.inr rfl) rfl; (· first | (refine rv_cell (v := .agg _) rfl (Cell.blk rfl)) | exact rv_cellA rfl Cells.blk0 rfl | (apply rv_cell; (· exact rfl); (· assumption)) | (apply rv_cellA; (· exact rfl); (· assumption); (· exact rfl))); (· exact Ent.auto)) | (apply retRD1 (G := H) (.inl rfl) rfl; (· first | (refine rv_cell (v := .agg _) rfl (Cell.blk rfl)) | exact rv_cellA rfl Cells.blk0 rfl | (apply rv_cell; (· exact rfl); (· assumption)) | (apply rv_cellA; (· exact rfl); (· assumption); (· exact rfl))); (· exact Ent.auto)))
            exact ⟨rfl, by simp [oneW, k1, k2, k3, k4, n1]⟩
        · refine autoRef0216 ?_
          repeat ((first | (show WPL _ _ _ _ _ (⟨_, .alloc _, _, _, _, none⟩ :: _) _ _ _; refine s_alloc rfl ?_; intro _) | (show WPL _ _ _ _ _ (⟨_, .box _ _, _, _, _, none⟩ :: _) _ _ _; (first | refine s_box (v := .int _ _) rfl rfl rfl ?_ | refine s_box (v := .pointer _) rfl rfl rfl ?_ | refine s_box (v := .slice _ _ _) rfl rfl rfl ?_ | refine s_box (v := .bool _) rfl rfl rfl ?_ | refine s_box (v := .agg _) rfl rfl rfl ?_ | refine s_box (v := .string _) rfl rfl rfl ?_ | refine s_box (v := .func _ _ _) rfl rfl rfl ?_ | refine s_box (v := .float _ _) rfl rfl rfl ?_); intro _)); refine autoRef0216 ?_)
          (first | (apply retRD1 (G := H) (.inr rfl) rfl; (· first | (refine rv_cell (v := .agg _) rfl (Cell.blk rfl)) | exact rv_cellA rfl Cells.blk0 rfl | (apply rv_cell; (· exact rfl); (· assumption)) | (apply rv_cellA; (· exact rfl); (· assumption); (· exact rfl))); (· exact Ent.auto)) | (apply retRD1 (G := H) (.inl rfl) rfl; (· first | (refine rv_cell (v := .agg _) rfl (Cell.blk rfl)) | exact rv_cellA rfl Cells.blk0 rfl | (apply rv_cell; (· exact rfl); (· assumption)) | (apply rv_cellA; (· exact rfl); (· assumption); (· exact rfl))); (· exact Ent.auto)))
          exact ⟨rfl, by simp [oneW, k1, k2, k3, k4]⟩
/-- All that is done, of a room. -/
def doW (q : Int) (p : Int × Int) (l : List Int) : Int × Int := l.foldl (fun p k => oneW q k p) p
theorem doW_u32 {q : Int} : ∀ (l : List Int) (p : Int × Int), U32 p.1 ∧ U32 p.2 → U32 (doW q p l).1 ∧ U32 (doW q p l).2
  | [], p, h => h
  | k :: l, p, h => doW_u32 l (oneW q k p) (oneW_u32 h)
theorem doW_push (q : Int) (p : Int × Int) (l : List Int) (k : Int) : doW q p (l ++ [k]) = oneW q k (doW q p l) := by simp [doW]
def doR (q : Int) (p : Int × Int) (l : List Int) : Int × Int := if (decide (0 ≤ q) && isRoom q.toNat) = true then doW q p l else p
theorem autoRef0221 {p q : Prop} (k : q) (h : Owed q → p := by
  intro k_
  refine walkG ?_
  repeat ((first | (show WPL _ _ _ _ _ (⟨_, .call ⟨.value (.func 21), _, _⟩, _, _, _, none⟩ :: _) _ _ _; (apply s_call; (· exact rfl); (· exact rRoom2); (· exact rfl); rintro _ _ ⟨e_, rfl⟩; obtain rfl := e_.symm)) | (show WPL _ _ _ _ _ (⟨_, .call ⟨.value (.func 32), _, _⟩, _, _, _, none⟩ :: _) _ _ _; (apply s_call; (· exact rfl); (· refine rOne ?_ ?_ ?_ <;> (first | assumption | omega | decide | (unfold U32; omega) | exact InH.ent | (apply Rd.ent; (· assumption); (· exact InH.ent)) | exact Rd.nil | (refine Rd.blk0 ?_ ?_; (· rfl); (· simp [maxLen])) | simp)); (· exact rfl); rintro _ _ ⟨e_, rfl⟩; obtain rfl := e_.symm))); refine walkG ?_)
  exact k_.get) : p := h ⟨k⟩
theorem rDo {s : Value} {l : List Int} (h1 : U32 h) (h2 : U32 t) (hs : Rd B H 1 s l.length (zs l)) : Does Tryd.prog B 8 [wA h t, .int .i64 q, s] H fun r H' => H' = H ∧ r = wA (doR q (h, t) l).1 (doR q (h, t) l).2 := by
  unfold Rd at hs
  obtain ⟨ao, cap, rfl, hl, hm, ha⟩ := hs
  unfold maxLen at hm
  refine fn_intro 27 Tryd.func8 rfl rfl rfl ?_
  cases hr : (decide (0 ≤ q) && isRoom q.toNat) with
  | true =>
    have hb : 2 ≤ q ∧ q ≤ 65536 := by
      rw [Bool.and_eq_true] at hr
      have := room_bound hr.2
      omega
    have e : doR q (h, t) l = doW q (h, t) l := by unfold doR; rw [if_pos hr]
    rw [e]
    refine autoRef0221 ?_
    repeat ((first | (show WPL _ _ _ _ _ (⟨_, .alloc _, _, _, _, none⟩ :: _) _ _ _; refine s_alloc rfl ?_; intro _) | (show WPL _ _ _ _ _ (⟨_, .box _ _, _, _, _, none⟩ :: _) _ _ _; (first | refine s_box (v := .int _ _) rfl rfl rfl ?_ | refine s_box (v := .pointer _) rfl rfl rfl ?_ | refine s_box (v := .slice _ _ _) rfl rfl rfl ?_ | refine s_box (v := .bool _) rfl rfl rfl ?_ | refine s_box (v := .agg _) rfl rfl rfl ?_ | refine s_box (v := .string _) rfl rfl rfl ?_ | refine s_box (v := .func _ _ _) rfl rfl rfl ?_ | refine s_box (v := .float _ _) rfl rfl rfl ?_); intro _) | (show WP _ _ _ _ (.region 4 _ true) _ _ _; (refine wp_draw [7, 8] (.look 0 (.look 1 (.look 2 (.look 3 (.look 4 (.look 5 (.look 6 (.act 7 (.act 8 .nil .stop) .stop)))))))) (by kernel_rfl) ?_; (apply dw_look; (· exact rfl); (· exact rfl); (· (exact lookedG))); (apply dw_pure; (· exact rfl); (· exact rfl); (· (intro G; exact lookedG))); (apply dw_pure; (· exact rfl); (· exact rfl); (· (intro G; exact lookedG))); (apply dw_pure; (· exact rfl); (· exact rfl); (· (intro G; exact lookedG))); (apply dw_pure; (· exact rfl); (· exact rfl); (· (intro G; exact lookedG))); (apply dw_pure; (· exact rfl); (· exact rfl); (· (intro G; exact lookedG))); (apply dw_look; (· exact rfl); (· exact rfl); (· (exact lookedG))); skip); refine dw_do rfl rfl ?_ dw_stop; (first | (apply s_call; (· exact rfl); (· refine rOne ?_ ?_ ?_ <;> (first | assumption | omega | decide | (unfold U32; omega) | exact InH.ent | (apply Rd.ent; (· assumption); (· exact InH.ent)) | exact Rd.nil | (refine Rd.blk0 ?_ ?_; (· rfl); (· simp [maxLen])) | simp)); (· exact rfl); rintro _ _ ⟨e_, rfl⟩; obtain rfl := e_.symm)); refine wpl_nil (qone ⟨(by refine st_past (by kernel_rfl) ?_; refine st_past (by kernel_rfl) ?_; exact st_nil), ?_⟩); (skip); refine dw_do0 rfl rfl ?_ dw_stop; (first | refine s_store1 (v := .int _ _) rfl rfl rfl rfl ?_ | refine s_store1 (v := .pointer _) rfl rfl rfl rfl ?_ | refine s_store1 (v := .slice _ _ _) rfl rfl rfl rfl ?_ | refine s_store1 (v := .bool _) rfl rfl rfl rfl ?_ | refine s_store1 (v := .string _) rfl rfl rfl rfl ?_ | refine s_store1 (v := .map _) rfl rfl rfl rfl ?_ | refine s_store1 (v := _) rfl rfl rfl rfl ?_ | refine s_storeV rfl rfl rfl rfl rfl ?_); refine wpl_nil (qone0 ⟨(by refine st_past (by kernel_rfl) ?_; refine st_past (by kernel_rfl) ?_; exact st_nil), ?_⟩); (refine dw_nil ?_; skip))); refine autoRef0221 ?_)
    rename_i b3 b6
    refine wp_loopF (α := Nat) [7, 8, 9, 10, 11, 12, 13, 14, 15, 16, 17, 18, 19, 20, 21, 22, 23, 24, 25] (fun i => [(7, .int .i64 i)]) (fun i => blk b3 [.int .u32 (doW q (h, t) (l.take i)).1, .int .u32 (doW q (h, t) (l.take i)).2] 27 + (blk b6 [.int .u32 0, .int .u32 0] 27 + H)) (fun i => i ≤ l.length) (fun i => l.length - i) 0 agreed (by simp only [List.take_zero, doW, List.foldl_nil]; exact Ent.auto) (Nat.zero_le _) ?_
    rintro i g hi
    simp only [putAll]
    have hu := doW_u32 (q := q) (l.take i) (h, t) ⟨h1, h2⟩
    by_cases hlt : i < l.length
    · obtain ⟨bl, ol, rfl, hcl⟩ := Rd.addr hl ha hlt
      refine autoRef0221 ?_
      repeat ((first | (show WPL _ _ _ _ _ (⟨_, .alloc _, _, _, _, none⟩ :: _) _ _ _; refine s_alloc rfl ?_; intro _) | (show WPL _ _ _ _ _ (⟨_, .box _ _, _, _, _, none⟩ :: _) _ _ _; (first | refine s_box (v := .int _ _) rfl rfl rfl ?_ | refine s_box (v := .pointer _) rfl rfl rfl ?_ | refine s_box (v := .slice _ _ _) rfl rfl rfl ?_ | refine s_box (v := .bool _) rfl rfl rfl ?_ | refine s_box (v := .agg _) rfl rfl rfl ?_ | refine s_box (v := .string _) rfl rfl rfl ?_ | refine s_box (v := .func _ _ _) rfl rfl rfl ?_ | refine s_box (v := .float _ _) rfl rfl rfl ?_); intro _) | (show WP _ _ _ _ (.region 4 _ true) _ _ _; (refine wp_draw [7, 8] (.look 0 (.look 1 (.look 2 (.look 3 (.look 4 (.look 5 (.look 6 (.act 7 (.act 8 .nil .stop) .stop)))))))) (by kernel_rfl) ?_; (apply dw_look; (· exact rfl); (· exact rfl); (· (exact lookedG))); (apply dw_pure; (· exact rfl); (· exact rfl); (· (intro G; exact lookedG))); (apply dw_pure; (· exact rfl); (· exact rfl); (· (intro G; exact lookedG))); (apply dw_pure; (· exact rfl); (· exact rfl); (· (intro G; exact lookedG))); (apply dw_pure; (· exact rfl); (· exact rfl); (· (intro G; exact lookedG))); (apply dw_pure; (· exact rfl); (· exact rfl); (· (intro G; exact lookedG))); (apply dw_look; (· exact rfl); (· exact rfl); (· (exact lookedG))); skip); refine dw_do rfl rfl ?_ dw_stop; (first | (apply s_call; (· exact rfl); (· refine rOne ?_ ?_ ?_ <;> (first | assumption | omega | decide | (unfold U32; omega) | exact InH.ent | (apply Rd.ent; (· assumption); (· exact InH.ent)) | exact Rd.nil | (refine Rd.blk0 ?_ ?_; (· rfl); (· simp [maxLen])) | simp)); (· exact rfl); rintro _ _ ⟨e_, rfl⟩; obtain rfl := e_.symm)); refine wpl_nil (qone ⟨(by refine st_past (by kernel_rfl) ?_; refine st_past (by kernel_rfl) ?_; exact st_nil), ?_⟩); (skip); refine dw_do0 rfl rfl ?_ dw_stop; (first | refine s_store1 (v := .int _ _) rfl rfl rfl rfl ?_ | refine s_store1 (v := .pointer _) rfl rfl rfl rfl ?_ | refine s_store1 (v := .slice _ _ _) rfl rfl rfl rfl ?_ | refine s_store1 (v := .bool _) rfl rfl rfl rfl ?_ | refine s_store1 (v := .string _) rfl rfl rfl rfl ?_ | refine s_store1 (v := .map _) rfl rfl rfl rfl ?_ | refine s_store1 (v := _) rfl rfl rfl rfl ?_ | refine s_storeV rfl rfl rfl rfl rfl ?_); refine wpl_nil (qone0 ⟨(by refine st_past (by kernel_rfl) ?_; refine st_past (by kernel_rfl) ?_; exact st_nil), ?_⟩); (refine dw_nil ?_; skip))); refine autoRef0221 ?_)
      rw [hr]
      refine autoRef0221 ?_
      repeat ((first | (show WPL _ _ _ _ _ (⟨_, .alloc _, _, _, _, none⟩ :: _) _ _ _; refine s_alloc rfl ?_; intro _) | (show WPL _ _ _ _ _ (⟨_, .box _ _, _, _, _, none⟩ :: _) _ _ _; (first | refine s_box (v := .int _ _) rfl rfl rfl ?_ | refine s_box (v := .pointer _) rfl rfl rfl ?_ | refine s_box (v := .slice _ _ _) rfl rfl rfl ?_ | refine s_box (v := .bool _) rfl rfl rfl ?_ | refine s_box (v := .agg _) rfl rfl rfl ?_ | refine s_box (v := .string _) rfl rfl rfl ?_ | refine s_box (v := .func _ _ _) rfl rfl rfl ?_ | refine s_box (v := .float _ _) rfl rfl rfl ?_); intro _) | (show WP _ _ _ _ (.region 4 _ true) _ _ _; (refine wp_draw [7, 8] (.look 0 (.look 1 (.look 2 (.look 3 (.look 4 (.look 5 (.look 6 (.act 7 (.act 8 .nil .stop) .stop)))))))) (by kernel_rfl) ?_; (apply dw_look; (· exact rfl); (· exact rfl); (· (exact lookedG))); (apply dw_pure; (· exact rfl); (· exact rfl); (· (intro G; exact lookedG))); (apply dw_pure; (· exact rfl); (· exact rfl); (· (intro G; exact lookedG))); (apply dw_pure; (· exact rfl); (· exact rfl); (· (intro G; exact lookedG))); (apply dw_pure; (· exact rfl); (· exact rfl); (· (intro G; exact lookedG))); (apply dw_pure; (· exact rfl); (· exact rfl); (· (intro G; exact lookedG))); (apply dw_look; (· exact rfl); (· exact rfl); (· (exact lookedG))); skip); refine dw_do rfl rfl ?_ dw_stop; (first | (apply s_call; (· exact rfl); (· refine rOne ?_ ?_ ?_ <;> (first | assumption | omega | decide | (unfold U32; omega) | exact InH.ent | (apply Rd.ent; (· assumption); (· exact InH.ent)) | exact Rd.nil | (refine Rd.blk0 ?_ ?_; (· rfl); (· simp [maxLen])) | simp)); (· exact rfl); rintro _ _ ⟨e_, rfl⟩; obtain rfl := e_.symm)); refine wpl_nil (qone ⟨(by refine st_past (by kernel_rfl) ?_; refine st_past (by kernel_rfl) ?_; exact st_nil), ?_⟩); (skip); refine dw_do0 rfl rfl ?_ dw_stop; (first | refine s_store1 (v := .int _ _) rfl rfl rfl rfl ?_ | refine s_store1 (v := .pointer _) rfl rfl rfl rfl ?_ | refine s_store1 (v := .slice _ _ _) rfl rfl rfl rfl ?_ | refine s_store1 (v := .bool _) rfl rfl rfl rfl ?_ | refine s_store1 (v := .string _) rfl rfl rfl rfl ?_ | refine s_store1 (v := .map _) rfl rfl rfl rfl ?_ | refine s_store1 (v := _) rfl rfl rfl rfl ?_ | refine s_storeV rfl rfl rfl rfl rfl ?_); refine wpl_nil (qone0 ⟨(by refine st_past (by kernel_rfl) ?_; refine st_past (by kernel_rfl) ?_; exact st_nil), ?_⟩); (refine dw_nil ?_; skip))); refine autoRef0221 ?_)
      have e2 : doW q (h, t) (l.take (i + 1)) = oneW q l[i] (doW q (h, t) (l.take i)) := by rw [List.take_succ_eq_append_getElem hlt, doW_push]
      exact ⟨i + 1, asided, agreed, by rw [e2]; exact Ent.auto, hlt, by omega⟩
    · have hie : i = l.length := by omega
      subst hie
      rw [List.take_length]
      refine autoRef0221 ?_
      repeat ((first | (show WPL _ _ _ _ _ (⟨_, .alloc _, _, _, _, none⟩ :: _) _ _ _; refine s_alloc rfl ?_; intro _) | (show WPL _ _ _ _ _ (⟨_, .box _ _, _, _, _, none⟩ :: _) _ _ _; (first | refine s_box (v := .int _ _) rfl rfl rfl ?_ | refine s_box (v := .pointer _) rfl rfl rfl ?_ | refine s_box (v := .slice _ _ _) rfl rfl rfl ?_ | refine s_box (v := .bool _) rfl rfl rfl ?_ | refine s_box (v := .agg _) rfl rfl rfl ?_ | refine s_box (v := .string _) rfl rfl rfl ?_ | refine s_box (v := .func _ _ _) rfl rfl rfl ?_ | refine s_box (v := .float _ _) rfl rfl rfl ?_); intro _) | (show WP _ _ _ _ (.region 4 _ true) _ _ _; (refine wp_draw [7, 8] (.look 0 (.look 1 (.look 2 (.look 3 (.look 4 (.look 5 (.look 6 (.act 7 (.act 8 .nil .stop) .stop)))))))) (by kernel_rfl) ?_; (apply dw_look; (· exact rfl); (· exact rfl); (· (exact lookedG))); (apply dw_pure; (· exact rfl); (· exact rfl); (· (intro G; exact lookedG))); (apply dw_pure; (· exact rfl); (· exact rfl); (· (intro G; exact lookedG))); (apply dw_pure; (· exact rfl); (· exact rfl); (· (intro G; exact lookedG))); (apply dw_pure; (· exact rfl); (· exact rfl); (· (intro G; exact lookedG))); (apply dw_pure; (· exact rfl); (· exact rfl); (· (intro G; exact lookedG))); (apply dw_look; (· exact rfl); (· exact rfl); (· (exact lookedG))); skip); refine dw_do rfl rfl ?_ dw_stop; (first | (apply s_call; (· exact rfl); (· refine rOne ?_ ?_ ?_ <;> (first | assumption | omega | decide | (unfold U32; omega) | exact InH.ent | (apply Rd.ent; (· assumption); (· exact InH.ent)) | exact Rd.nil | (refine Rd.blk0 ?_ ?_; (· rfl); (· simp [maxLen])) | simp)); (· exact rfl); rintro _ _ ⟨e_, rfl⟩; obtain rfl := e_.symm)); refine wpl_nil (qone ⟨(by refine st_past (by kernel_rfl) ?_; refine st_past (by kernel_rfl) ?_; exact st_nil), ?_⟩); (skip); refine dw_do0 rfl rfl ?_ dw_stop; (first | refine s_store1 (v := .int _ _) rfl rfl rfl rfl ?_ | refine s_store1 (v := .pointer _) rfl rfl rfl rfl ?_ | refine s_store1 (v := .slice _ _ _) rfl rfl rfl rfl ?_ | refine s_store1 (v := .bool _) rfl rfl rfl rfl ?_ | refine s_store1 (v := .string _) rfl rfl rfl rfl ?_ | refine s_store1 (v := .map _) rfl rfl rfl rfl ?_ | refine s_store1 (v := _) rfl rfl rfl rfl ?_ | refine s_storeV rfl rfl rfl rfl rfl ?_); refine wpl_nil (qone0 ⟨(by refine st_past (by kernel_rfl) ?_; refine st_past (by kernel_rfl) ?_; exact st_nil), ?_⟩); (refine dw_nil ?_; skip))); refine autoRef0221 ?_)
      (first | (apply retRD1 (G := H) (.inr rfl) rfl; (· first | (refine rv_cell (v := .agg _) rfl (Cell.blk rfl)) | exact rv_cellA rfl Cells.blk0 rfl | (apply rv_cell; (· exact rfl); (· assumption)) | (apply rv_cellA; (· exact rfl); (· assumption); (· exact rfl))); (· exact Ent.auto)) | (apply retRD1 (G := H) (.inl rfl) rfl; (· first | (refine rv_cell (v := .agg _) rfl (Cell.blk rfl)) | exact rv_cellA rfl Cells.blk0 rfl | (apply rv_cell; (· exact rfl); (· assumption)) | (apply rv_cellA; (· exact rfl); (· assumption); (· exact rfl))); (· exact Ent.auto)))
      exact ⟨rfl, rfl⟩
  | false =>
    have e : doR q (h, t) l = (h, t) := by unfold doR; rw [hr]; rfl
    rw [e]
    refine autoRef0221 ?_
    repeat ((first | (show WPL _ _ _ _ _ (⟨_, .alloc _, _, _, _, none⟩ :: _) _ _ _; refine s_alloc rfl ?_; intro _) | (show WPL _ _ _ _ _ (⟨_, .box _ _, _, _, _, none⟩ :: _) _ _ _; (first | refine s_box (v := .int _ _) rfl rfl rfl ?_ | refine s_box (v := .pointer _) rfl rfl rfl ?_ | refine s_box (v := .slice _ _ _) rfl rfl rfl ?_ | refine s_box (v := .bool _) rfl rfl rfl ?_ | refine s_box (v := .agg _) rfl rfl rfl ?_ | refine s_box (v := .string _) rfl rfl rfl ?_ | refine s_box (v := .func _ _ _) rfl rfl rfl ?_ | refine s_box (v := .float _ _) rfl rfl rfl ?_); intro _) | (show WP _ _ _ _ (.region 4 _ true) _ _ _; (refine wp_draw [7, 8] (.look 0 (.look 1 (.look 2 (.look 3 (.look 4 (.look 5 (.look 6 (.act 7 (.act 8 .nil .stop) .stop)))))))) (by kernel_rfl) ?_; (apply dw_look; (· exact rfl); (· exact rfl); (· (exact lookedG))); (apply dw_pure; (· exact rfl); (· exact rfl); (· (intro G; exact lookedG))); (apply dw_pure; (· exact rfl); (· exact rfl); (· (intro G; exact lookedG))); (apply dw_pure; (· exact rfl); (· exact rfl); (· (intro G; exact lookedG))); (apply dw_pure; (· exact rfl); (· exact rfl); (· (intro G; exact lookedG))); (apply dw_pure; (· exact rfl); (· exact rfl); (· (intro G; exact lookedG))); (apply dw_look; (· exact rfl); (· exact rfl); (· (exact lookedG))); skip); refine dw_do rfl rfl ?_ dw_stop; (first | (apply s_call; (· exact rfl); (· refine rOne ?_ ?_ ?_ <;> (first | assumption | omega | decide | (unfold U32; omega) | exact InH.ent | (apply Rd.ent; (· assumption); (· exact InH.ent)) | exact Rd.nil | (refine Rd.blk0 ?_ ?_; (· rfl); (· simp [maxLen])) | simp)); (· exact rfl); rintro _ _ ⟨e_, rfl⟩; obtain rfl := e_.symm)); refine wpl_nil (qone ⟨(by refine st_past (by kernel_rfl) ?_; refine st_past (by kernel_rfl) ?_; exact st_nil), ?_⟩); (skip); refine dw_do0 rfl rfl ?_ dw_stop; (first | refine s_store1 (v := .int _ _) rfl rfl rfl rfl ?_ | refine s_store1 (v := .pointer _) rfl rfl rfl rfl ?_ | refine s_store1 (v := .slice _ _ _) rfl rfl rfl rfl ?_ | refine s_store1 (v := .bool _) rfl rfl rfl rfl ?_ | refine s_store1 (v := .string _) rfl rfl rfl rfl ?_ | refine s_store1 (v := .map _) rfl rfl rfl rfl ?_ | refine s_store1 (v := _) rfl rfl rfl rfl ?_ | refine s_storeV rfl rfl rfl rfl rfl ?_); refine wpl_nil (qone0 ⟨(by refine st_past (by kernel_rfl) ?_; refine st_past (by kernel_rfl) ?_; exact st_nil), ?_⟩); (refine dw_nil ?_; skip))); refine autoRef0221 ?_)
    refine wp_loopR (α := Unit) [7, 8, 9, 10, 11, 12, 13, 14, 15, 16, 17, 18, 19, 20, 21, 22, 23, 24, 25] (fun _ => [(7, .int .i64 0)]) (fun _ => True) (fun _ => 0) () agreed trivial ?_
    rintro _ g _
    simp only [putAll]
    by_cases hl0 : 0 < l.length
    · refine autoRef0221 ?_
      repeat ((first | (show WPL _ _ _ _ _ (⟨_, .alloc _, _, _, _, none⟩ :: _) _ _ _; refine s_alloc rfl ?_; intro _) | (show WPL _ _ _ _ _ (⟨_, .box _ _, _, _, _, none⟩ :: _) _ _ _; (first | refine s_box (v := .int _ _) rfl rfl rfl ?_ | refine s_box (v := .pointer _) rfl rfl rfl ?_ | refine s_box (v := .slice _ _ _) rfl rfl rfl ?_ | refine s_box (v := .bool _) rfl rfl rfl ?_ | refine s_box (v := .agg _) rfl rfl rfl ?_ | refine s_box (v := .string _) rfl rfl rfl ?_ | refine s_box (v := .func _ _ _) rfl rfl rfl ?_ | refine s_box (v := .float _ _) rfl rfl rfl ?_); intro _) | (show WP _ _ _ _ (.region 4 _ true) _ _ _; (refine wp_draw [7, 8] (.look 0 (.look 1 (.look 2 (.look 3 (.look 4 (.look 5 (.look 6 (.act 7 (.act 8 .nil .stop) .stop)))))))) (by kernel_rfl) ?_; (apply dw_look; (· exact rfl); (· exact rfl); (· (exact lookedG))); (apply dw_pure; (· exact rfl); (· exact rfl); (· (intro G; exact lookedG))); (apply dw_pure; (· exact rfl); (· exact rfl); (· (intro G; exact lookedG))); (apply dw_pure; (· exact rfl); (· exact rfl); (· (intro G; exact lookedG))); (apply dw_pure; (· exact rfl); (· exact rfl); (· (intro G; exact lookedG))); (apply dw_pure; (· exact rfl); (· exact rfl); (· (intro G; exact lookedG))); (apply dw_look; (· exact rfl); (· exact rfl); (· (exact lookedG))); skip); refine dw_do rfl rfl ?_ dw_stop; (first | (apply s_call; (· exact rfl); (· refine rOne ?_ ?_ ?_ <;> (first | assumption | omega | decide | (unfold U32; omega) | exact InH.ent | (apply Rd.ent; (· assumption); (· exact InH.ent)) | exact Rd.nil | (refine Rd.blk0 ?_ ?_; (· rfl); (· simp [maxLen])) | simp)); (· exact rfl); rintro _ _ ⟨e_, rfl⟩; obtain rfl := e_.symm)); refine wpl_nil (qone ⟨(by refine st_past (by kernel_rfl) ?_; refine st_past (by kernel_rfl) ?_; exact st_nil), ?_⟩); (skip); refine dw_do0 rfl rfl ?_ dw_stop; (first | refine s_store1 (v := .int _ _) rfl rfl rfl rfl ?_ | refine s_store1 (v := .pointer _) rfl rfl rfl rfl ?_ | refine s_store1 (v := .slice _ _ _) rfl rfl rfl rfl ?_ | refine s_store1 (v := .bool _) rfl rfl rfl rfl ?_ | refine s_store1 (v := .string _) rfl rfl rfl rfl ?_ | refine s_store1 (v := .map _) rfl rfl rfl rfl ?_ | refine s_store1 (v := _) rfl rfl rfl rfl ?_ | refine s_storeV rfl rfl rfl rfl rfl ?_); refine wpl_nil (qone0 ⟨(by refine st_past (by kernel_rfl) ?_; refine st_past (by kernel_rfl) ?_; exact st_nil), ?_⟩); (refine dw_nil ?_; skip))); refine autoRef0221 ?_)
      rw [hr]
      refine autoRef0221 ?_
      repeat ((first | (show WPL _ _ _ _ _ (⟨_, .alloc _, _, _, _, none⟩ :: _) _ _ _; refine s_alloc rfl ?_; intro _) | (show WPL _ _ _ _ _ (⟨_, .box _ _, _, _, _, none⟩ :: _) _ _ _; (first | refine s_box (v := .int _ _) rfl rfl rfl ?_ | refine s_box (v := .pointer _) rfl rfl rfl ?_ | refine s_box (v := .slice _ _ _) rfl rfl rfl ?_ | refine s_box (v := .bool _) rfl rfl rfl ?_ | refine s_box (v := .agg _) rfl rfl rfl ?_ | refine s_box (v := .string _) rfl rfl rfl ?_ | refine s_box (v := .func _ _ _) rfl rfl rfl ?_ | refine s_box (v := .float _ _) rfl rfl rfl ?_); intro _) | (show WP _ _ _ _ (.region 4 _ true) _ _ _; (refine wp_draw [7, 8] (.look 0 (.look 1 (.look 2 (.look 3 (.look 4 (.look 5 (.look 6 (.act 7 (.act 8 .nil .stop) .stop)))))))) (by kernel_rfl) ?_; (apply dw_look; (· exact rfl); (· exact rfl); (· (exact lookedG))); (apply dw_pure; (· exact rfl); (· exact rfl); (· (intro G; exact lookedG))); (apply dw_pure; (· exact rfl); (· exact rfl); (· (intro G; exact lookedG))); (apply dw_pure; (· exact rfl); (· exact rfl); (· (intro G; exact lookedG))); (apply dw_pure; (· exact rfl); (· exact rfl); (· (intro G; exact lookedG))); (apply dw_pure; (· exact rfl); (· exact rfl); (· (intro G; exact lookedG))); (apply dw_look; (· exact rfl); (· exact rfl); (· (exact lookedG))); skip); refine dw_do rfl rfl ?_ dw_stop; (first | (apply s_call; (· exact rfl); (· refine rOne ?_ ?_ ?_ <;> (first | assumption | omega | decide | (unfold U32; omega) | exact InH.ent | (apply Rd.ent; (· assumption); (· exact InH.ent)) | exact Rd.nil | (refine Rd.blk0 ?_ ?_; (· rfl); (· simp [maxLen])) | simp)); (· exact rfl); rintro _ _ ⟨e_, rfl⟩; obtain rfl := e_.symm)); refine wpl_nil (qone ⟨(by refine st_past (by kernel_rfl) ?_; refine st_past (by kernel_rfl) ?_; exact st_nil), ?_⟩); (skip); refine dw_do0 rfl rfl ?_ dw_stop; (first | refine s_store1 (v := .int _ _) rfl rfl rfl rfl ?_ | refine s_store1 (v := .pointer _) rfl rfl rfl rfl ?_ | refine s_store1 (v := .slice _ _ _) rfl rfl rfl rfl ?_ | refine s_store1 (v := .bool _) rfl rfl rfl rfl ?_ | refine s_store1 (v := .string _) rfl rfl rfl rfl ?_ | refine s_store1 (v := .map _) rfl rfl rfl rfl ?_ | refine s_store1 (v := _) rfl rfl rfl rfl ?_ | refine s_storeV rfl rfl rfl rfl rfl ?_); refine wpl_nil (qone0 ⟨(by refine st_past (by kernel_rfl) ?_; refine st_past (by kernel_rfl) ?_; exact st_nil), ?_⟩); (refine dw_nil ?_; skip))); refine autoRef0221 ?_)
      (first | (apply retRD1 (G := H) (.inr rfl) rfl; (· first | (refine rv_cell (v := .agg _) rfl (Cell.blk rfl)) | exact rv_cellA rfl Cells.blk0 rfl | (apply rv_cell; (· exact rfl); (· assumption)) | (apply rv_cellA; (· exact rfl); (· assumption); (· exact rfl))); (· exact Ent.auto)) | (apply retRD1 (G := H) (.inl rfl) rfl; (· first | (refine rv_cell (v := .agg _) rfl (Cell.blk rfl)) | exact rv_cellA rfl Cells.blk0 rfl | (apply rv_cell; (· exact rfl); (· assumption)) | (apply rv_cellA; (· exact rfl); (· assumption); (· exact rfl))); (· exact Ent.auto)))
      exact ⟨rfl, rfl⟩
    · refine autoRef0221 ?_
      repeat ((first | (show WPL _ _ _ _ _ (⟨_, .alloc _, _, _, _, none⟩ :: _) _ _ _; refine s_alloc rfl ?_; intro _) | (show WPL _ _ _ _ _ (⟨_, .box _ _, _, _, _, none⟩ :: _) _ _ _; (first | refine s_box (v := .int _ _) rfl rfl rfl ?_ | refine s_box (v := .pointer _) rfl rfl rfl ?_ | refine s_box (v := .slice _ _ _) rfl rfl rfl ?_ | refine s_box (v := .bool _) rfl rfl rfl ?_ | refine s_box (v := .agg _) rfl rfl rfl ?_ | refine s_box (v := .string _) rfl rfl rfl ?_ | refine s_box (v := .func _ _ _) rfl rfl rfl ?_ | refine s_box (v := .float _ _) rfl rfl rfl ?_); intro _) | (show WP _ _ _ _ (.region 4 _ true) _ _ _; (refine wp_draw [7, 8] (.look 0 (.look 1 (.look 2 (.look 3 (.look 4 (.look 5 (.look 6 (.act 7 (.act 8 .nil .stop) .stop)))))))) (by kernel_rfl) ?_; (apply dw_look; (· exact rfl); (· exact rfl); (· (exact lookedG))); (apply dw_pure; (· exact rfl); (· exact rfl); (· (intro G; exact lookedG))); (apply dw_pure; (· exact rfl); (· exact rfl); (· (intro G; exact lookedG))); (apply dw_pure; (· exact rfl); (· exact rfl); (· (intro G; exact lookedG))); (apply dw_pure; (· exact rfl); (· exact rfl); (· (intro G; exact lookedG))); (apply dw_pure; (· exact rfl); (· exact rfl); (· (intro G; exact lookedG))); (apply dw_look; (· exact rfl); (· exact rfl); (· (exact lookedG))); skip); refine dw_do rfl rfl ?_ dw_stop; (first | (apply s_call; (· exact rfl); (· refine rOne ?_ ?_ ?_ <;> (first | assumption | omega | decide | (unfold U32; omega) | exact InH.ent | (apply Rd.ent; (· assumption); (· exact InH.ent)) | exact Rd.nil | (refine Rd.blk0 ?_ ?_; (· rfl); (· simp [maxLen])) | simp)); (· exact rfl); rintro _ _ ⟨e_, rfl⟩; obtain rfl := e_.symm)); refine wpl_nil (qone ⟨(by refine st_past (by kernel_rfl) ?_; refine st_past (by kernel_rfl) ?_; exact st_nil), ?_⟩); (skip); refine dw_do0 rfl rfl ?_ dw_stop; (first | refine s_store1 (v := .int _ _) rfl rfl rfl rfl ?_ | refine s_store1 (v := .pointer _) rfl rfl rfl rfl ?_ | refine s_store1 (v := .slice _ _ _) rfl rfl rfl rfl ?_ | refine s_store1 (v := .bool _) rfl rfl rfl rfl ?_ | refine s_store1 (v := .string _) rfl rfl rfl rfl ?_ | refine s_store1 (v := .map _) rfl rfl rfl rfl ?_ | refine s_store1 (v := _) rfl rfl rfl rfl ?_ | refine s_storeV rfl rfl rfl rfl rfl ?_); refine wpl_nil (qone0 ⟨(by refine st_past (by kernel_rfl) ?_; refine st_past (by kernel_rfl) ?_; exact st_nil), ?_⟩); (refine dw_nil ?_; skip))); refine autoRef0221 ?_)
      (first | (apply retRD1 (G := H) (.inr rfl) rfl; (· first | (refine rv_cell (v := .agg _) rfl (Cell.blk rfl)) | exact rv_cellA rfl Cells.blk0 rfl | (apply rv_cell; (· exact rfl); (· assumption)) | (apply rv_cellA; (· exact rfl); (· assumption); (· exact rfl))); (· exact Ent.auto)) | (apply retRD1 (G := H) (.inl rfl) rfl; (· first | (refine rv_cell (v := .agg _) rfl (Cell.blk rfl)) | exact rv_cellA rfl Cells.blk0 rfl | (apply rv_cell; (· exact rfl); (· assumption)) | (apply rv_cellA; (· exact rfl); (· assumption); (· exact rfl))); (· exact Ent.auto)))
      exact ⟨rfl, rfl⟩
end
end Go.Proofs.YtdmfojjpanndoaaDoor
