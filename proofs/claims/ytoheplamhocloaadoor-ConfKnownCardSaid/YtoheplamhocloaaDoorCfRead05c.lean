/- A config is read of a text: the walk. No condition. -/
import Derived.Test.YtoheplamhocloaaDoorCfRead05b
import Derived.Test.YtoheplamhocloaaDoorCfSplit
import Derived.Test.YtoheplamhocloaaDoorCfRowsT
namespace Go.Proofs.YtoheplamhocloaaDoor
open Go Go.SL
set_option linter.unusedSimpArgs false
set_option linter.unusedVariables false
set_option maxRecDepth 10000
set_option maxHeartbeats 2000000
/-- What reading answers. -/
def readV : Option Cfg → Value
  | some c => .tuple #[cfgV c, .int .i64 0]
  | none => .tuple #[cfgV ⟨0, 0, 0, 0, 0, 0⟩, .int .i64 2]
/-- The config whose first numbers were read. -/
def preC (l : List (List UInt8)) (i : Nat) : Cfg := ⟨if 0 < i then tokAt l 0 else 0, if 1 < i then tokAt l 1 else 0, if 2 < i then tokAt l 2 else 0, if 3 < i then tokAt l 3 else 0, if 4 < i then tokAt l 4 else 0, if 5 < i then tokAt l 5 else 0⟩
theorem preC_next (l : List (List UInt8)) {i : Nat} (h : i < 6) : (cv (preC l i)).set i (.int .i64 (tokAt l i)) = cv (preC l (i + 1)) := by
  match i, h with
  | 0, _ => rfl
  | 1, _ => rfl
  | 2, _ => rfl
  | 3, _ => rfl
  | 4, _ => rfl
  | 5, _ => rfl
theorem preC_same (l : List (List UInt8)) {i : Nat} (h : i < 6) (h0 : tokAt l i = 0) : cv (preC l i) = cv (preC l (i + 1)) := by
  rw [← preC_next l h, h0]
  match i, h with
  | 0, _ => rfl
  | 1, _ => rfl
  | 2, _ => rfl
  | 3, _ => rfl
  | 4, _ => rfl
  | 5, _ => rfl
theorem preC_all (l : List (List UInt8)) : preC l 6 = cfgOf l := rfl
theorem preC_none (l : List (List UInt8)) : preC l 0 = ⟨0, 0, 0, 0, 0, 0⟩ := rfl
theorem textC_len (c : Cfg) : (textC c).length ≤ 200 := by
  unfold textC
  by_cases h : RightP c
  · rw [if_pos h]; exact join6_len h
  · rw [if_neg h]; simp
abbrev six (b : Nat) : List Value := [.pointer (some ⟨b, 0, none⟩), .pointer (some ⟨b, 1, none⟩), .pointer (some ⟨b, 2, none⟩), .pointer (some ⟨b, 3, none⟩), .pointer (some ⟨b, 4, none⟩), .pointer (some ⟨b, 5, none⟩)]
theorem six_at (b : Nat) {i : Nat} (h : i < 6) : (six b)[i]? = some (.pointer (some ⟨b, i, none⟩)) := by
  match i, h with
  | 0, _ => rfl
  | 1, _ => rfl
  | 2, _ => rfl
  | 3, _ => rfl
  | 4, _ => rfl
  | 5, _ => rfl
attribute [local irreducible] WP WPL QSeq QBlk QRet Does Cell Cells Rd Mine Ent Aside RV Yield
section
variable {B : World} {F H G : HProp} {c : Cfg}
local instance : Plain Tryd.prog 64 := Plain.of (by kernel_rfl) (by kernel_rfl)
theorem cRead (T : Tab B) (L : LibOk B) {s : List UInt8} (hs : s.length ≤ 1000000) : Does Tryd.prog B 27 [str s] H fun r H' => H' = H ∧ r = readV (readC s) := by
  refine Does.frame0 ?_
  refine fn_intro 51 Tryd.func27 rfl rfl rfl ?_
  refine walk ?_
  refine s_alloc rfl ?_
  intro b
  refine walk ?_
  refine s_call rfl (dSplit L (c := 32) (s := s) (by omega)) rfl ?_
  rintro _ _ ⟨bl, rfl, rfl⟩
  refine walk ?_
  have hlen := cut_len 32 s
  refine walk ?_
  (refine s_buildA (cs := six b) ?_ rfl ?_; (· kernel_rfl))
  refine walk ?_
  refine wp_loopF (α := Nat) [5, 6, 7, 17, 18, 19, 20, 21, 22, 23, 24, 25, 26, 27, 28, 29, 30, 31, 32, 33, 34, 35, 36, 37, 38] (fun i => [(17, .int .i64 i)]) (fun i => blk bl (ss (cutAt 32 s)) 9 + (blk b (cv (preC (cutAt 32 s) i)) 23 + H)) (fun i => i ≤ 6) (fun i => 6 - i) 0 agreed Ent.auto (Nat.zero_le _) ?_
  rintro i f hi
  simp only [putAll]
  by_cases hlt : i < 6
  · have hp := six_at b hlt
    refine walk ?_
    refine s_indexV (j := i) rfl rfl rfl hlt hp rfl ?_
    refine walk ?_
    by_cases hk : 2 * i + 1 < (cutAt 32 s).length
    · have hcell : Cell B (blk bl (ss (cutAt 32 s)) 9) bl (2 * i + 1) (str ((cutAt 32 s)[2 * i + 1])) := Cell.blk (ss_get _ _ hk)
      have ht : tokAt (cutAt 32 s) i = atoiV ((cutAt 32 s)[2 * i + 1]) := by
        unfold tokAt; rw [List.getElem?_eq_getElem hk]
      have hxl : ((cutAt 32 s)[2 * i + 1]).length ≤ 1000000 := Nat.le_trans (cut_piece (List.getElem_mem hk)) hs
      refine walk ?_
      refine s_call rfl (dAtoi L hxl) rfl ?_
      rintro _ _ ⟨e_, x, rfl, _⟩
      obtain rfl := e_.symm
      refine walk ?_
      refine s_extract (v := x) rfl rfl rfl ?_
      refine walk ?_
      refine s_store (v := .int .i64 _) (cs' := cv (preC (cutAt 32 s) (i + 1))) rfl rfl rfl (by simpa using hlt) (by rw [← ht]; exact preC_next _ hlt) ?_
      refine walk ?_
      exact ⟨i + 1, asided, agreed, Ent.auto, hlt, by omega⟩
    · have ht : tokAt (cutAt 32 s) i = 0 := by
        unfold tokAt; rw [List.getElem?_eq_none (by omega)]
      refine walk ?_
      refine ⟨i + 1, asided, agreed, ?_, hlt, by omega⟩
      rw [preC_same _ hlt ht]
      exact Ent.auto
  · obtain rfl : i = 6 := by omega
    rw [preC_all]
    have htl := textC_len (cfgOf (cutAt 32 s))
    have hlen2 := cut_len 32 (textC (cfgOf (cutAt 32 s)))
    refine walk ?_
    refine s_call rfl (cText T (c := cfgOf (cutAt 32 s))) rfl ?_
    rintro _ _ ⟨e_, rfl⟩
    obtain rfl := e_.symm
    refine walk ?_
    refine s_call rfl (dSplit L (c := 32) (s := textC (cfgOf (cutAt 32 s))) (by omega)) rfl ?_
    rintro _ _ ⟨b2, rfl, rfl⟩
    refine walk ?_
    have hm1 : (cutAt 32 s).length ≤ maxLen := by unfold maxLen; omega
    have hm2 : (cutAt 32 (textC (cfgOf (cutAt 32 s)))).length ≤ maxLen := by unfold maxLen; omega
    refine walk ?_
    refine s_call rfl (equalS_spec (xs := cutAt 32 s) (ys := cutAt 32 (textC (cfgOf (cutAt 32 s)))) (Rd.blk0 (e := 9) (by rw [ss_length, Nat.mul_one]) hm1) (Rd.blk0 (e := 9) (by rw [ss_length, Nat.mul_one]) hm2)) rfl ?_
    rintro _ _ ⟨e_, rfl⟩
    obtain rfl := e_.symm
    refine walk ?_
    by_cases he : cutAt 32 s = cutAt 32 (textC (cfgOf (cutAt 32 s)))
    · rw [decide_eq_true he]
      by_cases h0 : s = []
      · rw [read_no (.inr h0)]
        refine walk ?_
        refine s_eqstr rfl rfl (b := true) (by rw [h0]; rfl) rfl ?_
        refine walk ?_
        (refine s_build (cs := cv ⟨0, 0, 0, 0, 0, 0⟩) ?_ rfl ?_; (· kernel_rfl))
        refine s_storeV (vs := cv ⟨0, 0, 0, 0, 0, 0⟩) rfl rfl rfl rfl rfl ?_
        refine walk ?_
        (first | (apply retRD2 (G := H) (.inr rfl) rfl; (· first | (refine rv_cell (v := .agg _) rfl (Cell.blk rfl)) | exact rv_cellA rfl Cells.blk0 rfl | (apply rv_cell; (· exact rfl); (· assumption)) | (apply rv_cellA; (· exact rfl); (· assumption); (· exact rfl))); (· first | (refine rv_tmp (v := .int _ _) rfl) | exact rv_tmp rfl); (· exact Ent.auto)) | (apply retRD2 (G := H) (.inl rfl) rfl; (· first | (refine rv_cell (v := .agg _) rfl (Cell.blk rfl)) | exact rv_cellA rfl Cells.blk0 rfl | (apply rv_cell; (· exact rfl); (· assumption)) | (apply rv_cellA; (· exact rfl); (· assumption); (· exact rfl))); (· first | (refine rv_tmp (v := .int _ _) rfl) | exact rv_tmp rfl); (· exact Ent.auto)))
        exact ⟨Ent.refl _, rfl⟩
      · rw [read_yes he h0]
        refine walk ?_
        refine s_eqstr rfl rfl (b := false) (by simpa using h0) rfl ?_
        refine walk ?_
        refine s_storeV (vs := cv (cfgOf (cutAt 32 s))) rfl rfl rfl rfl rfl ?_
        refine walk ?_
        (first | (apply retRD2 (G := H) (.inr rfl) rfl; (· first | (refine rv_cell (v := .agg _) rfl (Cell.blk rfl)) | exact rv_cellA rfl Cells.blk0 rfl | (apply rv_cell; (· exact rfl); (· assumption)) | (apply rv_cellA; (· exact rfl); (· assumption); (· exact rfl))); (· first | (refine rv_tmp (v := .int _ _) rfl) | exact rv_tmp rfl); (· exact Ent.auto)) | (apply retRD2 (G := H) (.inl rfl) rfl; (· first | (refine rv_cell (v := .agg _) rfl (Cell.blk rfl)) | exact rv_cellA rfl Cells.blk0 rfl | (apply rv_cell; (· exact rfl); (· assumption)) | (apply rv_cellA; (· exact rfl); (· assumption); (· exact rfl))); (· first | (refine rv_tmp (v := .int _ _) rfl) | exact rv_tmp rfl); (· exact Ent.auto)))
        exact ⟨Ent.refl _, rfl⟩
    · rw [decide_eq_false he, read_no (.inl he)]
      refine walk ?_
      (refine s_build (cs := cv ⟨0, 0, 0, 0, 0, 0⟩) ?_ rfl ?_; (· kernel_rfl))
      refine s_storeV (vs := cv ⟨0, 0, 0, 0, 0, 0⟩) rfl rfl rfl rfl rfl ?_
      refine walk ?_
      (first | (apply retRD2 (G := H) (.inr rfl) rfl; (· first | (refine rv_cell (v := .agg _) rfl (Cell.blk rfl)) | exact rv_cellA rfl Cells.blk0 rfl | (apply rv_cell; (· exact rfl); (· assumption)) | (apply rv_cellA; (· exact rfl); (· assumption); (· exact rfl))); (· first | (refine rv_tmp (v := .int _ _) rfl) | exact rv_tmp rfl); (· exact Ent.auto)) | (apply retRD2 (G := H) (.inl rfl) rfl; (· first | (refine rv_cell (v := .agg _) rfl (Cell.blk rfl)) | exact rv_cellA rfl Cells.blk0 rfl | (apply rv_cell; (· exact rfl); (· assumption)) | (apply rv_cellA; (· exact rfl); (· assumption); (· exact rfl))); (· first | (refine rv_tmp (v := .int _ _) rfl) | exact rv_tmp rfl); (· exact Ent.auto)))
      exact ⟨Ent.refl _, rfl⟩
theorem rRead {s : List UInt8} (hs : s.length < 100) : Does Tryd.prog B 28 [str s] H fun r H' => H' = H ∧ r = readV (readC s) := by
  refine Does.frame0 ?_
  refine fn_intro 80 Tryd.func28 rfl rfl rfl ?_
  refine walkG ?_
  refine s_alloc rfl ?_
  intro b
  refine walkG ?_
  refine wp_loopF (α := Nat × Int × Value × List Int) [4, 5, 6, 8, 9, 10, 11, 12, 13, 14, 15, 16, 17, 18, 19, 20, 21, 22, 23, 24, 25, 26, 27, 28, 29, 30, 31, 32, 33, 34, 35, 36, 37, 38, 39, 40, 41, 42, 43, 44, 45, 46, 47, 48, 49, 50] (fun x => [(4, x.2.2.1), (5, .int .i64 x.2.1), (6, .int .i64 x.1)]) (fun x => Mine 3 1 x.2.2.1 x.2.2.2.length (zs x.2.2.2) + (blk b (cv ⟨0, 0, 0, 0, 0, 0⟩) 25 + H)) (fun x => x.1 ≤ s.length + 1 ∧ -1 ≤ x.2.1 ∧ x.2.1 ≤ 1000000 ∧ x.2.2.2.length ≤ x.1 ∧ x.2.2.2 ++ runs 1000000 (s.drop x.1) x.2.1 = runs5 s ∧ (x.1 = s.length + 1 → x.2.1 = -1)) (fun x => s.length + 1 - x.1) (0, -1, .slice none 0 0, []) agreed ?_ ⟨Nat.zero_le _, by simp, by simp, by simp, by simp, by simp⟩ ?_
  · show Ent _ (Mine 3 1 (.slice none 0 0) 0 [] + _)
    rw [Mine.nil, HProp.emp_add]
    exact Ent.refl _
  rintro ⟨i, n, v, l⟩ f ⟨hi, hn0, hn1, hl, hr, he⟩
  simp only at hi hn0 hn1 hl hr he
  simp only [putAll]
  by_cases hle : i ≤ s.length
  · by_cases hlt : i < s.length
    · have hdrop : s.drop i = s[i] :: s.drop (i + 1) := List.drop_eq_getElem_cons hlt
      by_cases hg : isDig s[i]
      · obtain ⟨g1, g2⟩ := id hg
        have hmm : (if n ≤ 0 then 0 else n) = max n 0 := by omega
        have hmx : min (max n 0 * 10 + ((s[i].toNat : Int) - 48)) 1000000 = min (max n 0 * 10 + ((s[i].toNat : Int) - 48)) 1000000 := rfl
        refine walkG ?_
        refine s_sindex (j := i) rfl rfl rfl hlt rfl ?_
        refine walkG ?_
        refine s_sindex (j := i) rfl rfl rfl hlt rfl ?_
        refine walkG ?_
        refine s_max2 rfl rfl rfl rfl ?_
        refine walkG ?_
        refine s_sindex (j := i) rfl rfl rfl hlt rfl ?_
        refine walkG ?_
        refine s_min2 rfl rfl rfl rfl ?_
        refine walkG ?_
        refine ⟨(i + 1, min (max n 0 * 10 + ((s[i].toNat : Int) - 48)) 1000000, v, l), asided, agreed, ?_, ⟨by simp only; omega, by simp only; omega, by simp only; omega, by simp only; omega, ?_, by simp only; omega⟩, by simp only; omega⟩
        · exact Ent.auto
        · simp only
          rw [← hr, hdrop, runs, if_pos hg]
      · have hd : runs 1000000 (s.drop i) n = (if 0 ≤ n then [n] else []) ++ runs 1000000 (s.drop (i + 1)) (-1) := by rw [hdrop, runs_no hg]
        by_cases g1 : 48 ≤ s[i].toNat
        · have g2 : ¬ s[i].toNat ≤ 57 := fun h => hg ⟨g1, h⟩
          by_cases hn : 0 ≤ n
          · refine walkG ?_
            refine s_sindex (j := i) rfl rfl rfl hlt rfl ?_
            refine walkG ?_
            refine s_sindex (j := i) rfl rfl rfl hlt rfl ?_
            refine walkG ?_
            refine s_buildInts (cs := zs [n]) rfl rfl rfl rfl rfl ?_
            intro b7
            refine s_append (v := v) rfl rfl (Rd.blk0 (m := 1) (e := 3) rfl (by simp [maxLen])) rfl rfl ?_ rfl ?_
            · simp only [maxLen]; omega
            intro v8
            refine walkG ?_
            refine ⟨(i + 1, -1, v8, l ++ [n]), asided, agreed, ?_, ⟨by simp only; omega, by simp, by simp, by simp only [len_push]; omega, ?_, by simp⟩, by simp only; omega⟩
            · simp only [len_push, zs_append]
              exact Ent.auto
            · simp only
              rw [← hr, hd, if_pos hn, List.append_assoc]
          · obtain rfl : n = -1 := by omega
            refine walkG ?_
            refine s_sindex (j := i) rfl rfl rfl hlt rfl ?_
            refine walkG ?_
            refine s_sindex (j := i) rfl rfl rfl hlt rfl ?_
            refine walkG ?_
            refine ⟨(i + 1, -1, v, l), asided, agreed, ?_, ⟨by simp only; omega, by simp, by simp, by simp only; omega, ?_, by simp⟩, by simp only; omega⟩
            · exact Ent.auto
            · simp only
              rw [← hr, hd, if_neg (by omega), List.nil_append]
        · by_cases hn : 0 ≤ n
          · refine walkG ?_
            refine s_sindex (j := i) rfl rfl rfl hlt rfl ?_
            refine walkG ?_
            refine s_buildInts (cs := zs [n]) rfl rfl rfl rfl rfl ?_
            intro b7
            refine s_append (v := v) rfl rfl (Rd.blk0 (m := 1) (e := 3) rfl (by simp [maxLen])) rfl rfl ?_ rfl ?_
            · simp only [maxLen]; omega
            intro v8
            refine walkG ?_
            refine ⟨(i + 1, -1, v8, l ++ [n]), asided, agreed, ?_, ⟨by simp only; omega, by simp, by simp, by simp only [len_push]; omega, ?_, by simp⟩, by simp only; omega⟩
            · simp only [len_push, zs_append]
              exact Ent.auto
            · simp only
              rw [← hr, hd, if_pos hn, List.append_assoc]
          · obtain rfl : n = -1 := by omega
            refine walkG ?_
            refine s_sindex (j := i) rfl rfl rfl hlt rfl ?_
            refine walkG ?_
            refine ⟨(i + 1, -1, v, l), asided, agreed, ?_, ⟨by simp only; omega, by simp, by simp, by simp only; omega, ?_, by simp⟩, by simp only; omega⟩
            · exact Ent.auto
            · simp only
              rw [← hr, hd, if_neg (by omega), List.nil_append]
    · have hil : i = s.length := by omega
      have hd : runs 1000000 (s.drop i) n = (if 0 ≤ n then [n] else []) ++ runs 1000000 (s.drop (i + 1)) (-1) := by
        have e1 : s.drop i = [] := List.drop_of_length_le (by omega)
        have e2 : s.drop (i + 1) = [] := List.drop_of_length_le (by omega)
        rw [e1, e2]
        simp [runs]
      by_cases hn : 0 ≤ n
      · skip
        refine walkG ?_
        refine s_buildInts (cs := zs [n]) rfl rfl rfl rfl rfl ?_
        intro b7
        refine s_append (v := v) rfl rfl (Rd.blk0 (m := 1) (e := 3) rfl (by simp [maxLen])) rfl rfl ?_ rfl ?_
        · simp only [maxLen]; omega
        intro v8
        refine walkG ?_
        refine ⟨(i + 1, -1, v8, l ++ [n]), asided, agreed, ?_, ⟨by simp only; omega, by simp, by simp, by simp only [len_push]; omega, ?_, by simp⟩, by simp only; omega⟩
        · simp only [len_push, zs_append]
          exact Ent.auto
        · simp only
          rw [← hr, hd, if_pos hn, List.append_assoc]
      · obtain rfl : n = -1 := by omega
        refine walkG ?_
        refine ⟨(i + 1, -1, v, l), asided, agreed, ?_, ⟨by simp only; omega, by simp, by simp, by simp only; omega, ?_, by simp⟩, by simp only; omega⟩
        · exact Ent.auto
        · simp only
          rw [← hr, hd, if_neg (by omega), List.nil_append]
  · have hr5 : l = runs5 s := by
      have := he (by omega)
      subst this
      rw [List.drop_of_length_le (by omega), runs, if_neg (by omega), List.append_nil] at hr
      exact hr
    by_cases h6 : l.length = 6
    · rw [h6]
      obtain ⟨a0, a1, a2, a3, a4, a5, rfl⟩ : ∃ a0 a1 a2 a3 a4 a5, l = [a0, a1, a2, a3, a4, a5] := by
        match l, h6 with
        | [a0, a1, a2, a3, a4, a5], _ => exact ⟨a0, a1, a2, a3, a4, a5, rfl⟩
      have hrs := runs_six (c := ⟨a0, a1, a2, a3, a4, a5⟩) hr5.symm
      refine WP.shape ?_
      rintro av cap rfl _ hcap _
      refine WP.open (by simp) ?_
      rintro g9 sp rfl _
      have hc : Cells B (blk g9 (zs [a0, a1, a2, a3, a4, a5] ++ sp) 3) g9 0 (zs [a0, a1, a2, a3, a4, a5]) := by
        refine Cells.blk ?_
        intro j v h
        have hlt : j < (zs [a0, a1, a2, a3, a4, a5]).length := (List.getElem?_eq_some_iff.1 h).1
        rw [Nat.zero_add, List.getElem?_append_left hlt]
        exact h
      have cc : ∀ j v, (zs [a0, a1, a2, a3, a4, a5])[j]? = some v → Cell B (blk g9 (zs [a0, a1, a2, a3, a4, a5] ++ sp) 3) g9 j v := fun j v h => by
        have := hc.cell h
        rwa [Nat.zero_add] at this
      have c0 := cc 0 (.int .i64 a0) rfl
      have c1 := cc 1 (.int .i64 a1) rfl
      have c2 := cc 2 (.int .i64 a2) rfl
      have c3 := cc 3 (.int .i64 a3) rfl
      have c4 := cc 4 (.int .i64 a4) rfl
      have c5 := cc 5 (.int .i64 a5) rfl
      refine walkG ?_
      (refine wp_draw [19, 20] (.look 0 (.look 1 (.look 2 (.look 3 (.look 4 (.look 5 (.look 6 (.look 7 (.look 8 (.look 9 (.look 10 (.look 11 (.look 12 (.look 13 (.look 14 (.look 15 (.look 16 (.look 17 (.look 18 (.act 19 (.act 20 .nil .stop) .stop)))))))))))))))))))) (by kernel_rfl) ?_; (apply dw_pure; (· exact rfl); (· exact rfl); (· (intro G; exact looked))); (apply dw_pure; (· exact rfl); (· exact rfl); (· (intro G; (apply s_indexAddr (j := 0) (o' := 0); (· exact rfl); (· exact rfl); (· omega); (· omega); (· omega); (· exact rfl)); exact looked))); (apply dw_look; (· exact rfl); (· exact rfl); (· (exact looked))); (apply dw_pure; (· exact rfl); (· exact rfl); (· (intro G; exact looked))); (apply dw_pure; (· exact rfl); (· exact rfl); (· (intro G; (apply s_indexAddr (j := 1) (o' := 1); (· exact rfl); (· exact rfl); (· omega); (· omega); (· omega); (· exact rfl)); exact looked))); (apply dw_look; (· exact rfl); (· exact rfl); (· (exact looked))); (apply dw_pure; (· exact rfl); (· exact rfl); (· (intro G; exact looked))); (apply dw_pure; (· exact rfl); (· exact rfl); (· (intro G; (apply s_indexAddr (j := 2) (o' := 2); (· exact rfl); (· exact rfl); (· omega); (· omega); (· omega); (· exact rfl)); exact looked))); (apply dw_look; (· exact rfl); (· exact rfl); (· (exact looked))); (apply dw_pure; (· exact rfl); (· exact rfl); (· (intro G; exact looked))); (apply dw_pure; (· exact rfl); (· exact rfl); (· (intro G; (apply s_indexAddr (j := 3) (o' := 3); (· exact rfl); (· exact rfl); (· omega); (· omega); (· omega); (· exact rfl)); exact looked))); (apply dw_look; (· exact rfl); (· exact rfl); (· (exact looked))); (apply dw_pure; (· exact rfl); (· exact rfl); (· (intro G; exact looked))); (apply dw_pure; (· exact rfl); (· exact rfl); (· (intro G; (apply s_indexAddr (j := 4) (o' := 4); (· exact rfl); (· exact rfl); (· omega); (· omega); (· omega); (· exact rfl)); exact looked))); (apply dw_look; (· exact rfl); (· exact rfl); (· (exact looked))); (apply dw_pure; (· exact rfl); (· exact rfl); (· (intro G; exact looked))); (apply dw_pure; (· exact rfl); (· exact rfl); (· (intro G; (apply s_indexAddr (j := 5) (o' := 5); (· exact rfl); (· exact rfl); (· omega); (· omega); (· omega); (· exact rfl)); exact looked))); (apply dw_look; (· exact rfl); (· exact rfl); (· (exact looked))); (apply dw_pure; (· exact rfl); (· exact rfl); (· (intro G; (refine s_build (cs := cv ⟨a0, a1, a2, a3, a4, a5⟩) ?_ rfl ?_; (· kernel_rfl)); exact looked))); skip)
      refine dw_do rfl rfl ?_ dw_stop
      refine s_alloc rfl ?_
      intro b7
      refine wpl_nil (qone ⟨(by (refine st_again ?_ ?_; (· exact looked)); (refine st_again ?_ ?_; (· exact looked)); (refine st_again ?_ ?_; (· exact looked)); (refine st_again ?_ ?_; (· exact looked)); (refine st_again ?_ ?_; (· exact looked)); (refine st_again ?_ ?_; (· exact looked)); exact st_nil), ?_⟩)
      (skip)
      refine dw_do0 rfl rfl ?_ dw_stop
      refine s_storeV (vs := cv ⟨a0, a1, a2, a3, a4, a5⟩) rfl rfl rfl rfl rfl ?_
      refine wpl_nil (qone0 ⟨(by refine st_past (by kernel_rfl) ?_; refine st_past (by kernel_rfl) ?_; refine st_past (by kernel_rfl) ?_; refine st_past (by kernel_rfl) ?_; refine st_past (by kernel_rfl) ?_; refine st_past (by kernel_rfl) ?_; exact st_nil), ?_⟩)
      (refine dw_nil ?_; skip)
      refine walkG ?_
      refine s_call rfl (rText (c := ⟨a0, a1, a2, a3, a4, a5⟩)) rfl ?_
      rintro _ _ ⟨e_, rfl⟩
      obtain rfl := e_.symm
      refine walk ?_
      rw [hrs]
      by_cases ht : textC ⟨a0, a1, a2, a3, a4, a5⟩ = s
      · rw [if_pos ht]
        refine s_nestr rfl rfl (b := false) (by rw [ht]; simp) rfl ?_
        refine walkG ?_
        (first | (apply retRD2 (G := H) (.inr rfl) rfl; (· first | (refine rv_cell (v := .agg _) rfl (Cell.blk rfl)) | exact rv_cellA rfl Cells.blk0 rfl | (apply rv_cell; (· exact rfl); (· assumption)) | (apply rv_cellA; (· exact rfl); (· assumption); (· exact rfl))); (· first | (refine rv_tmp (v := .int _ _) rfl) | exact rv_tmp rfl); (· exact Ent.auto)) | (apply retRD2 (G := H) (.inl rfl) rfl; (· first | (refine rv_cell (v := .agg _) rfl (Cell.blk rfl)) | exact rv_cellA rfl Cells.blk0 rfl | (apply rv_cell; (· exact rfl); (· assumption)) | (apply rv_cellA; (· exact rfl); (· assumption); (· exact rfl))); (· first | (refine rv_tmp (v := .int _ _) rfl) | exact rv_tmp rfl); (· exact Ent.auto)))
        exact ⟨Ent.refl _, rfl⟩
      · rw [if_neg ht]
        refine s_nestr rfl rfl (b := true) (by simpa using ht) rfl ?_
        refine walkG ?_
        (refine s_build (cs := cv ⟨0, 0, 0, 0, 0, 0⟩) ?_ rfl ?_; (· kernel_rfl))
        refine s_storeV (vs := cv ⟨0, 0, 0, 0, 0, 0⟩) rfl rfl rfl rfl rfl ?_
        refine walkG ?_
        (first | (apply retRD2 (G := H) (.inr rfl) rfl; (· first | (refine rv_cell (v := .agg _) rfl (Cell.blk rfl)) | exact rv_cellA rfl Cells.blk0 rfl | (apply rv_cell; (· exact rfl); (· assumption)) | (apply rv_cellA; (· exact rfl); (· assumption); (· exact rfl))); (· first | (refine rv_tmp (v := .int _ _) rfl) | exact rv_tmp rfl); (· exact Ent.auto)) | (apply retRD2 (G := H) (.inl rfl) rfl; (· first | (refine rv_cell (v := .agg _) rfl (Cell.blk rfl)) | exact rv_cellA rfl Cells.blk0 rfl | (apply rv_cell; (· exact rfl); (· assumption)) | (apply rv_cellA; (· exact rfl); (· assumption); (· exact rfl))); (· first | (refine rv_tmp (v := .int _ _) rfl) | exact rv_tmp rfl); (· exact Ent.auto)))
        exact ⟨Ent.refl _, rfl⟩
    · rw [runs_not6 (by rw [← hr5]; exact h6)]
      refine WP.shape ?_
      rintro av cap rfl _ hcap _
      refine walkG ?_
      (refine s_build (cs := cv ⟨0, 0, 0, 0, 0, 0⟩) ?_ rfl ?_; (· kernel_rfl))
      refine s_storeV (vs := cv ⟨0, 0, 0, 0, 0, 0⟩) rfl rfl rfl rfl rfl ?_
      refine walkG ?_
      (first | (apply retRD2 (G := H) (.inr rfl) rfl; (· first | (refine rv_cell (v := .agg _) rfl (Cell.blk rfl)) | exact rv_cellA rfl Cells.blk0 rfl | (apply rv_cell; (· exact rfl); (· assumption)) | (apply rv_cellA; (· exact rfl); (· assumption); (· exact rfl))); (· first | (refine rv_tmp (v := .int _ _) rfl) | exact rv_tmp rfl); (· exact Ent.auto)) | (apply retRD2 (G := H) (.inl rfl) rfl; (· first | (refine rv_cell (v := .agg _) rfl (Cell.blk rfl)) | exact rv_cellA rfl Cells.blk0 rfl | (apply rv_cell; (· exact rfl); (· assumption)) | (apply rv_cellA; (· exact rfl); (· assumption); (· exact rfl))); (· first | (refine rv_tmp (v := .int _ _) rfl) | exact rv_tmp rfl); (· exact Ent.auto)))
      exact ⟨Ent.refl _, rfl⟩
end
end Go.Proofs.YtoheplamhocloaaDoor
